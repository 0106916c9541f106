/- The law LexSpec: lexing is as the reference has it: the walk. -/
import Derived.Test.YtocelmjncjompaaDoorLxRefLex
namespace Go.Proofs.YtocelmjncjompaaDoor
open Go.RowKit
open Lx (Tok)

/-- Both ways of lexing answer alike. -/
def LexBoth (l : List Tok) (p e0 : Int) (w : World) (e : Ending) (w' : World) : Prop :=
  ∃ A c, e = .returned (.tuple #[.slice A l.length c, .int .i64 p, .int .i64 e0]) ∧ Toks w' w'.heap.size A l ∧ Below w.heap.size w w'
theorem lexPost_both {s : List UInt8} {w w' : World} {e : Ending} {l : List Tok} {p e0 : Int} (hx : (l, p, e0) = (if 65536 < s.length then ([], (0 : Int), (2 : Int)) else match Lx.lex s with | .ok l => (l, (0 : Int), (0 : Int)) | .err q => ([], (q : Int), (90 : Int)))) (h : LexPost s w e w') : LexBoth l p e0 w e w' := by
  obtain ⟨hb, h⟩ := h
  split at h
  · rename_i hl
    rw [if_pos hl] at hx
    injection hx with h1 h2
    injection h2 with h2 h3
    subst h1; subst h2; subst h3
    exact ⟨none, 0, h, Toks.nil _ _ _, hb⟩
  · rename_i hl
    rw [if_neg hl] at hx
    cases hr : Lx.lex s with
    | ok m =>
      rw [hr] at h hx
      injection hx with h1 h2
      injection h2 with h2 h3
      subst h1; subst h2; subst h3
      obtain ⟨A, c, h1, h2⟩ := h
      exact ⟨A, c, h1, h2, hb⟩
    | err q =>
      rw [hr] at h hx
      injection hx with h1 h2
      injection h2 with h2 h3
      subst h1; subst h2; subst h3
      exact ⟨none, 0, h, Toks.nil _ _ _, hb⟩

set_option maxHeartbeats 2000000 in
theorem lawSpec (s : ByteArray) (w : World) (hs : s.size ≤ 140737488355327) (he : Env w) : Calls Tryd.prog 3 #[.string s] w fun e w' => e = .returned (.bool true) ∧ Below w.heap.size w w' := by
  have hsane := lSane w he
  have Hsane := Lib.hid hsane; have HE := Lib.hid he
  clear hsane he
  by_cases hlen : 70000 < s.size
  · go_enter Tryd.func3, Tryd.ntmps3
    go_wp2_with fail
    refine (Hsane.out).mono ?_
    rintro e w1 ⟨rfl, hb1⟩
    have HB1 := Lib.hid hb1; clear hb1
    go_wp2_with fail
    go_ret
    exact ⟨rfl, HB1.out⟩
  have hlen' : s.size ≤ 70000 := by omega
  clear hlen
  obtain ⟨l, p, e0, hx⟩ : ∃ (l : List Tok) (p e0 : Int), (l, p, e0) = (if 65536 < s.data.toList.length then ([], (0 : Int), (2 : Int)) else match Lx.lex s.data.toList with | .ok l => (l, (0 : Int), (0 : Int)) | .err q => ([], (q : Int), (90 : Int))) := ⟨_, _, _, rfl⟩
  have hb1 := fun w1 (h1 : Env w1) => (lLex s w1 (by unfold maxLen; omega) h1).mono fun e w' h => lexPost_both hx h
  have hb2 := fun w1 => (rLex s w1 (by unfold maxLen; omega)).mono fun e w' h => lexPost_both hx h
  have HL := Lib.hid hb1; have HR := Lib.hid hb2
  clear hb1 hb2 hx
  go_enter Tryd.func3, Tryd.ntmps3
  go_wp2_with fail
  refine (Hsane.out).mono ?_
  rintro e w1 ⟨rfl, hb1⟩
  have HB1 := Lib.hid hb1; clear hb1
  go_wp2_with fail
  refine (HL.out w1 (HE.out.next HB1.out)).mono ?_
  rintro e w2 ⟨A2, c2, rfl, hT2, hb2⟩
  have HT2 := Lib.hid hT2; have HB2 := Lib.hid hb2; clear hT2 hb2
  go_wp2_with fail
  refine (HR.out w2).mono ?_
  rintro e w3 ⟨A3, c3, rfl, hT3, hb3⟩
  have heq := rEqual A2 A3 c2 c3 l l w3 ((HT2.out.below hb3 (Nat.le_refl _)).mono hb3.size) hT3
  rw [decide_eq_true rfl] at heq
  have Heq := Lib.hid heq; have HB3 := Lib.hid hb3; clear hT3 hb3 heq
  go_wp2_with fail
  refine (Heq.out).mono ?_
  rintro e w4 ⟨rfl, n4, rfl⟩
  go_wp2_with fail
  go_ret
  exact ⟨ret_bool (by simp), bel_drewN (HB1.out.trans ((HB2.out.trans (HB3.out.mono HB2.out.size)).mono HB1.out.size)) n4⟩
end Go.Proofs.YtocelmjncjompaaDoor
