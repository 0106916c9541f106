/- Parts of the proof, joined into one text: LxText. -/
import Derived.Test.YtocelmjncjompaaDoorZLxExt

namespace Go.Proofs.YtocelmjncjompaaDoor
open Go.RowKit
open Lx (Tok)

theorem Lx.same_self : ∀ l : List Tok, Lx.same l l = true
  | [] => rfl
  | t :: r => by
    rw [Lx.same, Lx.same_self r]
    simp [Lx.same1]
theorem lTextAny (A : Option Addr) (c : Nat) (l : List Tok) (x : ByteArray) (e0 : Int) (w : World) (he : Env w) (h : Toks w w.heap.size A l) (hl : l.length ≤ 65536) (hx : (x, e0) = match Lx.text l with | some s => (Lx.bs s, 0) | none => (⟨#[]⟩, 90)) :
    Calls Tryd.prog 19 #[.slice A l.length c] w fun e w' => e = .returned (.tuple #[.string x, .int .i64 e0]) ∧ Below w.heap.size w w' := by
  refine (lText A c l w he h hl).mono fun e w' ⟨hb, h⟩ => ?_
  cases ht : Lx.text l with
  | none => rw [ht] at h hx; injection hx with h1 h2; subst h1; subst h2; exact ⟨h, hb⟩
  | some s => rw [ht] at h hx; injection hx with h1 h2; subst h1; subst h2; exact ⟨h, hb⟩
theorem rTextAny (A : Option Addr) (c : Nat) (l : List Tok) (x : ByteArray) (e0 : Int) (w : World) (h : Toks w w.heap.size A l) (hl : l.length ≤ 65536) (hx : (x, e0) = match Lx.text l with | some s => (Lx.bs s, 0) | none => (⟨#[]⟩, 90)) :
    Calls Tryd.prog 20 #[.slice A l.length c] w fun e w' => e = .returned (.tuple #[.string x, .int .i64 e0]) ∧ Below w.heap.size w w' := by
  refine (rText A c l w h hl).mono fun e w' ⟨hb, h⟩ => ?_
  cases ht : Lx.text l with
  | none => rw [ht] at h hx; injection hx with h1 h2; subst h1; subst h2; exact ⟨h, hb⟩
  | some s => rw [ht] at h hx; injection hx with h1 h2; subst h1; subst h2; exact ⟨h, hb⟩

set_option maxHeartbeats 2000000 in
theorem lawTextSpec (A : Option Addr) (c : Nat) (l : List Tok) (A' : Option Addr) (c' : Nat) (l' : List Tok) (s : ByteArray) (w : World) (hT : Toks w w.heap.size A l) (hT' : Toks w w.heap.size A' l') (hs : s.size ≤ 140737488355327) (he : Env w) :
    Calls Tryd.prog 4 #[.slice A l.length c, .slice A' l'.length c', .string s] w fun e w' => e = .returned (.bool true) ∧ Below w.heap.size w w' := by
  have hsane := lSane w he
  have Hsane := Lib.hid hsane; have HE := Lib.hid he; have HT := Lib.hid hT; have HT' := Lib.hid hT'
  clear hsane he hT hT'
  cases hfew : Lx.few l
  · go_enter Tryd.func4, Tryd.ntmps4
    go_wp2_with fail
    refine (Hsane.out).mono ?_
    rintro e w1 ⟨rfl, hb1⟩
    have ht1 := (HT.out.below hb1 (Nat.le_refl _)).mono hb1.size
    have ht2 := (HT'.out.below hb1 (Nat.le_refl _)).mono hb1.size
    have hf := rFew A c l w1 ht1
    have hf2 := rFew A' c' l' w1 ht2
    rw [hfew] at hf
    have HF := Lib.hid hf; have HT1 := Lib.hid ht1; have HT2 := Lib.hid ht2; have HB1 := Lib.hid hb1; clear hf hf2 ht1 ht2 hb1
    go_wp2_with fail
    refine (HF.out).mono ?_
    rintro e w2 ⟨rfl, rfl⟩
    go_wp2_with fail
    go_ret
    exact ⟨rfl, HB1.out⟩
  cases hfew2 : Lx.few l'
  · go_enter Tryd.func4, Tryd.ntmps4
    go_wp2_with fail
    refine (Hsane.out).mono ?_
    rintro e w1 ⟨rfl, hb1⟩
    have ht1 := (HT.out.below hb1 (Nat.le_refl _)).mono hb1.size
    have ht2 := (HT'.out.below hb1 (Nat.le_refl _)).mono hb1.size
    have hf := rFew A c l w1 ht1
    have hf2 := rFew A' c' l' w1 ht2
    rw [hfew] at hf
    rw [hfew2] at hf2
    have HF := Lib.hid hf; have HF2 := Lib.hid hf2; have HT1 := Lib.hid ht1; have HT2 := Lib.hid ht2; have HB1 := Lib.hid hb1; clear hf hf2 ht1 ht2 hb1
    go_wp2_with fail
    refine (HF.out).mono ?_
    rintro e w2 ⟨rfl, rfl⟩
    go_wp2_with fail
    refine (HF2.out).mono ?_
    rintro e w2 ⟨rfl, rfl⟩
    go_wp2_with fail
    go_ret
    exact ⟨rfl, HB1.out⟩
  by_cases hlen : 1000 < s.size
  · go_enter Tryd.func4, Tryd.ntmps4
    go_wp2_with fail
    refine (Hsane.out).mono ?_
    rintro e w1 ⟨rfl, hb1⟩
    have ht1 := (HT.out.below hb1 (Nat.le_refl _)).mono hb1.size
    have ht2 := (HT'.out.below hb1 (Nat.le_refl _)).mono hb1.size
    have hf := rFew A c l w1 ht1
    have hf2 := rFew A' c' l' w1 ht2
    rw [hfew] at hf
    rw [hfew2] at hf2
    have HF := Lib.hid hf; have HF2 := Lib.hid hf2; have HT1 := Lib.hid ht1; have HT2 := Lib.hid ht2; have HB1 := Lib.hid hb1; clear hf hf2 ht1 ht2 hb1
    go_wp2_with fail
    refine (HF.out).mono ?_
    rintro e w2 ⟨rfl, rfl⟩
    go_wp2_with fail
    refine (HF2.out).mono ?_
    rintro e w2 ⟨rfl, rfl⟩
    go_wp2_with fail
    go_ret
    exact ⟨rfl, HB1.out⟩
  have hlen' : s.size ≤ 1000 := by omega
  clear hlen
  have hl := Lx.few_len hfew
  obtain ⟨x, e0, hx⟩ : ∃ (x : ByteArray) (e0 : Int), (x, e0) = match Lx.text l with | some s => (Lx.bs s, 0) | none => (⟨#[]⟩, 90) := ⟨_, _, rfl⟩
  obtain ⟨q, hq⟩ : ∃ q, Lx.same l l' = q := ⟨_, rfl⟩
  obtain ⟨nm, hnm⟩ : ∃ nm, Lx.isName s.data.toList = nm := ⟨_, rfl⟩
  have HX := Lib.hid hx; have HQ := Lib.hid hq; have HN := Lib.hid hnm
  clear hx hq hnm
  go_enter Tryd.func4, Tryd.ntmps4
  go_wp2_with fail
  refine (Hsane.out).mono ?_
  rintro e w1 ⟨rfl, hb1⟩
  have ht1 := (HT.out.below hb1 (Nat.le_refl _)).mono hb1.size
  have ht2 := (HT'.out.below hb1 (Nat.le_refl _)).mono hb1.size
  have hf := rFew A c l w1 ht1
  have hf2 := rFew A' c' l' w1 ht2
  rw [hfew] at hf
  rw [hfew2] at hf2
  have HF := Lib.hid hf; have HF2 := Lib.hid hf2; have HT1 := Lib.hid ht1; have HT2 := Lib.hid ht2; have HB1 := Lib.hid hb1; clear hf hf2 ht1 ht2 hb1
  go_wp2_with fail
  refine (HF.out).mono ?_
  rintro e w2 ⟨rfl, rfl⟩
  go_wp2_with fail
  refine (HF2.out).mono ?_
  rintro e w2 ⟨rfl, rfl⟩
  go_wp2_with fail
  refine (lTextAny A c l x e0 w1 (HE.out.next HB1.out) HT1.out (by omega) HX.out).mono ?_
  rintro e w3 ⟨rfl, hb3⟩
  have ht3 := (HT1.out.below hb3 (Nat.le_refl _)).mono hb3.size
  have HT3 := Lib.hid ht3; have HB3 := Lib.hid hb3; clear ht3 hb3
  go_wp2_with fail
  refine (rTextAny A c l x e0 w3 HT3.out (by omega) HX.out).mono ?_
  rintro e w4 ⟨rfl, hb4⟩
  have ht4 := (HT3.out.below hb4 (Nat.le_refl _)).mono hb4.size
  have ht4' := (HT2.out.below (HB3.out.trans (hb4.mono HB3.out.size)) (Nat.le_refl _)).mono (Nat.le_trans HB3.out.size hb4.size)
  have hs5 := lSame A A' c c' l l' w4 ht4 ht4'
  rw [HQ.out] at hs5
  have HS5 := Lib.hid hs5
  have HT4 := Lib.hid ht4; have HT4' := Lib.hid ht4'; have HB4 := Lib.hid hb4; clear ht4 ht4' hb4 hs5
  go_wp2_with fail
  refine (HS5.out).mono ?_
  rintro e w5 ⟨rfl, hb5⟩
  have ht5 := (HT4.out.below hb5 (Nat.le_refl _)).mono hb5.size
  have ht5' := (HT4'.out.below hb5 (Nat.le_refl _)).mono hb5.size
  have hs6 := rSame A A' c c' l l' w5 ht5 ht5'
  rw [HQ.out] at hs6
  have HS6 := Lib.hid hs6
  have HT5 := Lib.hid ht5; have HB5 := Lib.hid hb5; clear ht5 ht5' hb5 hs6
  go_wp2_with fail
  refine (HS6.out).mono ?_
  rintro e w6 ⟨rfl, n6, rfl⟩
  have hs7 := lSame A A c c l l (w5.drewN n6) (HT5.out.drewN n6) (HT5.out.drewN n6)
  rw [Lx.same_self] at hs7
  have HS7 := Lib.hid hs7; clear hs7
  go_wp2_with fail
  refine (HS7.out).mono ?_
  rintro e w7 ⟨rfl, hb7⟩
  have HB7 := Lib.hid hb7; clear hb7
  have hn8 := lName s w7 (by unfold maxLen; omega)
  have hn9 := rName s w7 (by unfold maxLen; omega)
  rw [HN.out] at hn8 hn9
  have HN8 := Lib.hid hn8; have HN9 := Lib.hid hn9; clear hn8 hn9
  go_wp2_with fail
  refine (HN8.out).mono ?_
  rintro e w8 ⟨rfl, rfl⟩
  go_wp2_with fail
  refine (HN9.out).mono ?_
  rintro e w9 ⟨rfl, rfl⟩
  go_wp2_with fail
  go_ret
  exact ⟨ret_bool (by simp), HB1.out.trans ((HB3.out.trans ((HB4.out.trans ((bel_drewN HB5.out n6).trans (HB7.out.mono HB5.out.size) |>.mono (Nat.le_refl _) |>.mono HB4.out.size)).mono HB3.out.size)).mono HB1.out.size)⟩
end Go.Proofs.YtocelmjncjompaaDoor
