/- The walk of Lex. -/
import Derived.Test.YtocelmjncjompaaDoorLxI
namespace Go.Proofs.YtocelmjncjompaaDoor
open Go.RowKit
open Lx (Tok)

set_option maxHeartbeats 2000000 in
theorem lLexShort (s : ByteArray) (w : World) (he : Env w) (h : s.size ≤ 65536) : Calls Tryd.prog 15 #[.string s] w (LexPost s.data.toList w) := by
  have hmf : ∀ (fn : Fn) (first cap : Array Value) (w : World), (Instr.makeFunc fn first cap).run Tryd.prog w = .ok (.func fn first cap) w := fun _ _ _ _ => rfl
  have h7 : 7 ≤ w.heap.size := he.size
  go_enter_defers Tryd.func15, Tryd.ntmps15
  go_wp2
  obtain ⟨W, hW⟩ : ∃ W, W = lexStart s w := ⟨_, rfl⟩
  rw [show (((((w.alloc (Obj.cells #[Value.slice none 0 0] 23)).alloc (Obj.cells #[Value.int IntKind.i64 0] 3)).alloc
    (Obj.cells #[Value.int IntKind.i64 0] 24)).alloc
    (Obj.cells #[Value.func (Fn.func 35) #[] #[], Value.func (Fn.func 36) #[] #[], Value.func (Fn.func 37) #[] #[],
      Value.func (Fn.func 38) #[] #[], Value.func (Fn.func 39) #[] #[], Value.func (Fn.func 35) #[] #[]] 60)).alloc
    (Obj.cells #[Value.string s, Value.int IntKind.i64 0, Value.slice none 0 0] 63)) = W from hW.symm]
  have hA : LexAt s w W := hW ▸ lexStart_at s w
  have hS : Scan (w.heap.size + 1 + 1 + 1 + 1) s 0 [] W := hW ▸ lexStart_scan s w h
  clear hW
  go_loopg [16] (s.size) (fun k _ wr => ∃ a l, k + a = s.size ∧ Scan (w.heap.size + 1 + 1 + 1 + 1) s a l wr ∧ LexAt s w wr ∧ (Lx.lexAt (s.data.toList.drop a) a).app l = Lx.lex s.data.toList)
  case atStart => exact ⟨0, [], by omega, hS, hA, by rw [Lx.Res.app_nil]; rfl⟩
  case round =>
    obtain ⟨a, l, hka, hS', hA', hlex⟩ := hrel
    have Hlex := Lib.hid hlex; clear hlex
    obtain ⟨v, hblk, hown⟩ := hS'.st
    obtain ⟨A, cp, hv⟩ := own_form hown
    subst hv
    have c0 := hblk.cell 0; have c1 := hblk.cell 1; have c2 := hblk.cell 2
    simp at c0 c1 c2
    have t0 := hA'.b3.cell 0; have t1 := hA'.b3.cell 1; have t2 := hA'.b3.cell 2; have t3 := hA'.b3.cell 3; have t4 := hA'.b3.cell 4; have t5 := hA'.b3.cell 5
    simp at t0 t1 t2 t3 t4 t5
    have hEw : Env wr := he.next hA'.bel
    have Hblk := Lib.hid hblk; have HA := Lib.hid hA'; have HS := Lib.hid hS'; have HE := Lib.hid hEw
    have ha0 := hS'.at_
    clear hblk hA' hS' hEw hA hS
    by_cases hlt : a < s.size
    · have hdrop : s.data.toList.drop a = s[a] :: s.data.toList.drop (a + 1) := by
        rw [List.drop_eq_getElem_cons (by rw [Lx.ba_len]; exact hlt)]; rfl
      have Hdrop := Lib.hid hdrop; clear hdrop
      have hF := Lx.facts s[a]
      rcases Lx.cls_range s[a] with hc | hc | hc | hc | hc | hc
      · have herr := (Lx.err_lex l Hdrop.out (Lx.step_err (by rw [← hF.c1, hc]; rfl) (by rw [← hF.c2, hc]; rfl) (by rw [← hF.c3, hc]; rfl) (by rw [← hF.c4, hc]; rfl)))
        have Herr := Lib.hid herr; clear herr hF
        go_wp2_with (go_at_call 40; refine (lClass _ _).mono ?_; rintro e w' ⟨rfl, rfl⟩)
        refine (lWrong _ a s _ _ Hblk.out).mono ?_
        rintro e w1 ⟨he1, rfl⟩
        unfold PanicAt at he1
        subst he1
        exact lex_panicked s h w _ a _ rfl rfl rfl HA.out (Hlex.out.symm.trans Herr.out)
      · have hsp : Lx.space s[a] = true := by rw [← hF.c1, hc]; rfl
        obtain ⟨t, ht⟩ : ∃ t : ByteArray, t.data.toList = (s.data.toList.drop a).takeWhile Lx.space := ⟨Lx.bs _, Lx.bs_list _⟩
        have hpos : 0 < t.size := by rw [← Lx.ba_len, ht, Hdrop.out, List.takeWhile_cons, hsp]; simp
        have hsl := Lx.spaces_lex (D := s.data.toList) (a := a) l
        rw [← ht, Lx.ba_len] at hsl
        have hcall := lSpace1 _ a s l _ HS.out t ht
        have Hcall := Lib.hid hcall; have Hsl := Lib.hid hsl
        clear hcall hsl ht hF hsp
        go_wp2_with (go_at_call 40; refine (lClass _ _).mono ?_; rintro e w' ⟨rfl, rfl⟩)
        refine (Hcall.out).mono ?_
        rintro e w1 ⟨rfl, hS1, hb1⟩
        have HA1 := Lib.hid (HA.out.next hb1)
        have HS1 := Lib.hid hS1
        have hat1 := hS1.at_
        clear hS1 hb1
        go_wp2_with fail
        go_roundg (s.size - (a + t.size))
        case measure => omega
        case rel => exact ⟨a + t.size, l, by omega, HS1.out, HA1.out, Hsl.out.trans Hlex.out⟩
      · have hle : Lx.letter s[a] = true := by rw [← hF.c2, hc]; rfl
        obtain ⟨t, ht⟩ : ∃ t : ByteArray, t.data.toList = (s.data.toList.drop a).takeWhile Lx.part := ⟨Lx.bs _, Lx.bs_list _⟩
        have hpos : 0 < t.size := by rw [← Lx.ba_len, ht, Hdrop.out, List.takeWhile_cons, Lx.part_of_letter hle]; simp
        have hcall := lName1 _ a s l _ HS.out t ht hpos
        have hst := Lx.step_letter (r := s.data.toList.drop (a + 1)) hle
        rw [← Hdrop.out, ← ht] at hst
        cases hn : Lx.isName t.data.toList
        · have hE : Lx.nameEnd t.data.toList a l = none := by unfold Lx.nameEnd; rw [hn]; rfl
          rw [hn] at hst
          rw [hE] at hcall
          have Herr := Lib.hid (Lx.err_lex l Hdrop.out hst)
          have Hcall := Lib.hid hcall
          clear hcall hst ht hn hE hF hle
          go_wp2_with (go_at_call 40; refine (lClass _ _).mono ?_; rintro e w' ⟨rfl, rfl⟩)
          refine (Hcall.out).mono ?_
          rintro e w1 ⟨he1, hb1⟩
          unfold PanicAt at he1
          subst he1
          exact lex_panicked s h w _ a _ rfl rfl rfl (HA.out.next hb1) (Hlex.out.symm.trans Herr.out)
        · have hE : Lx.nameEnd t.data.toList a l = some (a + t.size, l ++ [⟨1, t.data.toList, 0, a⟩]) := by unfold Lx.nameEnd; rw [hn, Lx.ba_len]; rfl
          rw [hn, Lx.ba_len] at hst
          rw [hE] at hcall
          have Hok := Lib.hid (Lx.tok_lex l Hdrop.out hst)
          have Hcall := Lib.hid hcall
          clear hcall hst ht hn hE hF hle
          go_wp2_with (go_at_call 40; refine (lClass _ _).mono ?_; rintro e w' ⟨rfl, rfl⟩)
          refine (Hcall.out).mono ?_
          rintro e w1 ⟨rfl, hS1, hb1⟩
          have HA1 := Lib.hid (HA.out.next hb1)
          have HS1 := Lib.hid hS1
          have hat1 := hS1.at_
          clear hS1 hb1
          go_wp2_with fail
          go_roundg (s.size - (a + t.size))
          case measure => omega
          case rel => exact ⟨a + t.size, _, by omega, HS1.out, HA1.out, Hok.out.trans Hlex.out⟩
      · have hfi : Lx.figure s[a] = true := by rw [← hF.c3, hc]; rfl
        obtain ⟨t, ht⟩ : ∃ t : ByteArray, t.data.toList = (s.data.toList.drop a).takeWhile Lx.figure := ⟨Lx.bs _, Lx.bs_list _⟩
        have hpos : 0 < t.size := by rw [← Lx.ba_len, ht, Hdrop.out, List.takeWhile_cons, hfi]; simp
        have hcall := lNumber1 _ a s l _ HS.out HE.out (by omega) t ht hpos
        have hst := Lx.step_figure (r := s.data.toList.drop (a + 1)) hfi
        rw [← Hdrop.out, ← ht] at hst
        cases hn : Lx.number t.data.toList with
        | none =>
          have hE : Lx.numEnd t.data.toList a l = none := by unfold Lx.numEnd; rw [hn]
          rw [hn] at hst
          rw [hE] at hcall
          have Herr := Lib.hid (Lx.err_lex l Hdrop.out hst)
          have Hcall := Lib.hid hcall
          clear hcall hst ht hn hE hF hfi
          go_wp2_with (go_at_call 40; refine (lClass _ _).mono ?_; rintro e w' ⟨rfl, rfl⟩)
          refine (Hcall.out).mono ?_
          rintro e w1 ⟨he1, hb1⟩
          unfold PanicAt at he1
          subst he1
          exact lex_panicked s h w _ a _ rfl rfl rfl (HA.out.next hb1) (Hlex.out.symm.trans Herr.out)
        | some num =>
          have hE : Lx.numEnd t.data.toList a l = some (a + t.size, l ++ [⟨2, [], num, a⟩]) := by unfold Lx.numEnd; rw [hn, Lx.ba_len]
          rw [hn, Lx.ba_len] at hst
          rw [hE] at hcall
          have Hok := Lib.hid (Lx.tok_lex l Hdrop.out hst)
          have Hcall := Lib.hid hcall
          clear hcall hst ht hn hE hF hfi
          go_wp2_with (go_at_call 40; refine (lClass _ _).mono ?_; rintro e w' ⟨rfl, rfl⟩)
          refine (Hcall.out).mono ?_
          rintro e w1 ⟨rfl, hS1, hb1⟩
          have HA1 := Lib.hid (HA.out.next hb1)
          have HS1 := Lib.hid hS1
          have hat1 := hS1.at_
          clear hS1 hb1
          go_wp2_with fail
          go_roundg (s.size - (a + t.size))
          case measure => omega
          case rel => exact ⟨a + t.size, _, by omega, HS1.out, HA1.out, Hok.out.trans Hlex.out⟩
      · have hsi : Lx.sign s[a] = true := by rw [← hF.c4, hc]; rfl
        have hcall := lSign1 _ a s l _ HS.out hlt hsi
        cases hco : Lx.comment (s.data.toList.drop a)
        · have hE : Lx.signEnd (s.data.toList.drop a) a l = some (a + 1, l ++ [⟨3, [s[a]], 0, a⟩]) := by unfold Lx.signEnd; rw [hco, Hdrop.out]; rfl
          rw [hE] at hcall
          rw [Hdrop.out] at hco
          have Hok := Lib.hid (Lx.tok_lex l Hdrop.out (Lx.step_sign hsi hco))
          have Hcall := Lib.hid hcall
          clear hcall hco hE hF hsi
          go_wp2_with (go_at_call 40; refine (lClass _ _).mono ?_; rintro e w' ⟨rfl, rfl⟩)
          refine (Hcall.out).mono ?_
          rintro e w1 ⟨rfl, hS1, hb1⟩
          have HA1 := Lib.hid (HA.out.next hb1)
          have HS1 := Lib.hid hS1
          have hat1 := hS1.at_
          clear hS1 hb1
          go_wp2_with fail
          go_roundg (s.size - (a + 1))
          case measure => omega
          case rel => exact ⟨a + 1, _, by omega, HS1.out, HA1.out, Hok.out.trans Hlex.out⟩
        · have hE : Lx.signEnd (s.data.toList.drop a) a l = some (a + ((s.data.toList.drop a).takeWhile (· != 10)).length, l) := by unfold Lx.signEnd; rw [hco]; rfl
          rw [hE] at hcall
          have hst := Lx.step_comment (c := s[a]) (r := s.data.toList.drop (a + 1)) (by rw [← Hdrop.out]; exact hco)
          have hpos := Lx.step_skip_pos hst
          rw [← Hdrop.out] at hst hpos
          obtain ⟨k, hk⟩ : ∃ k, k = ((s.data.toList.drop a).takeWhile (· != 10)).length := ⟨_, rfl⟩
          rw [← hk] at hst hpos hcall
          have Hok := Lib.hid (Lx.skip_lex l Hdrop.out hst)
          have Hcall := Lib.hid hcall
          clear hcall hco hE hF hsi hst hk
          go_wp2_with (go_at_call 40; refine (lClass _ _).mono ?_; rintro e w' ⟨rfl, rfl⟩)
          refine (Hcall.out).mono ?_
          rintro e w1 ⟨rfl, hS1, hb1⟩
          have HA1 := Lib.hid (HA.out.next hb1)
          have HS1 := Lib.hid hS1
          have hat1 := hS1.at_
          clear hS1 hb1
          go_wp2_with fail
          go_roundg (s.size - (a + k))
          case measure => omega
          case rel => exact ⟨a + k, _, by omega, HS1.out, HA1.out, Hok.out.trans Hlex.out⟩
      · have herr := (Lx.err_lex l Hdrop.out (Lx.step_err (by rw [← hF.c1, hc]; rfl) (by rw [← hF.c2, hc]; rfl) (by rw [← hF.c3, hc]; rfl) (by rw [← hF.c4, hc]; rfl)))
        have Herr := Lib.hid herr; clear herr hF
        go_wp2_with (go_at_call 40; refine (lClass _ _).mono ?_; rintro e w' ⟨rfl, rfl⟩)
        refine (lWrong _ a s _ _ Hblk.out).mono ?_
        rintro e w1 ⟨he1, rfl⟩
        unfold PanicAt at he1
        subst he1
        exact lex_panicked s h w _ a _ rfl rfl rfl HA.out (Hlex.out.symm.trans Herr.out)
    · have q0 := HA.out.b0.cell 0; have q1 := HA.out.b1.cell 0; have q2 := HA.out.b2.cell 0
      have e0 := HA.out.b0.free 0; have e1 := HA.out.b1.free 0; have e2 := HA.out.b2.free 0
      simp at q0 q1 q2
      go_wp2
      have hB : a = s.size := by omega
      have hok : Lx.lex s.data.toList = .ok l := by
        rw [← Hlex.out, List.drop_of_length_le (by rw [Lx.ba_len]; omega), Lx.lexAt_nil]
        simp [Lx.Res.app]
      have B0 := ((HA.out.b0.set 0 (.slice A l.length cp)).far (p := ⟨w.heap.size + 1, 0, none⟩) (by simp) (.int .i64 0)).far (p := ⟨w.heap.size + 1 + 1, 0, none⟩) (by simp; omega) (.int .i64 0)
      have B1 := ((HA.out.b1.far (p := ⟨w.heap.size, 0, none⟩) (by simp) (.slice A l.length cp)).set 0 (.int .i64 0)).far (p := ⟨w.heap.size + 1 + 1, 0, none⟩) (by simp) (.int .i64 0)
      have B2 := ((HA.out.b2.far (p := ⟨w.heap.size, 0, none⟩) (by simp; omega) (.slice A l.length cp)).far (p := ⟨w.heap.size + 1, 0, none⟩) (by simp) (.int .i64 0)).set 0 (.int .i64 0)
      have n0 := own_ne hown HA.out.b0 (show 35 ≠ 23 by decide)
      have n1 := own_ne hown HA.out.b1 (show 35 ≠ 3 by decide)
      have n2 := own_ne hown HA.out.b2 (show 35 ≠ 24 by decide)
      have hO := own_setCell_far (p := ⟨w.heap.size + 1 + 1, 0, none⟩) (own_setCell_far (p := ⟨w.heap.size + 1, 0, none⟩) (own_setCell_far (p := ⟨w.heap.size, 0, none⟩) hown n0 (.slice A l.length cp)) n1 (.int .i64 0)) n2 (.int .i64 0)
      refine lex_returned s h w _ _ rfl rfl rfl A cp l (by simpa using B0) (by simpa using B1) (by simpa using B2) ?_ (toks_own hO (by have := HS.out.few; omega) fun t ht => by have := (Lx.lex_texts hok t ht).2; omega) hok
      exact ((HA.out.bel.setCell (p := ⟨w.heap.size, 0, none⟩) (Nat.le_refl _) _).setCell (p := ⟨w.heap.size + 1, 0, none⟩) (show w.heap.size ≤ w.heap.size + 1 by omega) _).setCell (p := ⟨w.heap.size + 1 + 1, 0, none⟩) (show w.heap.size ≤ w.heap.size + 1 + 1 by omega) _

/-- Lex, for every source. -/
theorem lLex (s : ByteArray) (w : World) (hs : s.size ≤ maxLen) (he : Env w) : Calls Tryd.prog 15 #[.string s] w (LexPost s.data.toList w) := by
  by_cases h : s.size ≤ 65536
  · exact lLexShort s w he h
  · exact lLexLong s w hs (by omega)
end Go.Proofs.YtocelmjncjompaaDoor
