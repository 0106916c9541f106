/- The law LexNames: a string is a name exactly if it is a single token of this kind: the plain law and the walk. -/
import Derived.Test.YtocelmjncjompaaDoorLxM
namespace Go.Proofs.YtocelmjncjompaaDoor
open Go.RowKit
open Lx (Tok)

theorem Lx.tw_self (p : UInt8 → Bool) : ∀ l : List UInt8, l.all p = true → l.takeWhile p = l
  | [], _ => rfl
  | c :: r, h => by
    simp only [List.all_cons, Bool.and_eq_true] at h
    rw [List.takeWhile_cons, if_pos h.1, Lx.tw_self p r h.2]
theorem Lx.lex_name {s : List UInt8} (h : Lx.isName s = true) : Lx.lex s = .ok [⟨1, s, 0, 0⟩] := by
  match s, h with
  | c :: r, h =>
    have h' := h
    simp only [Lx.isName, Bool.and_eq_true] at h'
    obtain ⟨⟨_, hl⟩, hp⟩ := h'
    have htw : (c :: r).takeWhile Lx.part = c :: r := by
      exact Lx.tw_self _ _ hp
    have hst := Lx.step_letter (r := r) hl
    rw [htw, if_pos h] at hst
    unfold Lx.lex
    rw [Lx.lexAt_tok hst, List.drop_of_length_le (Nat.le_refl _), Lx.lexAt_nil]
    rfl
theorem Lx.lex_one_name {s : List UInt8} {t : Tok} (h : Lx.lex s = .ok [t]) (hk : t.kind = 1) (ht : t.text = s) : Lx.isName s = true := by
  have := (Lx.lex_texts h t (by simp)).1
  unfold Lx.valid at this
  rw [if_pos hk, ht] at this
  simp only [Bool.and_eq_true] at this
  exact this.1
theorem Lx.text_name (s : List UInt8) : Lx.text [⟨1, s, 0, 0⟩] = if Lx.isName s then some s else none := by
  unfold Lx.text
  have hv : ([⟨1, s, 0, 0⟩] : List Tok).all Lx.valid = Lx.isName s := by
    simp only [List.all_cons, List.all_nil, Bool.and_true]
    show (Lx.isName s && decide ((0 : Int) = 0)) = _
    simp
  rw [hv]
  rfl

def LawPost (w : World) (e : Ending) (w' : World) : Prop := e = .returned (.bool true) ∧ Below w.heap.size w w'

set_option maxHeartbeats 2000000 in
theorem lawNames (s : ByteArray) (w : World) (hs : s.size ≤ maxLen) (he : Env w) : Calls Tryd.prog 9 #[.string s] w (LawPost w) := by
  have hs' := hs
  unfold maxLen at hs'
  have hsane := lSane w he
  have Hsane := Lib.hid hsane; have HE := Lib.hid he
  clear hsane he
  by_cases hlen : 1000 < s.size
  · go_enter Tryd.func9, Tryd.ntmps9
    go_wp2_with fail
    refine (Hsane.out).mono ?_
    rintro e w1 ⟨rfl, hb1⟩
    have HB1 := Lib.hid hb1; clear hb1
    go_wp2_with fail
    go_ret
    exact ⟨rfl, HB1.out⟩
  have hlen' : s.size ≤ 1000 := by omega
  clear hlen
  have htn := Lx.text_name s.data.toList
  cases hn : Lx.isName s.data.toList
  · rw [hn] at htn
    have Htn := Lib.hid htn; have Hn := Lib.hid hn
    clear htn hn
    go_enter Tryd.func9, Tryd.ntmps9
    go_wp2_with fail
    refine (Hsane.out).mono ?_
    rintro e w1 ⟨rfl, hb1⟩
    have HB1 := Lib.hid hb1; clear hb1
    cases hL : Lx.lex s.data.toList with
    | err p =>
      have HL := Lib.hid hL; clear hL
      go_wp2_with fail
      refine (lLexErr s p w1 (HE.out.next HB1.out) (by omega) HL.out).mono ?_
      rintro e w2 ⟨rfl, hb2, he2⟩
      have HB2 := Lib.hid hb2; have HE2 := Lib.hid he2
      clear hb2 he2
      go_wp2_with fail
      refine (lTextErr (some ⟨w2.heap.size, 0, none⟩) 1 [⟨1, s.data.toList, 0, 0⟩] _ (HE2.out.next ((Below.refl _ _).alloc (Nat.le_refl _) _)) (toks_new w2 [⟨1, s.data.toList, 0, 0⟩] #[.int .i64 1, .string s, .int .i64 0, .int .i64 0] (by simp [Tok.cells]) (show (1 : Nat) ≤ 65536 by omega) (by simp; omega)) (show (1 : Nat) ≤ 65536 by omega) Htn.out).mono ?_
      rintro e w3 ⟨rfl, hb3, _⟩
      have HB3 := Lib.hid hb3; clear hb3
      have hnm := lName s w3 hs
      rw [Hn.out] at hnm
      have Hnm := Lib.hid hnm; clear hnm
      go_wp2_with fail
      refine (Hnm.out).mono ?_
      rintro e w4 ⟨rfl, rfl⟩
      go_wp2_with fail
      go_ret
      exact ⟨ret_bool (by simp), HB1.out.trans ((HB2.out.mono HB1.out.size).trans (((Below.refl _ _).alloc (Nat.le_trans HB1.out.size HB2.out.size) _).trans (HB3.out.mono (by have := HB1.out.size; have := HB2.out.size; simp; omega))))⟩
    | ok l =>
      match l, hL with
      | [], hL =>
        have HL := Lib.hid hL; clear hL
        go_wp2_with fail
        refine (lLexOk s _ w1 (HE.out.next HB1.out) (by omega) HL.out).mono ?_
        rintro e w2 ⟨A2, c2, rfl, hT2, hb2, he2⟩
        have HB2 := Lib.hid hb2; have HE2 := Lib.hid he2
        clear hT2 hb2 he2
        go_wp2_with fail
        refine (lTextErr (some ⟨w2.heap.size, 0, none⟩) 1 [⟨1, s.data.toList, 0, 0⟩] _ (HE2.out.next ((Below.refl _ _).alloc (Nat.le_refl _) _)) (toks_new w2 [⟨1, s.data.toList, 0, 0⟩] #[.int .i64 1, .string s, .int .i64 0, .int .i64 0] (by simp [Tok.cells]) (show (1 : Nat) ≤ 65536 by omega) (by simp; omega)) (show (1 : Nat) ≤ 65536 by omega) Htn.out).mono ?_
        rintro e w3 ⟨rfl, hb3, _⟩
        have HB3 := Lib.hid hb3; clear hb3
        have hnm := lName s w3 hs
        rw [Hn.out] at hnm
        have Hnm := Lib.hid hnm; clear hnm
        go_wp2_with fail
        refine (Hnm.out).mono ?_
        rintro e w4 ⟨rfl, rfl⟩
        go_wp2_with fail
        go_ret
        exact ⟨ret_bool (by simp), HB1.out.trans ((HB2.out.mono HB1.out.size).trans (((Below.refl _ _).alloc (Nat.le_trans HB1.out.size HB2.out.size) _).trans (HB3.out.mono (by have := HB1.out.size; have := HB2.out.size; simp; omega))))⟩
      | t :: u :: r, hL =>
        have HL := Lib.hid hL; clear hL
        go_wp2_with fail
        refine (lLexOk s _ w1 (HE.out.next HB1.out) (by omega) HL.out).mono ?_
        rintro e w2 ⟨A2, c2, rfl, hT2, hb2, he2⟩
        have HB2 := Lib.hid hb2; have HE2 := Lib.hid he2
        clear hT2 hb2 he2
        obtain ⟨n, hnn⟩ : ∃ n, n = (t :: u :: r).length := ⟨_, rfl⟩
        have hn1 : ((n : Int) == 1) = false := beq_eq_false_iff_ne.2 (by rw [hnn]; simp; omega)
        rw [← hnn]
        clear hnn
        go_wp2_with fail
        refine (lTextErr (some ⟨w2.heap.size, 0, none⟩) 1 [⟨1, s.data.toList, 0, 0⟩] _ (HE2.out.next ((Below.refl _ _).alloc (Nat.le_refl _) _)) (toks_new w2 [⟨1, s.data.toList, 0, 0⟩] #[.int .i64 1, .string s, .int .i64 0, .int .i64 0] (by simp [Tok.cells]) (show (1 : Nat) ≤ 65536 by omega) (by simp; omega)) (show (1 : Nat) ≤ 65536 by omega) Htn.out).mono ?_
        rintro e w3 ⟨rfl, hb3, _⟩
        have HB3 := Lib.hid hb3; clear hb3
        have hnm := lName s w3 hs
        rw [Hn.out] at hnm
        have Hnm := Lib.hid hnm; clear hnm
        go_wp2_with fail
        refine (Hnm.out).mono ?_
        rintro e w4 ⟨rfl, rfl⟩
        go_wp2_with fail
        go_ret
        exact ⟨ret_bool (by simp), HB1.out.trans ((HB2.out.mono HB1.out.size).trans (((Below.refl _ _).alloc (Nat.le_trans HB1.out.size HB2.out.size) _).trans (HB3.out.mono (by have := HB1.out.size; have := HB2.out.size; simp; omega))))⟩
      | [t], hL =>
        by_cases hk : t.kind = 1
        · have hne : (Lx.bs t.text).toList ≠ s.toList := fun h => by
            have h1 := Lx.lex_one_name hL hk (by rwa [ByteArray.toList_eq, ByteArray.toList_eq, Lx.bs_list] at h)
            rw [Hn.out] at h1; cases h1
          have hne' : ((Lx.bs t.text).toList == s.toList) = false := beq_eq_false_iff_ne.2 hne
          have hk' : (t.kind == 1) = true := beq_iff_eq.2 hk
          have HL := Lib.hid hL; clear hL hk hne
          go_wp2_with fail
          refine (lLexOk s _ w1 (HE.out.next HB1.out) (by omega) HL.out).mono ?_
          rintro e w2 ⟨A2, c2, rfl, hT2, hb2, he2⟩
          obtain ⟨b, o, rfl, hbl, q0, q1, q2, q3⟩ := hT2.first
          have HB2 := Lib.hid hb2; have HE2 := Lib.hid he2
          clear hT2 hb2 he2
          go_wp2_with fail
          refine (lTextErr (some ⟨w2.heap.size, 0, none⟩) 1 [⟨1, s.data.toList, 0, 0⟩] _ (HE2.out.next ((Below.refl _ _).alloc (Nat.le_refl _) _)) (toks_new w2 [⟨1, s.data.toList, 0, 0⟩] #[.int .i64 1, .string s, .int .i64 0, .int .i64 0] (by simp [Tok.cells]) (show (1 : Nat) ≤ 65536 by omega) (by simp; omega)) (show (1 : Nat) ≤ 65536 by omega) Htn.out).mono ?_
          rintro e w3 ⟨rfl, hb3, _⟩
          have HB3 := Lib.hid hb3; clear hb3
          have hnm := lName s w3 hs
          rw [Hn.out] at hnm
          have Hnm := Lib.hid hnm; clear hnm
          go_wp2_with fail
          refine (Hnm.out).mono ?_
          rintro e w4 ⟨rfl, rfl⟩
          go_wp2_with fail
          go_ret
          exact ⟨ret_bool (by simp), HB1.out.trans ((HB2.out.mono HB1.out.size).trans (((Below.refl _ _).alloc (Nat.le_trans HB1.out.size HB2.out.size) _).trans (HB3.out.mono (by have := HB1.out.size; have := HB2.out.size; simp; omega))))⟩
        · have hk' : (t.kind == 1) = false := beq_eq_false_iff_ne.2 hk
          have HL := Lib.hid hL; clear hL hk
          go_wp2_with fail
          refine (lLexOk s _ w1 (HE.out.next HB1.out) (by omega) HL.out).mono ?_
          rintro e w2 ⟨A2, c2, rfl, hT2, hb2, he2⟩
          obtain ⟨b, o, rfl, hbl, q0, q1, q2, q3⟩ := hT2.first
          have HB2 := Lib.hid hb2; have HE2 := Lib.hid he2
          clear hT2 hb2 he2
          go_wp2_with fail
          refine (lTextErr (some ⟨w2.heap.size, 0, none⟩) 1 [⟨1, s.data.toList, 0, 0⟩] _ (HE2.out.next ((Below.refl _ _).alloc (Nat.le_refl _) _)) (toks_new w2 [⟨1, s.data.toList, 0, 0⟩] #[.int .i64 1, .string s, .int .i64 0, .int .i64 0] (by simp [Tok.cells]) (show (1 : Nat) ≤ 65536 by omega) (by simp; omega)) (show (1 : Nat) ≤ 65536 by omega) Htn.out).mono ?_
          rintro e w3 ⟨rfl, hb3, _⟩
          have HB3 := Lib.hid hb3; clear hb3
          have hnm := lName s w3 hs
          rw [Hn.out] at hnm
          have Hnm := Lib.hid hnm; clear hnm
          go_wp2_with fail
          refine (Hnm.out).mono ?_
          rintro e w4 ⟨rfl, rfl⟩
          go_wp2_with fail
          go_ret
          exact ⟨ret_bool (by simp), HB1.out.trans ((HB2.out.mono HB1.out.size).trans (((Below.refl _ _).alloc (Nat.le_trans HB1.out.size HB2.out.size) _).trans (HB3.out.mono (by have := HB1.out.size; have := HB2.out.size; simp; omega))))⟩
  · have hlx := Lx.lex_name hn
    rw [hn, if_pos rfl] at htn
    have Htn := Lib.hid htn; have Hn := Lib.hid hn; have Hlx := Lib.hid hlx
    clear htn hn hlx
    go_enter Tryd.func9, Tryd.ntmps9
    go_wp2_with fail
    refine (Hsane.out).mono ?_
    rintro e w1 ⟨rfl, hb1⟩
    have HB1 := Lib.hid hb1; clear hb1
    go_wp2_with fail
    refine (lLexOk s _ w1 (HE.out.next HB1.out) (by omega) Hlx.out).mono ?_
    rintro e w2 ⟨A2, c2, rfl, hT2, hb2, he2⟩
    obtain ⟨b, o, rfl, hbl, q0, q1, q2, q3⟩ := hT2.first
    have hbs : (Lx.bs s.data.toList).toList = s.toList := by rw [Lx.bs_of]
    simp only [Lx.bs_of] at q1
    have HB2 := Lib.hid hb2; have HE2 := Lib.hid he2
    clear hT2 hb2 he2
    go_wp2_with fail
    refine (lTextOk (some ⟨w2.heap.size, 0, none⟩) 1 [⟨1, s.data.toList, 0, 0⟩] s.data.toList _ (HE2.out.next ((Below.refl _ _).alloc (Nat.le_refl _) _)) (toks_new w2 [⟨1, s.data.toList, 0, 0⟩] #[.int .i64 1, .string s, .int .i64 0, .int .i64 0] (by simp [Tok.cells]) (show (1 : Nat) ≤ 65536 by omega) (by simp; omega)) (show (1 : Nat) ≤ 65536 by omega) Htn.out).mono ?_
    rintro e w3 ⟨rfl, hb3, _⟩
    have HB3 := Lib.hid hb3; clear hb3
    have hnm := lName s w3 hs
    rw [Hn.out] at hnm
    have Hnm := Lib.hid hnm; clear hnm
    go_wp2_with fail
    refine (Hnm.out).mono ?_
    rintro e w4 ⟨rfl, rfl⟩
    go_wp2_with fail
    go_ret
    exact ⟨ret_bool (by simp), HB1.out.trans ((HB2.out.mono HB1.out.size).trans (((Below.refl _ _).alloc (Nat.le_trans HB1.out.size HB2.out.size) _).trans (HB3.out.mono (by have := HB1.out.size; have := HB2.out.size; simp; omega))))⟩
end Go.Proofs.YtocelmjncjompaaDoor
