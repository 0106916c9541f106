/- The law LexPlaces: the texts of tokens stand at their places, with nothing but white space and comments between them: the walk. -/
import Derived.Test.YtocelmjncjompaaDoorLxSpell
import Derived.Test.YtocelmjncjompaaDoorLxRefLex
namespace Go.Proofs.YtocelmjncjompaaDoor
open Go.RowKit
open Lx (Tok)

theorem Lx.gap_round {c : UInt8} {r : List UInt8} {cm fin : Bool} (h : Lx.gap (c :: r) cm = some fin) :
    (((c.toNat : Int) != 10) = false ∧ Lx.space c = true ∧ Lx.gap r false = some fin) ∨
    (((c.toNat : Int) != 10) = true ∧ cm = true ∧ Lx.gap r true = some fin) ∨
    (((c.toNat : Int) != 10) = true ∧ cm = false ∧ ((c.toNat : Int) == 47) = false ∧ Lx.space c = true ∧ Lx.gap r false = some fin) ∨
    (((c.toNat : Int) != 10) = true ∧ cm = false ∧ ((c.toNat : Int) == 47) = true ∧ r.head? = some 47 ∧ Lx.gap r true = some fin) := by
  rw [← Lx.ne10, ← Lx.eq47]
  rw [Lx.gap] at h
  split at h
  · cases h
  · rename_i hn
    cases h10 : c != 10
    · have hi : Lx.inCmt cm c r = false := by unfold Lx.inCmt; rw [h10]; rfl
      rw [hi] at h
      have : c = 10 := by simpa using h10
      subst this
      exact Or.inl ⟨rfl, rfl, h⟩
    · cases cm
      · cases h47 : c == 47
        · have hi : Lx.inCmt false c r = false := by unfold Lx.inCmt; rw [h47]; simp
          rw [hi] at h hn
          refine Or.inr (Or.inr (Or.inl ⟨rfl, rfl, rfl, ?_, h⟩))
          cases hs : Lx.space c
          · exact absurd ⟨rfl, hs⟩ hn
          · rfl
        · cases hh : r.head? == some 47
          · exfalso
            have hi : Lx.inCmt false c r = false := by unfold Lx.inCmt; rw [h47, hh]; simp
            have : c = 47 := by simpa using h47
            subst this
            exact hn ⟨hi, rfl⟩
          · have hi : Lx.inCmt false c r = true := by unfold Lx.inCmt; rw [h47, hh, h10]; rfl
            rw [hi] at h
            exact Or.inr (Or.inr (Or.inr ⟨rfl, rfl, rfl, by simpa using hh, h⟩))
      · have hi : Lx.inCmt true c r = true := by unfold Lx.inCmt; rw [h10]; simp
        rw [hi] at h
        exact Or.inr (Or.inl ⟨rfl, rfl, h⟩)

theorem Lx.seg_cons {s : ByteArray} {i j : Nat} {g rest : List UInt8} (h : s.data.toList.drop i = g ++ rest) (hij : i ≤ j) (hj : j < i + g.length) : ∃ hs : j < s.size, g.drop (j - i) = s[j] :: g.drop (j + 1 - i) := by
  have hl := congrArg List.length h
  rw [List.length_drop, Lx.ba_len, List.length_append] at hl
  have hjs : j < s.size := by omega
  refine ⟨hjs, ?_⟩
  rw [List.drop_eq_getElem_cons (show j - i < g.length by omega), show j - i + 1 = j + 1 - i by omega]
  have e : g[j - i]? = some s[j] := by
    have h1 : (g ++ rest)[j - i]? = g[j - i]? := List.getElem?_append_left (by omega)
    rw [← h1, ← h, List.getElem?_drop, show i + (j - i) = j by omega, List.getElem?_eq_getElem (by rw [Lx.ba_len]; exact hjs), Lx.ba_get s j hjs]
  rw [List.getElem?_eq_getElem (show j - i < g.length by omega)] at e
  injection e with e
  rw [e]
theorem Lx.seg_head {s : ByteArray} {i j : Nat} {g rest : List UInt8} (h : s.data.toList.drop i = g ++ rest) (hij : i ≤ j) (hj : j < i + g.length) (hh : (g.drop (j + 1 - i)).head? = some 47) : j + 1 < i + g.length ∧ ∃ hs : j + 1 < s.size, (((s[j + 1]'hs).toNat : Int) == 47) = true := by
  by_cases hlt : j + 1 < i + g.length
  · obtain ⟨hs, e⟩ := Lx.seg_cons h (show i ≤ j + 1 by omega) hlt
    rw [e] at hh
    refine ⟨hlt, hs, ?_⟩
    rw [← Lx.eq47]
    simpa using hh
  · rw [List.drop_of_length_le (by omega)] at hh
    cases hh

set_option maxRecDepth 20000 in
set_option maxHeartbeats 4000000 in
theorem lawPlaces (s : ByteArray) (w : World) (hs : s.size ≤ 140737488355327) (he : Env w) : Calls Tryd.prog 6 #[.string s] w fun e w' => e = .returned (.bool true) ∧ Below w.heap.size w w' := by
  have hsane := lSane w he
  have Hsane := Lib.hid hsane; have HE := Lib.hid he
  clear hsane he
  by_cases hlen : 3000 < s.size
  · go_enter Tryd.func6, Tryd.ntmps6
    go_wp2_with fail
    refine (Hsane.out).mono ?_
    rintro e w1 ⟨rfl, hb1⟩
    have HB1 := Lib.hid hb1; clear hb1
    go_wp2_with fail
    go_ret
    exact ⟨rfl, HB1.out⟩
  have hlen' : s.size ≤ 3000 := by omega
  clear hlen
  cases hL : Lx.lex s.data.toList with
  | err p =>
    have HL := Lib.hid hL; clear hL
    go_enter Tryd.func6, Tryd.ntmps6
    go_wp2_with fail
    refine (Hsane.out).mono ?_
    rintro e w1 ⟨rfl, hb1⟩
    have HB1 := Lib.hid hb1; clear hb1
    go_wp2_with fail
    refine (lLexErr s p w1 (HE.out.next HB1.out) (by omega) HL.out).mono ?_
    rintro e w2 ⟨rfl, hb2, he2⟩
    have HB2 := Lib.hid hb2
    clear hb2 he2
    go_wp2_with fail
    go_ret
    exact ⟨ret_bool (by simp), HB1.out.trans (HB2.out.mono HB1.out.size)⟩
  | ok ts =>
    have hpl := Lx.lex_places hL
    have htl := (Lx.lex_len hL).2
    rw [Lx.ba_len] at htl
    have HL := Lib.hid hL; have HP := Lib.hid hpl; clear hL hpl
    go_enter Tryd.func6, Tryd.ntmps6
    go_wp2_with fail
    refine (Hsane.out).mono ?_
    rintro e w1 ⟨rfl, hb1⟩
    have HB1 := Lib.hid hb1; clear hb1
    go_wp2_with fail
    refine (lLexOk s ts w1 (HE.out.next HB1.out) (by omega) HL.out).mono ?_
    rintro e w2 ⟨A2, c2, rfl, hT2, hb2, he2⟩
    have HB2 := Lib.hid (HB1.out.trans (hb2.mono HB1.out.size)); have HT2 := Lib.hid hT2
    clear hb2 he2 hT2
    go_wp2_with fail
    go_loopw [6, 7] (fun v6 v7 wr => ∃ (i k : Nat), i ≤ s.size ∧ k ≤ ts.length ∧ v6 = .int .i64 i ∧ v7 = .int .i64 k ∧ Lx.Places (s.data.toList.drop i) i (ts.drop k) ∧ Below w2.heap.size w2 wr)
      (fun _ v7 _ => ts.length + 1 - (intOf v7).toNat)
    case atStart => exact ⟨0, 0, by omega, by omega, rfl, rfl, HP.out, Below.refl _ _⟩
    case round =>
      obtain ⟨i, k, hi, hk, rfl, rfl, hpl, hbel⟩ := hrel
      have Hbel := Lib.hid hbel
      have hwr := hbel.size
      have hT := HT2.out.below hbel (Nat.le_refl _)
      clear hbel
      by_cases hkl : k < ts.length
      · obtain ⟨t, ht⟩ : ∃ t, ts[k]? = some t := ⟨_, List.getElem?_eq_getElem hkl⟩
        have hdk : ts.drop k = t :: ts.drop (k + 1) := by
          rw [List.drop_eq_getElem_cons hkl]
          rw [List.getElem?_eq_getElem hkl] at ht
          injection ht with ht
          rw [ht]
        rw [hdk] at hpl
        obtain ⟨b, o, rfl, hb, p1, p2, p3, p4⟩ := hT.at_ k t ht
        obtain ⟨D, hD⟩ : ∃ D, D = s.data.toList.drop i := ⟨_, rfl⟩
        rw [← hD] at hpl
        cases hpl with
        | next g rest _ _ _ q1 q2 q3 q4 q5 q6 =>
          have hl := congrArg List.length hD
          rw [List.length_append, List.length_append, List.length_drop, Lx.ba_len] at hl
          have hrest : rest = s.data.toList.drop (i + g.length + t.out.length) := by
            have := congrArg (List.drop (g.length + t.out.length)) hD
            rw [List.drop_drop, ← List.append_assoc, List.drop_left' (by rw [List.length_append]), ← Nat.add_assoc] at this
            exact this
          have hout : s.extract (i + g.length) (i + g.length + t.out.length) = Lx.bs t.out := by
            apply Lx.bs_of'
            rw [Lx.ext_list]
            have := congrArg (List.drop g.length) hD
            rw [List.drop_drop, List.drop_left] at this
            rw [← this, List.take_left]
          obtain ⟨to, hto⟩ : ∃ to, to = i + g.length := ⟨_, rfl⟩
          rw [← hto] at q5 q6 hrest hout
          have hsp := fun W => lSpelled t W q4
          rw [q5] at hsp p4
          obtain ⟨S, hS⟩ : ∃ S, S = Lx.bs t.out := ⟨_, rfl⟩
          have hSs : S.size = t.out.length := by rw [hS, Lx.bs_size]
          rw [← hS] at hsp hout
          rw [← hSs] at hout hrest q6 q2 q3 hl
          have hio : i ≤ to := by omega
          have hto2 : to + S.size ≤ s.size := by omega
          have hiz : to ≤ s.size := by omega
          have hnA : ¬ to < i := by omega
          have hnB : ¬ s.size < to := by omega
          have hS0 : ((S.size : Int) == 0) = false := beq_eq_false_iff_ne.2 (by omega)
          rw [hrest] at q6
          have Hsp := Lib.hid hsp; have HPl := Lib.hid q6; have HT := Lib.hid hT; have HD := Lib.hid hD; have Hgap := Lib.hid q1; have Hto := Lib.hid hto; have Ht := Lib.hid ht; have HS := Lib.hid hS; have Hq4 := Lib.hid q4; have Hq5 := Lib.hid q5
          clear hsp q6 hT hD q1 hto ht hS q4 q5 hl hrest hdk hSs
          go_wp2_with fail
          go_loopw [6, 9] (fun v6 v9 w3 => ∃ (j : Nat) (cm : Bool), i ≤ j ∧ j ≤ to ∧ v6 = .int .i64 j ∧ v9 = .bool cm ∧ Lx.gap (g.drop (j - i)) cm = some false ∧ w3 = wr) (fun v6 _ _ => to - (intOf v6).toNat)
          case atStart => exact ⟨i, false, Nat.le_refl _, by omega, rfl, rfl, by rw [Nat.sub_self, List.drop_zero]; exact Hgap.out, by first | rfl | trivial⟩
          case round =>
            obtain ⟨j, cm, hij, hjt, rfl, rfl, hgap, rfl⟩ := hrel
            by_cases hlt : j < to
            · obtain ⟨hjs, hcons⟩ := Lx.seg_cons HD.out.symm hij (show j < i + g.length by have := Hto.out; omega)
              rw [hcons] at hgap
              have hsps := fun W => rSpace s[j] W
              rcases Lx.gap_round hgap with ⟨h10, hspc, hnx⟩ | ⟨h10, rfl, hnx⟩ | ⟨h10, rfl, h47, hspc, hnx⟩ | ⟨h10, rfl, h47, hh, hnx⟩
              · rw [hspc] at hsps
                have Hsps := Lib.hid hsps; have Hnx := Lib.hid hnx
                clear hsps hnx hgap hcons hspc
                go_wp2_with fail
                refine (Hsps.out _).mono ?_
                rintro e w4 ⟨rfl, rfl⟩
                go_wp2_with fail
                go_roundw
                case rel => exact ⟨j + 1, false, by omega, by omega, by go_num, by first | rfl | simp, Hnx.out, by first | rfl | trivial⟩
                case measure => simp [intOf]; omega
              · have Hnx := Lib.hid hnx
                clear hsps hnx hgap hcons
                go_wp2_with fail
                go_roundw
                case rel => exact ⟨j + 1, true, by omega, by omega, by go_num, by first | rfl | simp, Hnx.out, by first | rfl | trivial⟩
                case measure => simp [intOf]; omega
              · rw [hspc] at hsps
                have Hsps := Lib.hid hsps; have Hnx := Lib.hid hnx
                clear hsps hnx hgap hcons hspc
                go_wp2_with fail
                refine (Hsps.out _).mono ?_
                rintro e w4 ⟨rfl, rfl⟩
                go_wp2_with fail
                go_roundw
                case rel => exact ⟨j + 1, false, by omega, by omega, by go_num, by first | rfl | simp, Hnx.out, by first | rfl | trivial⟩
                case measure => simp [intOf]; omega
              · obtain ⟨hlt2, hjs2, h47b⟩ := Lx.seg_head HD.out.symm hij (show j < i + g.length by have := Hto.out; omega) hh
                have hlt3 : j + 1 < to := by have := Hto.out; omega
                have Hnx := Lib.hid hnx
                clear hsps hnx hgap hcons hh hlt2
                go_wp2_with fail
                go_roundw
                case rel => exact ⟨j + 1, true, by omega, by omega, by go_num, by first | rfl | simp, Hnx.out, by first | rfl | trivial⟩
                case measure => simp [intOf]; omega
            · obtain rfl : j = to := by omega
              have hfin : cm = false := by
                rw [List.drop_of_length_le (by have := Hto.out; omega)] at hgap
                injection hgap
              subst hfin
              clear hgap
              go_wp2_with fail
              refine (Hsp.out _).mono ?_
              rintro e w4 ⟨rfl, hb4⟩
              have HB4 := Lib.hid hb4; clear hb4
              go_wp2_with fail
              go_roundw
              case rel => exact ⟨j + S.size, k + 1, by omega, by omega, by go_num, by go_num, HPl.out, Hbel.out.trans (HB4.out.mono hwr)⟩
              case measure => simp [intOf]; omega
      · obtain rfl : k = ts.length := by omega
        rw [List.drop_length] at hpl
        obtain ⟨D, hD⟩ : ∃ D, D = s.data.toList.drop i := ⟨_, rfl⟩
        rw [← hD] at hpl
        cases hpl with
        | done _ _ fin q1 =>
          have hl := congrArg List.length hD
          rw [List.length_drop, Lx.ba_len] at hl
          have hnA : ¬ s.size < i := by omega
          have hD' : s.data.toList.drop i = D ++ [] := by rw [List.append_nil, hD]
          have Hgap := Lib.hid q1; have HD := Lib.hid hD'; have Hl := Lib.hid hl; have HT := Lib.hid hT
          clear q1 hD hD' hl hT
          go_wp2_with fail
          go_loopw [6, 9] (fun v6 v9 w3 => ∃ (j : Nat) (cm : Bool), i ≤ j ∧ j ≤ s.size ∧ v6 = .int .i64 j ∧ v9 = .bool cm ∧ Lx.gap (D.drop (j - i)) cm = some fin ∧ w3 = wr) (fun v6 _ _ => s.size - (intOf v6).toNat)
          case atStart => exact ⟨i, false, Nat.le_refl _, by omega, rfl, rfl, by rw [Nat.sub_self, List.drop_zero]; exact Hgap.out, by first | rfl | trivial⟩
          case round =>
            obtain ⟨j, cm, hij, hjt, rfl, rfl, hgap, rfl⟩ := hrel
            by_cases hlt : j < s.size
            · obtain ⟨hjs, hcons⟩ := Lx.seg_cons HD.out hij (show j < i + D.length by have := Hl.out; omega)
              rw [hcons] at hgap
              have hsps := fun W => rSpace s[j] W
              rcases Lx.gap_round hgap with ⟨h10, hspc, hnx⟩ | ⟨h10, rfl, hnx⟩ | ⟨h10, rfl, h47, hspc, hnx⟩ | ⟨h10, rfl, h47, hh, hnx⟩
              · rw [hspc] at hsps
                have Hsps := Lib.hid hsps; have Hnx := Lib.hid hnx
                clear hsps hnx hgap hcons hspc
                go_wp2_with fail
                refine (Hsps.out _).mono ?_
                rintro e w4 ⟨rfl, rfl⟩
                go_wp2_with fail
                go_roundw
                case rel => exact ⟨j + 1, false, by omega, by omega, by go_num, by first | rfl | simp, Hnx.out, by first | rfl | trivial⟩
                case measure => simp [intOf]; omega
              · have Hnx := Lib.hid hnx
                clear hsps hnx hgap hcons
                go_wp2_with fail
                go_roundw
                case rel => exact ⟨j + 1, true, by omega, by omega, by go_num, by first | rfl | simp, Hnx.out, by first | rfl | trivial⟩
                case measure => simp [intOf]; omega
              · rw [hspc] at hsps
                have Hsps := Lib.hid hsps; have Hnx := Lib.hid hnx
                clear hsps hnx hgap hcons hspc
                go_wp2_with fail
                refine (Hsps.out _).mono ?_
                rintro e w4 ⟨rfl, rfl⟩
                go_wp2_with fail
                go_roundw
                case rel => exact ⟨j + 1, false, by omega, by omega, by go_num, by first | rfl | simp, Hnx.out, by first | rfl | trivial⟩
                case measure => simp [intOf]; omega
              · obtain ⟨hlt2, hjs2, h47b⟩ := Lx.seg_head HD.out hij (show j < i + D.length by have := Hl.out; omega) hh
                have hlt3 : j + 1 < s.size := by have := Hl.out; omega
                have Hnx := Lib.hid hnx
                clear hsps hnx hgap hcons hh hlt2
                go_wp2_with fail
                go_roundw
                case rel => exact ⟨j + 1, true, by omega, by omega, by go_num, by first | rfl | simp, Hnx.out, by first | rfl | trivial⟩
                case measure => simp [intOf]; omega
            · obtain rfl : j = s.size := by omega
              have hfin : cm = fin := by
                rw [List.drop_of_length_le (by have := Hl.out; omega)] at hgap
                injection hgap
              subst hfin
              clear hgap
              go_wp2_with fail
              go_ret
              exact ⟨rfl, HB2.out.trans (Hbel.out.mono HB2.out.size)⟩
end Go.Proofs.YtocelmjncjompaaDoor
