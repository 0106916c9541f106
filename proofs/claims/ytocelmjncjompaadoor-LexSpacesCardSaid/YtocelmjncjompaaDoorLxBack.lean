/- The law LexBack: the text of tokens has the same tokens; the tokens of a source have a text with the same tokens: the walk. -/
import Derived.Test.YtocelmjncjompaaDoorLxWord
namespace Go.Proofs.YtocelmjncjompaaDoor
open Go.RowKit
open Lx (Tok)

theorem Lx.few_len {l : List Tok} (h : Lx.few l = true) : l.length ≤ 200 := by
  unfold Lx.few at h
  simp only [Bool.and_eq_true, decide_eq_true_eq] at h
  omega
theorem Lx.text_len {l : List Tok} {s : List UInt8} (h : Lx.text l = some s) : s.length ≤ 33 * l.length := by
  unfold Lx.text at h
  split at h
  · rename_i hv
    injection h with h
    subst h
    have := Lx.joinSp_len (l.map Tok.out) (fun x hx => by
      obtain ⟨t, ht, rfl⟩ := List.mem_map.1 hx
      exact Lx.valid_out (List.all_eq_true.1 hv t ht))
    rwa [List.length_map] at this
  · cases h

set_option maxHeartbeats 2000000 in
theorem lawBack (A : Option Addr) (c : Nat) (l : List Tok) (s : ByteArray) (w : World) (hT : Toks w w.heap.size A l) (hs : s.size ≤ 140737488355327) (he : Env w) :
    Calls Tryd.prog 5 #[.slice A l.length c, .string s] w fun e w' => e = .returned (.bool true) ∧ Below w.heap.size w w' := by
  have hsane := lSane w he
  have Hsane := Lib.hid hsane; have HE := Lib.hid he; have HT := Lib.hid hT
  clear hsane he hT
  cases hfew : Lx.few l
  · go_enter Tryd.func5, Tryd.ntmps5
    go_wp2_with fail
    refine (Hsane.out).mono ?_
    rintro e w1 ⟨rfl, hb1⟩
    have HB1 := Lib.hid hb1; clear hb1
    have hf := rFew A c l w1 ((HT.out.below HB1.out (Nat.le_refl _)).mono HB1.out.size)
    rw [hfew] at hf
    have HF := Lib.hid hf; clear hf
    go_wp2_with fail
    refine (HF.out).mono ?_
    rintro e w2 ⟨rfl, rfl⟩
    go_wp2_with fail
    go_ret
    exact ⟨rfl, HB1.out⟩
  by_cases hlen : 3000 < s.size
  · go_enter Tryd.func5, Tryd.ntmps5
    go_wp2_with fail
    refine (Hsane.out).mono ?_
    rintro e w1 ⟨rfl, hb1⟩
    have HB1 := Lib.hid hb1; clear hb1
    have hf := rFew A c l w1 ((HT.out.below HB1.out (Nat.le_refl _)).mono HB1.out.size)
    rw [hfew] at hf
    have HF := Lib.hid hf; clear hf
    go_wp2_with fail
    refine (HF.out).mono ?_
    rintro e w2 ⟨rfl, rfl⟩
    go_wp2_with fail
    go_ret
    exact ⟨rfl, HB1.out⟩
  have hlen' : s.size ≤ 3000 := by omega
  clear hlen
  have hl := Lx.few_len hfew
  cases hX : Lx.text l with
  | none =>
    have HX := Lib.hid hX; clear hX
    cases hL : Lx.lex s.data.toList with
    | err p =>
      have HL := Lib.hid hL; clear hL
      go_enter Tryd.func5, Tryd.ntmps5
      go_wp2_with fail
      refine (Hsane.out).mono ?_
      rintro e w1 ⟨rfl, hb1⟩
      have HB1 := Lib.hid hb1; clear hb1
      have ht1 := (HT.out.below HB1.out (Nat.le_refl _)).mono HB1.out.size
      have hf := rFew A c l w1 ht1
      rw [hfew] at hf
      have HF := Lib.hid hf; have HT1 := Lib.hid ht1; clear hf ht1
      go_wp2_with fail
      refine (HF.out).mono ?_
      rintro e w2 ⟨rfl, rfl⟩
      go_wp2_with fail
      refine (lTextErr A c l w1 (HE.out.next HB1.out) HT1.out (by omega) HX.out).mono ?_
      rintro e w2 ⟨rfl, hb2, he2⟩
      have HB2 := Lib.hid (HB1.out.trans (hb2.mono HB1.out.size)); have HE2 := Lib.hid he2
      clear hb2 he2
      go_wp2_with fail
      refine (lLexErr s p w2 HE2.out (by omega) HL.out).mono ?_
      rintro e w5 ⟨rfl, hb5, _⟩
      have HB5 := Lib.hid hb5; clear hb5
      go_wp2_with fail
      go_ret
      exact ⟨rfl, HB2.out.trans (HB5.out.mono HB2.out.size)⟩
    | ok ts =>
      have hY := Lx.text_of_lex hL
      obtain ⟨y, hy, hsy⟩ := Lx.lex_text hY
      have hlen2 := Lx.lex_len hL
      rw [Lx.ba_len] at hlen2
      have htl : ts.length ≤ 65536 := by omega
      obtain ⟨z, hz⟩ : ∃ z, z = Lx.joinSp (ts.map Tok.out) := ⟨_, rfl⟩
      rw [← hz] at hY hy hlen2
      have zy : (Lx.bs z).size ≤ 65536 := by rw [Lx.bs_size]; omega
      have HY := Lib.hid hY; have HL := Lib.hid hL
      have HN := Lib.hid (show Lx.lex (Lx.bs z).data.toList = .ok y by rw [Lx.bs_list]; exact hy)
      clear hY hL hy hz hlen2
      go_enter Tryd.func5, Tryd.ntmps5
      go_wp2_with fail
      refine (Hsane.out).mono ?_
      rintro e w1 ⟨rfl, hb1⟩
      have HB1 := Lib.hid hb1; clear hb1
      have ht1 := (HT.out.below HB1.out (Nat.le_refl _)).mono HB1.out.size
      have hf := rFew A c l w1 ht1
      rw [hfew] at hf
      have HF := Lib.hid hf; have HT1 := Lib.hid ht1; clear hf ht1
      go_wp2_with fail
      refine (HF.out).mono ?_
      rintro e w2 ⟨rfl, rfl⟩
      go_wp2_with fail
      refine (lTextErr A c l w1 (HE.out.next HB1.out) HT1.out (by omega) HX.out).mono ?_
      rintro e w2 ⟨rfl, hb2, he2⟩
      have HB2 := Lib.hid (HB1.out.trans (hb2.mono HB1.out.size)); have HE2 := Lib.hid he2
      clear hb2 he2
      go_wp2_with fail
      refine (lLexOk s ts w2 HE2.out (by omega) HL.out).mono ?_
      rintro e w5 ⟨A5, c5, rfl, hT5, hb5, he5⟩
      have HB5 := Lib.hid hb5; have HE5 := Lib.hid he5; have HT5 := Lib.hid hT5; clear hb5 he5 hT5
      go_wp2_with fail
      refine (lTextOk A5 c5 ts _ w5 HE5.out HT5.out (by omega) HY.out).mono ?_
      rintro e w6 ⟨rfl, hb6, he6⟩
      have HB6 := Lib.hid hb6; have HE6 := Lib.hid he6; clear hb6 he6
      go_wp2_with fail
      refine (lLexOk _ _ w6 HE6.out zy HN.out).mono ?_
      rintro e w7 ⟨A7, c7, rfl, hT7, hb7, he7⟩
      have HB7 := Lib.hid hb7
      have hs7 := lSame A5 A7 c5 c7 ts y w7 ((HT5.out.below (HB6.out.trans (hb7.mono HB6.out.size)) (Nat.le_refl _)).mono (Nat.le_trans HB6.out.size hb7.size)) hT7
      rw [hsy] at hs7
      have HS7 := Lib.hid hs7
      clear hb7 he7 hT7 hs7
      go_wp2_with fail
      refine (HS7.out).mono ?_
      rintro e w8 ⟨rfl, hb8⟩
      have HB8 := Lib.hid hb8; clear hb8
      go_wp2_with fail
      go_ret
      exact ⟨ret_bool (by simp), HB2.out.trans ((HB5.out.trans ((HB6.out.trans ((HB7.out.trans (HB8.out.mono HB7.out.size)).mono HB6.out.size)).mono HB5.out.size)).mono HB2.out.size)⟩
  | some x =>
    obtain ⟨m, hm, hsm⟩ := Lx.lex_text hX
    have hxl := Lx.text_len hX
    have zx : (Lx.bs x).size ≤ 65536 := by rw [Lx.bs_size]; omega
    have HM := Lib.hid (show Lx.lex (Lx.bs x).data.toList = .ok m by rw [Lx.bs_list]; exact hm)
    clear hm hxl
    have HX := Lib.hid hX; clear hX
    cases hL : Lx.lex s.data.toList with
    | err p =>
      have HL := Lib.hid hL; clear hL
      go_enter Tryd.func5, Tryd.ntmps5
      go_wp2_with fail
      refine (Hsane.out).mono ?_
      rintro e w1 ⟨rfl, hb1⟩
      have HB1 := Lib.hid hb1; clear hb1
      have ht1 := (HT.out.below HB1.out (Nat.le_refl _)).mono HB1.out.size
      have hf := rFew A c l w1 ht1
      rw [hfew] at hf
      have HF := Lib.hid hf; have HT1 := Lib.hid ht1; clear hf ht1
      go_wp2_with fail
      refine (HF.out).mono ?_
      rintro e w2 ⟨rfl, rfl⟩
      go_wp2_with fail
      refine (lTextOk A c l x w1 (HE.out.next HB1.out) HT1.out (by omega) HX.out).mono ?_
      rintro e w2 ⟨rfl, hb2, he2⟩
      have HBa := Lib.hid hb2; have HE2 := Lib.hid he2
      clear hb2 he2
      go_wp2_with fail
      refine (lLexOk _ _ w2 HE2.out zx HM.out).mono ?_
      rintro e w3 ⟨Am, cm, rfl, hTm, hbm, hem⟩
      have HBm := Lib.hid hbm; have HEm := Lib.hid hem
      have hs3 := lSame A Am c cm l m w3 ((HT1.out.below (HBa.out.trans (hbm.mono HBa.out.size)) (Nat.le_refl _)).mono (Nat.le_trans HBa.out.size hbm.size)) hTm
      rw [hsm] at hs3
      have HS3 := Lib.hid hs3
      clear hbm hem hTm hs3
      go_wp2_with fail
      refine (HS3.out).mono ?_
      rintro e w4 ⟨rfl, hb4⟩
      have HB2 := Lib.hid ((HB1.out.trans (HBa.out.mono HB1.out.size)).trans ((HBm.out.trans (hb4.mono HBm.out.size)).mono (Nat.le_trans HB1.out.size HBa.out.size)))
      have HE2 := Lib.hid (HEm.out.next hb4)
      clear hb4
      go_wp2_with fail
      refine (lLexErr s p w4 HE2.out (by omega) HL.out).mono ?_
      rintro e w5 ⟨rfl, hb5, _⟩
      have HB5 := Lib.hid hb5; clear hb5
      go_wp2_with fail
      go_ret
      exact ⟨rfl, HB2.out.trans (HB5.out.mono HB2.out.size)⟩
    | ok ts =>
      have hY := Lx.text_of_lex hL
      obtain ⟨y, hy, hsy⟩ := Lx.lex_text hY
      have hlen2 := Lx.lex_len hL
      rw [Lx.ba_len] at hlen2
      have htl : ts.length ≤ 65536 := by omega
      obtain ⟨z, hz⟩ : ∃ z, z = Lx.joinSp (ts.map Tok.out) := ⟨_, rfl⟩
      rw [← hz] at hY hy hlen2
      have zy : (Lx.bs z).size ≤ 65536 := by rw [Lx.bs_size]; omega
      have HY := Lib.hid hY; have HL := Lib.hid hL
      have HN := Lib.hid (show Lx.lex (Lx.bs z).data.toList = .ok y by rw [Lx.bs_list]; exact hy)
      clear hY hL hy hz hlen2
      go_enter Tryd.func5, Tryd.ntmps5
      go_wp2_with fail
      refine (Hsane.out).mono ?_
      rintro e w1 ⟨rfl, hb1⟩
      have HB1 := Lib.hid hb1; clear hb1
      have ht1 := (HT.out.below HB1.out (Nat.le_refl _)).mono HB1.out.size
      have hf := rFew A c l w1 ht1
      rw [hfew] at hf
      have HF := Lib.hid hf; have HT1 := Lib.hid ht1; clear hf ht1
      go_wp2_with fail
      refine (HF.out).mono ?_
      rintro e w2 ⟨rfl, rfl⟩
      go_wp2_with fail
      refine (lTextOk A c l x w1 (HE.out.next HB1.out) HT1.out (by omega) HX.out).mono ?_
      rintro e w2 ⟨rfl, hb2, he2⟩
      have HBa := Lib.hid hb2; have HE2 := Lib.hid he2
      clear hb2 he2
      go_wp2_with fail
      refine (lLexOk _ _ w2 HE2.out zx HM.out).mono ?_
      rintro e w3 ⟨Am, cm, rfl, hTm, hbm, hem⟩
      have HBm := Lib.hid hbm; have HEm := Lib.hid hem
      have hs3 := lSame A Am c cm l m w3 ((HT1.out.below (HBa.out.trans (hbm.mono HBa.out.size)) (Nat.le_refl _)).mono (Nat.le_trans HBa.out.size hbm.size)) hTm
      rw [hsm] at hs3
      have HS3 := Lib.hid hs3
      clear hbm hem hTm hs3
      go_wp2_with fail
      refine (HS3.out).mono ?_
      rintro e w4 ⟨rfl, hb4⟩
      have HB2 := Lib.hid ((HB1.out.trans (HBa.out.mono HB1.out.size)).trans ((HBm.out.trans (hb4.mono HBm.out.size)).mono (Nat.le_trans HB1.out.size HBa.out.size)))
      have HE2 := Lib.hid (HEm.out.next hb4)
      clear hb4
      go_wp2_with fail
      refine (lLexOk s ts w4 HE2.out (by omega) HL.out).mono ?_
      rintro e w5 ⟨A5, c5, rfl, hT5, hb5, he5⟩
      have HB5 := Lib.hid hb5; have HE5 := Lib.hid he5; have HT5 := Lib.hid hT5; clear hb5 he5 hT5
      go_wp2_with fail
      refine (lTextOk A5 c5 ts _ w5 HE5.out HT5.out (by omega) HY.out).mono ?_
      rintro e w6 ⟨rfl, hb6, he6⟩
      have HB6 := Lib.hid hb6; have HE6 := Lib.hid he6; clear hb6 he6
      go_wp2_with fail
      refine (lLexOk _ _ w6 HE6.out zy HN.out).mono ?_
      rintro e w7 ⟨A7, c7, rfl, hT7, hb7, he7⟩
      have HB7 := Lib.hid hb7
      have hs7 := lSame A5 A7 c5 c7 ts y w7 ((HT5.out.below (HB6.out.trans (hb7.mono HB6.out.size)) (Nat.le_refl _)).mono (Nat.le_trans HB6.out.size hb7.size)) hT7
      rw [hsy] at hs7
      have HS7 := Lib.hid hs7
      clear hb7 he7 hT7 hs7
      go_wp2_with fail
      refine (HS7.out).mono ?_
      rintro e w8 ⟨rfl, hb8⟩
      have HB8 := Lib.hid hb8; clear hb8
      go_wp2_with fail
      go_ret
      exact ⟨ret_bool (by simp), HB2.out.trans ((HB5.out.trans ((HB6.out.trans ((HB7.out.trans (HB8.out.mono HB7.out.size)).mono HB6.out.size)).mono HB5.out.size)).mono HB2.out.size)⟩
end Go.Proofs.YtocelmjncjompaaDoor
