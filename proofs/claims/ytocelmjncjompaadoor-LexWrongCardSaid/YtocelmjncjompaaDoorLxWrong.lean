/- The law LexWrong: what stands before an error has tokens, and the error remains behind a blank: the walk. -/
import Derived.Test.YtocelmjncjompaaDoorLxM
import Derived.Test.YtocelmjncjompaaDoorLxExt
namespace Go.Proofs.YtocelmjncjompaaDoor
open Go.RowKit
open Lx (Tok)

set_option maxHeartbeats 2000000 in
theorem lawWrong (s m : ByteArray) (w : World) (hs : s.size ≤ 140737488355327) (hm : m.size ≤ 140737488355327) (he : Env w) : Calls Tryd.prog 8 #[.string s, .string m] w fun e w' => e = .returned (.bool true) ∧ Below w.heap.size w w' := by
  have hsane := lSane w he
  have Hsane := Lib.hid hsane; have HE := Lib.hid he
  clear hsane he
  by_cases hlen : 3000 < s.size + m.size
  · go_enter Tryd.func8, Tryd.ntmps8
    go_wp2_with fail
    refine (Hsane.out).mono ?_
    rintro e w1 ⟨rfl, hb1⟩
    have HB1 := Lib.hid hb1; clear hb1
    go_wp2_with fail
    go_ret
    exact ⟨rfl, HB1.out⟩
  have hlen' : s.size + m.size ≤ 3000 := by omega
  clear hlen
  cases hL : Lx.lex s.data.toList with
  | ok l =>
    have HL := Lib.hid hL; clear hL
    go_enter Tryd.func8, Tryd.ntmps8
    go_wp2_with fail
    refine (Hsane.out).mono ?_
    rintro e w1 ⟨rfl, hb1⟩
    have HB1 := Lib.hid hb1; clear hb1
    go_wp2_with fail
    refine (lLexOk s _ w1 (HE.out.next HB1.out) (by omega) HL.out).mono ?_
    rintro e w2 ⟨A2, c2, rfl, hT2, hb2, he2⟩
    have HB2 := Lib.hid hb2
    clear hb2 he2 hT2
    go_wp2_with fail
    go_ret
    exact ⟨rfl, HB1.out.trans (HB2.out.mono HB1.out.size)⟩
  | err p =>
    obtain ⟨hp, ⟨ts, hts⟩, hdr, hmore⟩ := Lx.lex_err hL
    rw [Lx.ba_len] at hp
    have e1 : (s.extract 0 p).data.toList = s.data.toList.take p := by
      have := Lx.ext_list s 0 p
      rwa [Nat.zero_add, List.drop_zero] at this
    have e2 : (s.extract p s.size).data.toList = s.data.toList.drop p := Lib.extract_to_end s p
    have e3 : (s ++ (⟨#[32]⟩ : ByteArray) ++ m).data.toList = s.data.toList ++ 32 :: m.data.toList := by simp
    have z1 : (s.extract 0 p).size ≤ 65536 := by
      rw [← Lx.ba_len, e1, List.length_take, Lx.ba_len]; omega
    have z2 : (s.extract p s.size).size ≤ 65536 := by
      rw [← Lx.ba_len, e2, List.length_drop, Lx.ba_len]; omega
    have z3 : (s ++ (⟨#[32]⟩ : ByteArray) ++ m).size ≤ 65536 := by
      rw [← Lx.ba_len, e3, List.length_append, List.length_cons, Lx.ba_len, Lx.ba_len]; omega
    have z4 : (s ++ (⟨#[32]⟩ : ByteArray)).size = s.size + 1 := by simp [ByteArray.size_append]; rfl
    have H1 := Lib.hid (show Lx.lex (s.extract 0 p).data.toList = .ok ts by rw [e1]; exact hts)
    have H2 := Lib.hid (show Lx.lex (s.extract p s.size).data.toList = .err 0 by rw [e2]; exact hdr)
    have H3 := Lib.hid (show Lx.lex (s ++ (⟨#[32]⟩ : ByteArray) ++ m).data.toList = .err p by rw [e3]; exact hmore _)
    have HL := Lib.hid hL; clear hL hts hdr hmore e1 e2 e3
    go_enter Tryd.func8, Tryd.ntmps8
    go_wp2_with fail
    refine (Hsane.out).mono ?_
    rintro e w1 ⟨rfl, hb1⟩
    have HB1 := Lib.hid hb1; clear hb1
    go_wp2_with fail
    refine (lLexErr s p w1 (HE.out.next HB1.out) (by omega) HL.out).mono ?_
    rintro e w2 ⟨rfl, hb2, he2⟩
    have HB2 := Lib.hid hb2; have HE2 := Lib.hid he2
    clear hb2 he2
    go_wp2_with fail
    refine (lLexOk _ _ w2 HE2.out z1 H1.out).mono ?_
    rintro e w3 ⟨A3, c3, rfl, hT3, hb3, he3⟩
    have HB3 := Lib.hid hb3; have HE3 := Lib.hid he3
    clear hb3 he3 hT3
    go_wp2_with fail
    refine (lLexErr _ p w3 HE3.out z3 H3.out).mono ?_
    rintro e w4 ⟨rfl, hb4, he4⟩
    have HB4 := Lib.hid hb4; have HE4 := Lib.hid he4
    clear hb4 he4
    go_wp2_with fail
    refine (lLexErr _ 0 w4 HE4.out z2 H2.out).mono ?_
    rintro e w5 ⟨rfl, hb5, he5⟩
    have HB5 := Lib.hid hb5
    clear hb5 he5
    go_wp2_with fail
    go_ret
    exact ⟨ret_bool (by simp), HB1.out.trans ((HB2.out.trans ((HB3.out.trans ((HB4.out.trans (HB5.out.mono HB4.out.size)).mono HB3.out.size)).mono HB2.out.size)).mono HB1.out.size)⟩
end Go.Proofs.YtocelmjncjompaaDoor
