/- Parts of the proof, joined into one text: RpRule, RpRsp, LxCard, LxOpen, SxCard. -/
import Derived.Test.YtjonaidancomgaaGreatDoorYRpRulD
import Derived.Test.YtjonaidancomgaaGreatDoorYLxRefLex
import Derived.Test.YtjonaidancomgaaGreatDoorYSxSanC
import Derived.Test.YtjonaidancomgaaGreatDoorYSxEqs
import Derived.Test.YtjonaidancomgaaGreatDoorCards
import Derived.Test.YtjonaidancomgaaGreatDoorTie
import Derived.Test.YtjonaidancomgaaGreatDoorYShelf
import Derived.WalkKit
import Derived.ProofKit
import Derived.LaidMore
import Derived.OpenShut
import Derived.Below
import Derived.ChangeSame
import Derived.Stop.Joined
import Derived.Stop.LaidErr
import Derived.Lib.LaidTab
import Derived.Deep.DeepHandedRow
import Derived.Deep.DeepWitnessRowRef
import Derived.Deep.Slices
import Derived.Deep.Fields
import Derived.Test.YtjonaidancomgaaGreatDoorYSxParD
import Derived.SliceStrings

namespace Go.Proofs.YtjonaidancomgaaGreatDoor
open Go.RowKit

def RuleOut (s : List UInt8) (w : World) (e : Ending) (w' : World) : Prop := Below w.heap.size w w' ∧
 match Sx.parseRule s with
 | .ok r => ∃ cs : List Value, e = .returned (.tuple #[.agg cs.toArray, .int .i64 0, .int .i64 0]) ∧ RuleAt w' (Old w') r cs
 | .bad p x => e = .returned (.tuple #[.agg #[.int .i64 0, .int .i64 0, .string ⟨#[]⟩, .int .i64 0, .int .i64 0, .slice none 0 0], .int .i64 p, .int .i64 x])
theorem RuleOut.bad {s : List UInt8} {w w' : World} {p x : Int} (h : Sx.parseRule s = .bad p x) (hb : Below w.heap.size w w') : RuleOut s w (.returned (.tuple #[.agg #[.int .i64 0, .int .i64 0, .string ⟨#[]⟩, .int .i64 0, .int .i64 0, .slice none 0 0], .int .i64 p, .int .i64 x])) w' := ⟨hb, by rw [h]⟩
theorem RuleOut.ok {s : List UInt8} {w w' : World} {r : Sx.Rule} {cs : List Value} (h : Sx.parseRule s = .ok r) (hb : Below w.heap.size w w') (hr : RuleAt w' (Old w') r cs) : RuleOut s w (.returned (.tuple #[.agg cs.toArray, .int .i64 0, .int .i64 0])) w' := ⟨hb, by rw [h]; exact ⟨cs, rfl, hr⟩⟩
theorem Sx.parseRule_long {s : List UInt8} (h : 65536 < s.length) : Sx.parseRule s = .bad 0 2 := by unfold Sx.parseRule Sx.parseBy; rw [if_pos h]
theorem Sx.parseRule_err {s : List UInt8} {p : Nat} (h : ¬ 65536 < s.length) (hl : Lx.lex s = .err p) : Sx.parseRule s = .bad p 90 := by unfold Sx.parseRule Sx.parseBy; rw [if_neg h, hl]
theorem Sx.parseRule_lex {s : List UInt8} {l : List Lx.Tok} (h : ¬ 65536 < s.length) (hl : Lx.lex s = .ok l) : Sx.parseRule s = match (Sx.go (.ok () l) (Sx.rule s.length 16 0)).bind fun a l => Sx.ended s.length a l with | .ok a _ => .ok a | .bad p e => .bad p e := by unfold Sx.parseRule Sx.parseBy; rw [if_neg h, hl]; simp only [Sx.goOk]; cases (Sx.rule s.length 16 0 l).bind fun a l => Sx.ended s.length a l <;> rfl
set_option maxRecDepth 20000 in
set_option maxHeartbeats 2000000 in
theorem rRule16 (s : ByteArray) (w : World) (hs : s.size ≤ 100000) : Calls Tryz.prog 16 #[.string s] w (RuleOut s.data.toList w) := by
 have HBg := Lh (fun W => pBegin s W hs)
 obtain ⟨W1, hW1⟩ : ∃ W1, W1 = w.alloc (.cells #[.int .i64 0, .int .i64 0, .string ⟨#[]⟩, .int .i64 0, .int .i64 0, .slice none 0 0] 38) := ⟨_, rfl⟩
 have HB := Lh (show Below w.heap.size w W1 by rw [hW1]; exact (Below.refl _ _).alloc (Nat.le_refl _) _)
 have HX_a := Lh (show Blk W1 w.heap.size 38 #[.int .i64 0, .int .i64 0, .string ⟨#[]⟩, .int .i64 0, .int .i64 0, .slice none 0 0] by rw [hW1]; exact Blk.new _ _ _)
 have hz0 := HX_a.out.lt
 go_enter Tryz.func16, Tryz.ntmps16
 go_upto_region 1 with fail
 rw [← hW1]
 clear hW1
 go_wp2_with fail
 refine (HBg.out _).mono ?_
 rintro e' w1 ⟨hb, hpost⟩
 obtain ⟨src, hsrc⟩ : ∃ src, src = s.data.toList := ⟨_, rfl⟩
 rw [← hsrc] at hpost
 have Hsrc := Lh hsrc
 clear HBg hsrc
 have hgz := hb.size
 replace HB := bmb HB hb
 replace HX_a := bmv HX_a hb
 clear hb
 by_cases hlong : 65536 < src.length
 ·rw [if_pos hlong] at hpost
  subst hpost
  unfold pv
  have HOut := Lh (Sx.parseRule_long hlong)
  clear hlong
  obtain ⟨V2, hV2⟩ : ∃ V, V = w1.alloc (.cells #[.slice none 0 0, .int .i64 0, .int .i64 0, .int .i64 0, .int .i64 0] 64) := ⟨_, rfl⟩
  obtain ⟨HX_p, hb⟩ := bnw hV2
  have hgz := hb.size
  replace HB := bmb HB hb
  replace HX_a := bmv HX_a hb
  clear hb
  go_upto_region 3 with fail
  rw [← hV2]
  clear hV2
  obtain ⟨c_a0, c_a1, c_a2, c_a3, c_a4, c_a5, z_a⟩ := cells6 HX_a.out
  obtain ⟨f_a0, f_a1, f_a2, f_a3, f_a4, f_a5⟩ := frees6 HX_a.out
  obtain ⟨W9, hW9, hxn, hfar, hbn⟩ := pstoreR HX_a.out (.int .i64 0) (.int .i64 0) (.string ⟨#[]⟩) (.int .i64 0) (.int .i64 0) (.slice none 0 0)
  replace HB := Lh (hbn w.heap.size w HB.out (by omega))
  replace HX_p := bfr hfar.1 HX_p (by omega)
  replace HX_a := Lh hxn
  have hsz_W9 := hfar.2
  clear hxn hfar hbn
  go_wp2_with fail
  rw [← hW9]
  clear hW9
  clear c_a0 c_a1 c_a2 c_a3 c_a4 c_a5 z_a f_a0 f_a1 f_a2 f_a3 f_a4 f_a5
  obtain ⟨c_a0, c_a1, c_a2, c_a3, c_a4, c_a5, z_a⟩ := cells6 HX_a.out
  exact bodyPost_ret (v := .tuple #[.agg #[.int .i64 0, .int .i64 0, .string ⟨#[]⟩, .int .i64 0, .int .i64 0, .slice none 0 0], .int .i64 0, .int .i64 2]) (by simp [results, Tryz.results16, go_sem, c_a0, c_a1, c_a2, c_a3, c_a4, c_a5]) rfl (.bad (Hsrc.out ▸ HOut.out) HB.out)
 rw [if_neg hlong] at hpost
 have HLong := Lh hlong
 clear hlong
 cases hl : Lx.lex src with
 | err p =>
  rw [hl] at hpost
  simp only at hpost
  subst hpost
  unfold pv
  have HOut := Lh (Sx.parseRule_err HLong.out hl)
  clear hl
  obtain ⟨V2, hV2⟩ : ∃ V, V = w1.alloc (.cells #[.slice none 0 0, .int .i64 0, .int .i64 0, .int .i64 0, .int .i64 0] 64) := ⟨_, rfl⟩
  obtain ⟨HX_p, hb⟩ := bnw hV2
  have hgz := hb.size
  replace HB := bmb HB hb
  replace HX_a := bmv HX_a hb
  clear hb
  go_upto_region 3 with fail
  rw [← hV2]
  clear hV2
  obtain ⟨c_a0, c_a1, c_a2, c_a3, c_a4, c_a5, z_a⟩ := cells6 HX_a.out
  obtain ⟨f_a0, f_a1, f_a2, f_a3, f_a4, f_a5⟩ := frees6 HX_a.out
  obtain ⟨W9, hW9, hxn, hfar, hbn⟩ := pstoreR HX_a.out (.int .i64 0) (.int .i64 0) (.string ⟨#[]⟩) (.int .i64 0) (.int .i64 0) (.slice none 0 0)
  replace HB := Lh (hbn w.heap.size w HB.out (by omega))
  replace HX_p := bfr hfar.1 HX_p (by omega)
  replace HX_a := Lh hxn
  have hsz_W9 := hfar.2
  clear hxn hfar hbn
  go_wp2_with fail
  rw [← hW9]
  clear hW9
  clear c_a0 c_a1 c_a2 c_a3 c_a4 c_a5 z_a f_a0 f_a1 f_a2 f_a3 f_a4 f_a5
  obtain ⟨c_a0, c_a1, c_a2, c_a3, c_a4, c_a5, z_a⟩ := cells6 HX_a.out
  exact bodyPost_ret (v := .tuple #[.agg #[.int .i64 0, .int .i64 0, .string ⟨#[]⟩, .int .i64 0, .int .i64 0, .slice none 0 0], .int .i64 p, .int .i64 90]) (by simp [results, Tryz.results16, go_sem, c_a0, c_a1, c_a2, c_a3, c_a4, c_a5]) rfl (.bad (Hsrc.out ▸ HOut.out) HB.out)
 | ok T =>
  rw [hl] at hpost
  obtain ⟨A, c, rfl, hctx⟩ := hpost
  have HOut := Lh (Sx.parseRule_lex HLong.out hl)
  obtain ⟨last, hlast⟩ : ∃ last : Int, last = src.length := ⟨_, rfl⟩
  rw [← hlast] at HOut ⊢
  obtain ⟨n, hn⟩ : ∃ n, n = T.length := ⟨_, rfl⟩
  rw [← hn]
  have Hn := Lh hn; have HC := Lh hctx
  unfold pv
  clear hl hlast hn hctx HLong
  obtain ⟨V2, hV2⟩ : ∃ V, V = w1.alloc (.cells #[.slice A n c, .int .i64 0, .int .i64 last, .int .i64 0, .int .i64 0] 64) := ⟨_, rfl⟩
  obtain ⟨HX_p, hb⟩ := bnw hV2
  have hgz := hb.size
  replace HB := bmb HB hb
  replace HX_a := bmv HX_a hb
  clear hb
  have hb12 : Below w1.heap.size w1 V2 := by rw [hV2]; exact (Below.refl _ _).alloc (Nat.le_refl _) _
  have HC2 := Lh (HC.out.next hb12)
  have HRl := Lh (pRule T A c last 16 (Nat.le_refl _) false (.ok () T) 0 0 0 V2 HC2.out ⟨rfl, rfl, 0, rfl, Nat.zero_le _, rfl⟩)
  rw [show (17 : Int) - ((16 : Nat) : Int) = 1 from rfl, if_neg (by simp)] at HRl
  unfold PRead pv at HRl
  rw [← Hn.out] at HRl
  clear hb12
  go_upto_region 4 with fail
  rw [← hV2]
  clear hV2
  obtain ⟨c_p0, c_p1, c_p2, c_p3, c_p4, z_p⟩ := cells5 HX_p.out
  go_wp2_with fail
  refine HRl.out.mono ?_
  rintro e' w4 ⟨m, vs, k4, x4, p4, rfl, hv, ⟨ck, hvs, hrk⟩, ha, hb⟩
  have HRk := Lh hrk
  obtain ⟨i0, i1, i2, i3, i4, iA, iN, iC, rfl⟩ := form_ruleB hrk
  subst hvs
  simp only [List.cons_append, List.nil_append]
  have HV := Lh hv; have HA := Lh ha; have HC4 := Lh (HC2.out.next hb)
  clear hv ha HRl hrk
  clear c_p0 c_p1 c_p2 c_p3 c_p4 z_p
  have hgz := hb.size
  replace HB := bmb HB hb
  replace HX_a := bmv HX_a hb
  replace HX_p := bmv HX_p hb
  clear hb
  have HK := kpn (V2.heap.size) w4
  obtain ⟨V3, hV3⟩ : ∃ V, V = w4.alloc (.cells #[.int .i64 i0, .int .i64 i1, .string i2, .int .i64 i3, .int .i64 i4, .slice iA iN iC] 38) := ⟨_, rfl⟩
  obtain ⟨HX_r, hb⟩ := bnw hV3
  have hgz := hb.size
  replace HB := bmb HB hb
  replace HX_a := bmv HX_a hb
  replace HX_p := bmv HX_p hb
  replace HK := kpm HK hb
  clear hb
  obtain ⟨V4, hV4⟩ : ∃ V, V = V3.alloc (.cells #[.slice A n c, .int .i64 k4, .int .i64 last, .int .i64 x4, .int .i64 p4] 64) := ⟨_, rfl⟩
  obtain ⟨HX_u, hb⟩ := bnw hV4
  have hgz := hb.size
  replace HB := bmb HB hb
  replace HX_a := bmv HX_a hb
  replace HX_p := bmv HX_p hb
  replace HX_r := bmv HX_r hb
  replace HK := kpm HK hb
  clear hb
  rw [hV3] at hV4
  have hsz3 : V3.heap.size = w4.heap.size + 1 := by rw [hV3]; simp
  have hsz4 : V4.heap.size = w4.heap.size + 2 := by rw [hV4]; simp
  replace HX_u := bat (b := w4.heap.size + 1) HX_u hsz3
  have HC5 := Lh (HC4.out.next (show Below w4.heap.size w4 V4 by rw [hV4]; exact ((Below.refl _ _).alloc (Nat.le_refl _) _).alloc (by simp) _))
  go_upto_region 5 with fail
  rw [← hV4]
  clear hV3 hV4
  obtain ⟨q, hq⟩ : ∃ q, q = Sx.go (.ok () T) (Sx.rule last 16 0) := ⟨_, rfl⟩
  rw [← hq] at HV HA HOut
  clear hq
  rcases HA.out.cases with ⟨hvd, hy⟩ | ⟨hvd, rfl, rfl, hkn⟩ | ⟨j, tk, hvd, rfl, rfl, rfl, hj, ht⟩
  ·have hx1 : (x4 == 0) = false := by simpa using hy
   have hx2 : (x4 != 0) = true := by simpa using hy
   have HBad : Hid (Sx.parseRule src = .bad p4 x4) := Lh (by
    rw [HOut.out]
    cases q with
    | bad p e => injection hvd with e1 e2; subst e1; subst e2; rfl
    | ok a l => cases hvd)
   clear hvd hy
   obtain ⟨c_a0, c_a1, c_a2, c_a3, c_a4, c_a5, z_a⟩ := cells6 HX_a.out
   obtain ⟨f_a0, f_a1, f_a2, f_a3, f_a4, f_a5⟩ := frees6 HX_a.out
   obtain ⟨c_u0, c_u1, c_u2, c_u3, c_u4, z_u⟩ := cells5 HX_u.out
   obtain ⟨W9, hW9, hxn, hfar, hbn⟩ := pstoreR HX_a.out (.int .i64 0) (.int .i64 0) (.string ⟨#[]⟩) (.int .i64 0) (.int .i64 0) (.slice none 0 0)
   replace HB := Lh (hbn w.heap.size w HB.out (by omega))
   replace HX_p := bfr hfar.1 HX_p (by omega)
   replace HX_r := bfr hfar.1 HX_r (by omega)
   replace HX_u := bfr hfar.1 HX_u (by omega)
   replace HX_a := Lh hxn
   replace HK := kpf hfar.1 hfar.2 HK (by omega)
   have hsz_W9 := hfar.2
   clear hxn hfar hbn
   go_wp2_with fail
   go_region
   rw [← hW9]
   clear hW9
   clear c_a0 c_a1 c_a2 c_a3 c_a4 c_a5 z_a f_a0 f_a1 f_a2 f_a3 f_a4 f_a5 c_u0 c_u1 c_u2 c_u3 c_u4 z_u
   obtain ⟨c_a0, c_a1, c_a2, c_a3, c_a4, c_a5, z_a⟩ := cells6 HX_a.out
   go_wp2_with fail
   exact bodyPost_ret (v := .tuple #[.agg #[.int .i64 0, .int .i64 0, .string ⟨#[]⟩, .int .i64 0, .int .i64 0, .slice none 0 0], .int .i64 p4, .int .i64 x4]) (by simp [results, Tryz.results16, go_sem, c_a0, c_a1, c_a2, c_a3, c_a4, c_a5]) rfl (.bad (Hsrc.out ▸ HBad.out) HB.out.drew)
  ·have HOk : Hid (Sx.parseRule src = .ok m) := Lh (by
    rw [HOut.out]
    cases q with
    | bad p e => cases hvd
    | ok a l =>
     injection hvd with _ e2
     subst e2
     obtain rfl := HV.out a [] rfl
     rfl)
   rw [← Hn.out] at hkn
   subst hkn
   have hz : ¬ (n : Int) < n := by omega
   clear hvd
   obtain ⟨c_a0, c_a1, c_a2, c_a3, c_a4, c_a5, z_a⟩ := cells6 HX_a.out
   obtain ⟨f_a0, f_a1, f_a2, f_a3, f_a4, f_a5⟩ := frees6 HX_a.out
   obtain ⟨c_r0, c_r1, c_r2, c_r3, c_r4, c_r5, z_r⟩ := cells6 HX_r.out
   obtain ⟨c_u0, c_u1, c_u2, c_u3, c_u4, z_u⟩ := cells5 HX_u.out
   obtain ⟨W9, hW9, hxn, hfar, hbn⟩ := pstoreR HX_a.out (.int .i64 i0) (.int .i64 i1) (.string i2) (.int .i64 i3) (.int .i64 i4) (.slice iA iN iC)
   replace HB := Lh (hbn w.heap.size w HB.out (by omega))
   replace HX_p := bfr hfar.1 HX_p (by omega)
   replace HX_r := bfr hfar.1 HX_r (by omega)
   replace HX_u := bfr hfar.1 HX_u (by omega)
   replace HX_a := Lh hxn
   replace HK := kpf hfar.1 hfar.2 HK (by omega)
   have hsz_W9 := hfar.2
   clear hxn hfar hbn
   go_wp2_with fail
   rw [← hW9]
   clear hW9
   clear c_a0 c_a1 c_a2 c_a3 c_a4 c_a5 z_a f_a0 f_a1 f_a2 f_a3 f_a4 f_a5 c_r0 c_r1 c_r2 c_r3 c_r4 c_r5 z_r c_u0 c_u1 c_u2 c_u3 c_u4 z_u
   obtain ⟨c_a0, c_a1, c_a2, c_a3, c_a4, c_a5, z_a⟩ := cells6 HX_a.out
   have hfin : RuleAt W9 (Old W9) m [.int .i64 i0, .int .i64 i1, .string i2, .int .i64 i3, .int .i64 i4, .slice iA iN iC] := RuleAt.keep (fun b hb => ⟨Nat.lt_of_lt_of_le hb.2 HK.out.1, fun j => World.cell?_of_block (a := ⟨b, j, none⟩) (HK.out.2 b hb.1 hb.2)⟩) _ _ HRk.out
   exact bodyPost_ret (v := .tuple #[.agg #[.int .i64 i0, .int .i64 i1, .string i2, .int .i64 i3, .int .i64 i4, .slice iA iN iC], .int .i64 0, .int .i64 0]) (by simp [results, Tryz.results16, go_sem, c_a0, c_a1, c_a2, c_a3, c_a4, c_a5]) rfl (.ok (Hsrc.out ▸ HOk.out) HB.out hfin)
  ·have HBad : Hid (Sx.parseRule src = .bad (Sx.front last (tk :: T.drop (j + 1))) 100) := Lh (by
    rw [HOut.out]
    cases q with
    | bad p e => cases hvd
    | ok a l =>
     injection hvd with _ e2
     subst e2
     rfl)
   have hlt : j < n := by have := Hn.out; omega
   have HFl := Lh (pFail T A c last 100 (by decide) q.void j 0 0 V4 HC5.out HA.out)
   unfold PPost pv at HFl
   rw [← Hn.out] at HFl
   obtain ⟨fr, hfr⟩ : ∃ fr, fr = Sx.front last (tk :: T.drop (j + 1)) := ⟨_, rfl⟩
   rw [← hfr] at HBad
   have HFd : Hid ((Sx.go q.void fun l => (Sx.fail last l 100 : Sx.R Unit)) = .bad fr 100) := Lh (by rw [hvd, hfr]; rfl)
   clear hvd hfr ht
   obtain ⟨c_u0, c_u1, c_u2, c_u3, c_u4, z_u⟩ := cells5 HX_u.out
   go_wp2_with fail
   refine HFl.out.mono ?_
   rintro e' w6 ⟨k6, x6, p6, rfl, ha, hb⟩
   rw [HFd.out] at ha
   obtain ⟨rfl, rfl, _⟩ := ha
   clear HFl HFd
   clear c_u0 c_u1 c_u2 c_u3 c_u4 z_u
   have hgz := hb.size
   replace HB := bmb HB hb
   replace HX_a := bmv HX_a hb
   replace HX_p := bmv HX_p hb
   replace HX_r := bmv HX_r hb
   replace HX_u := bmv HX_u hb
   replace HK := kpm HK hb
   clear hb
   obtain ⟨c_u0, c_u1, c_u2, c_u3, c_u4, z_u⟩ := cells5 HX_u.out
   obtain ⟨f_u0, f_u1, f_u2, f_u3, f_u4⟩ := frees5 HX_u.out
   obtain ⟨V7, hV7, hxn, hfar, hbn⟩ := pstoreB HX_u.out (.slice A n c) (.int .i64 k6) (.int .i64 last) (.int .i64 100) (.int .i64 p6)
   replace HB := Lh (hbn w.heap.size w HB.out (by omega))
   replace HX_a := bfr hfar.1 HX_a (by omega)
   replace HX_p := bfr hfar.1 HX_p (by omega)
   replace HX_r := bfr hfar.1 HX_r (by omega)
   replace HX_u := Lh hxn
   replace HK := kpf hfar.1 hfar.2 HK (by omega)
   have hsz_V7 := hfar.2
   clear hxn hfar hbn
   go_upto_region 7 with fail
   rw [← hV7]
   clear hV7
   clear c_u0 c_u1 c_u2 c_u3 c_u4 z_u f_u0 f_u1 f_u2 f_u3 f_u4
   obtain ⟨c_a0, c_a1, c_a2, c_a3, c_a4, c_a5, z_a⟩ := cells6 HX_a.out
   obtain ⟨f_a0, f_a1, f_a2, f_a3, f_a4, f_a5⟩ := frees6 HX_a.out
   obtain ⟨c_u0, c_u1, c_u2, c_u3, c_u4, z_u⟩ := cells5 HX_u.out
   obtain ⟨W9, hW9, hxn, hfar, hbn⟩ := pstoreR HX_a.out (.int .i64 0) (.int .i64 0) (.string ⟨#[]⟩) (.int .i64 0) (.int .i64 0) (.slice none 0 0)
   replace HB := Lh (hbn w.heap.size w HB.out (by omega))
   replace HX_p := bfr hfar.1 HX_p (by omega)
   replace HX_r := bfr hfar.1 HX_r (by omega)
   replace HX_u := bfr hfar.1 HX_u (by omega)
   replace HX_a := Lh hxn
   replace HK := kpf hfar.1 hfar.2 HK (by omega)
   have hsz_W9 := hfar.2
   clear hxn hfar hbn
   go_wp2_with fail
   go_region
   rw [← hW9]
   clear hW9
   clear c_a0 c_a1 c_a2 c_a3 c_a4 c_a5 z_a f_a0 f_a1 f_a2 f_a3 f_a4 f_a5 c_u0 c_u1 c_u2 c_u3 c_u4 z_u
   obtain ⟨c_a0, c_a1, c_a2, c_a3, c_a4, c_a5, z_a⟩ := cells6 HX_a.out
   go_wp2_with fail
   exact bodyPost_ret (v := .tuple #[.agg #[.int .i64 0, .int .i64 0, .string ⟨#[]⟩, .int .i64 0, .int .i64 0, .slice none 0 0], .int .i64 p6, .int .i64 100]) (by simp [results, Tryz.results16, go_sem, c_a0, c_a1, c_a2, c_a3, c_a4, c_a5]) rfl (.bad (Hsrc.out ▸ HBad.out) HB.out.drew)
end Go.Proofs.YtjonaidancomgaaGreatDoor

namespace Go.Proofs.YtjonaidancomgaaGreatDoor
open Go.RowKit

theorem sRule_out (s : ByteArray) (N : Nat) (w : World) (he : EnvS N w) (hs : s.size ≤ 100000) : Calls Tryz.prog 15 #[.string s] w (RuleOut s.data.toList w) := by
 cases hq : Sx.parseRule s.data.toList with
 | ok r => exact (sRule_ok s N r hq w he hs).mono fun e w' ⟨cs, h1, h2, h3⟩ => ⟨h3, by rw [hq]; exact ⟨cs, h1, h2⟩⟩
 | bad p x => exact (sRule_bad s N p x hq w he hs).mono fun e w' ⟨h1, h2⟩ => ⟨h2, by rw [hq]; exact h1⟩
theorem RuleOut.one {s : List UInt8} : ∃ (r : Sx.Rule) (p x : Int), ∀ (w : World) (e : Ending) (w' : World), RuleOut s w e w' → ∃ i0 i1 i2 i3 i4 A n c, e = .returned (.tuple #[.agg #[.int .i64 i0, .int .i64 i1, .string i2, .int .i64 i3, .int .i64 i4, .slice A n c], .int .i64 p, .int .i64 x]) ∧ RuleAt w' (Old w') r [.int .i64 i0, .int .i64 i1, .string i2, .int .i64 i3, .int .i64 i4, .slice A n c] ∧ Below w.heap.size w w' := by
 cases hq : Sx.parseRule s with
 | ok r =>
  refine ⟨r, 0, 0, fun w e w' h => ?_⟩
  obtain ⟨hb, h⟩ := h
  rw [hq] at h
  obtain ⟨cs, h1, h2⟩ := h
  obtain ⟨i0, i1, i2, i3, i4, A, n, c, rfl⟩ := form_ruleB h2
  exact ⟨i0, i1, i2, i3, i4, A, n, c, h1, h2, hb⟩
 | bad p x =>
  refine ⟨Sx.Rule.zero, p, x, fun w e w' h => ?_⟩
  obtain ⟨hb, h⟩ := h
  rw [hq] at h
  exact ⟨0, 0, ⟨#[]⟩, 0, 0, none, 0, 0, h, rule_leaf _ _ 0 0 [] 0 0 (by simp), hb⟩
set_option maxRecDepth 20000 in
set_option maxHeartbeats 4000000 in
theorem sRuleSpec (N : Nat) (s : ByteArray) (w : World) (he : EnvS N w) : Calls Tryz.prog 4 #[.string s] w (TruePost w) := by
 have HE := Lh he
 clear he
 by_cases hlen : 3000 < s.size
 ·go_enter Tryz.func4, Tryz.ntmps4
  go_wp2_with fail
  refine (sSane N w HE.out).mono ?_
  rintro e w1 ⟨rfl, b1⟩
  have B1 := Lh b1; clear b1
  go_wp2_with fail
  go_ret
  exact ⟨rfl, B1.out⟩
 obtain ⟨r, p, x, hone⟩ := RuleOut.one (s := s.data.toList)
 have HOne := Lh hone
 clear hone
 go_enter Tryz.func4, Tryz.ntmps4
 go_wp2_with fail
 refine (sSane N w HE.out).mono ?_
 rintro e w1 ⟨rfl, b1⟩
 have B1 := Lh b1; clear b1
 go_wp2_with fail
 refine (sRule_out s N w1 (HE.out.next B1.out) (by omega)).mono ?_
 intro e w2 hpost
 obtain ⟨i0, i1, i2, i3, i4, iA, iN, iC, rfl, hr, b2⟩ := HOne.out w1 e w2 hpost
 have B2 := Lh (B1.out.trans (b2.mono B1.out.size)); clear b2 hpost
 obtain ⟨W3, hW3⟩ : ∃ W3, W3 = w2.alloc (.cells #[.int .i64 i0, .int .i64 i1, .string i2, .int .i64 i3, .int .i64 i4, .slice iA iN iC] 38) := ⟨_, rfl⟩
 have b3 : Below w2.heap.size w2 W3 := by rw [hW3]; exact (Below.refl _ _).alloc (Nat.le_refl _) _
 have p3 : Blk W3 w2.heap.size 38 #[.int .i64 i0, .int .i64 i1, .string i2, .int .i64 i3, .int .i64 i4, .slice iA iN iC] := by rw [hW3]; exact Blk.new _ _ _
 have B3 := Lh (B2.out.trans (b3.mono B2.out.size)); have P3 := Lh p3; have R3 := Lh (hr.old b3)
 go_upto_region 6 with fail
 rw [← hW3]
 clear b3 hW3 p3 hr
 go_wp2_with fail
 refine (rRule16 s W3 (by omega)).mono ?_
 intro e w4 hpost
 obtain ⟨j0, j1, j2, j3, j4, jA, jN, jC, rfl, hr, b4⟩ := HOne.out W3 e w4 hpost
 have B4 := Lh (B3.out.trans (b4.mono B3.out.size)); have P4 := Lh (P3.out.below b4 P3.out.lt); have R4 := Lh (R3.out.old b4)
 clear b4 hpost
 obtain ⟨W5, hW5⟩ : ∃ W5, W5 = w4.alloc (.cells #[.int .i64 j0, .int .i64 j1, .string j2, .int .i64 j3, .int .i64 j4, .slice jA jN jC] 38) := ⟨_, rfl⟩
 have b5 : Below w4.heap.size w4 W5 := by rw [hW5]; exact (Below.refl _ _).alloc (Nat.le_refl _) _
 have p5 : Blk W5 w4.heap.size 38 #[.int .i64 j0, .int .i64 j1, .string j2, .int .i64 j3, .int .i64 j4, .slice jA jN jC] := by rw [hW5]; exact Blk.new _ _ _
 have B5 := Lh (B4.out.trans (b5.mono B4.out.size)); have Q5 := Lh p5; have P5 := Lh (P4.out.below b5 P4.out.lt); have R5 := Lh (R4.out.old b5); have S5 := Lh (hr.old b5)
 go_upto_region 7 with fail
 rw [← hW5]
 clear b5 hW5 p5 hr
 obtain ⟨x0, x1, x2, x3, x4, x5, xz⟩ := cells6 P5.out
 obtain ⟨y0, y1, y2, y3, y4, y5, yz⟩ := cells6 Q5.out
 go_wp2_with fail
 refine (rSameRule _ r r (Nat.lt_succ_self _) _ _ _ R5.out S5.out).mono ?_
 rintro e w6 ⟨rfl, b6⟩
 rw [(Sx.ruleEq_iff r r).2 rfl]
 have B6 := Lh (B5.out.trans (b6.mono B5.out.size))
 clear b6
 go_wp2_with fail
 go_ret
 exact ⟨ret_bool (by simp), B6.out⟩
end Go.Proofs.YtjonaidancomgaaGreatDoor

namespace Go.Proofs.YtjonaidancomgaaGreatDoor
open Go.RowKit Go.WideShapes Go.ChangeShapes
set_option maxRecDepth 100000

section
variable {H : Type} {enc : TypeId × Value → H} {P : Program}
theorem post_of_below {f : Func} {s : ChangeSpec} {apart fresh handsOn again : Bool} {W W' : World} {args : Array Value} {v : Value} {ds gs : List (DataW H)} {before pa pv : List MemPlace}
  (hW : DataW.Whole enc P f.params.toList s.vars apart W args.toList ds gs before)
  (hres : ∀ (b : Nat) (sp : Nat → Bool) (hd : Bool), DataW.TrodAll enc P W' b sp hd f.resultTypes.toList (v.resultList f.resultTypes.size) (s.fn H (ds ++ gs)).results [])
  (hargs : ∀ sp : Nat → Bool, (∀ p ∈ before, sp p.block = true) → DataW.TrodAll enc P W' 0 sp true f.params.toList args.toList (s.fn H (ds ++ gs)).args pa)
  (hvars : ∀ sp : Nat → Bool, (∀ p ∈ before, sp p.block = true) → DataW.TrodVars enc P W' sp s.vars (s.fn H (ds ++ gs)).vars pv)
  (hps : before = pa ++ pv) (hb : Below W.heap.size W W')
  (hok : ∀ (j : Nat) (t : TypeId) (r : Value), f.resultTypes[j]? = some t → (v.resultList f.resultTypes.size)[j]? = some r → Value.okWide P W' .any 0 t r) :
  s.post enc P f apart fresh handsOn again W args v W' := by
 have hlt : ∀ p ∈ before, p.block < W.heap.size := fun p hp => hW.lt p hp
 have hold : ∀ p ∈ before, (fun b => decide (b < W.heap.size)) p.block = true := fun p hp => by simpa using hlt p hp
 refine ⟨ds, gs, before, [], pa, pv, hW, hres _ _ _, hargs _ hold, hvars _ hold, World.keptBut_mono (fun p hp => ⟨hp, ?_⟩) (hb.frame (· ∈ before)), fun _ => ?_⟩
 ·rw [hps, List.mem_append] at hp
  exact Or.inr hp
 ·obtain ⟨_, _, _, _, _, hz, hn⟩ := hW
  refine ⟨hok, _, _, ([] ++ pa) ++ pv, ⟨[] ++ pa, pv, trodAll_append (hargs _ (fun _ _ => rfl)) (hres _ _ _), hvars _ (fun _ _ => rfl), rfl, ?_, ?_⟩, ?_⟩
  ·intro b off hp
   have hin : MemPlace.cell b off ∈ before := by rw [hps]; simpa using hp
   rw [hb.frozen (hlt _ hin)]
   exact hz b off hin
  ·intro ha
   have := hn ha
   rw [hps] at this
   simpa using this
  ·intro p hp _
   rw [hps]
   simpa using hp
end

theorem own : ownKnob Tryz.prog.godebug = none := by kernel_rfl
theorem starErr : "*" ++ "errors.errorString" = "*errors.errorString" := by decide
theorem rowErr (u : TypeId) (h : Tryz.prog.typeName? 3 u = some "*errors.errorString") : u = 272 :=
 typeName_ptr_named (nm := "errors.errorString") (by rw [starErr]; kernel_rfl) (by kernel_rfl) (by decide) u (by rw [starErr]; exact h)

theorem env_of_laid {x y z : DataW Unit} {text : List UInt8} {r : List (String × DataW Unit)} {W : World} (hz : z = Lib.tabData .u64 Lib.pow10Tab)
  (h : laidMet Tryz.prog (("math/bits.deBruijn32tab", x) :: ("math/bits.deBruijn64tab", y) :: ("internal/strconv.uint64pow10", z) :: ("strconv.ErrRange", .iface "*errors.errorString" (.ptr (.agg [.lit (.string text)]))) :: r) W) : Env W := by
 subst hz
 have h1 := h.tail
 have h2 := h1.tail
 have h3 := h2.tail
 refine ⟨?_, ?_, ?_⟩
 ·have ht := Lib.tabIs_of_head (P := Tryz.prog) (g := 8) (t := 266) (e := 229) (n := 20) (by kernel_rfl) (by kernel_rfl) Tryz.underlying266 Tryz.underlying229 (by kernel_rfl) (by kernel_rfl) h2
  unfold Lib.TabIs World.var? at ht
  rw [show Tryz.prog.globalNamed "internal/strconv.uint64pow10" = some 8 by kernel_rfl] at ht
  simp only [Option.bind_some] at ht
  split at ht
  ·rename_i cs t fz hh
   cases ht
   exact ⟨t, fz, hh⟩
  ·cases ht
 ·obtain ⟨a, s, hv, _⟩ := laid_sentinel h3 (g := 6) (ti := 204) (by kernel_rfl) (by kernel_rfl) Tryz.underlying204 rowErr Tryz.underlying272 Tryz.underlying274 rfl rfl Tryz.underlying9 (by kernel_rfl) (by kernel_rfl)
  have := World.var?_cell (show Tryz.prog.globalNamed "strconv.ErrRange" = some 6 by kernel_rfl) hv 0
  exact ⟨_, _, by simpa using this⟩
 ·obtain ⟨ps, ⟨g, t, cs, fuel, p, q, hg, _, hv, _⟩, _⟩ := h1
  obtain rfl := Option.some.inj ((show Tryz.prog.globalNamed "math/bits.deBruijn64tab" = some 10 by kernel_rfl).symm.trans hg)
  unfold World.var? at hv
  rw [hg] at hv
  simp only [Option.bind_some] at hv
  rcases Nat.lt_or_ge 10 W.heap.size with hh | hh
  ·exact hh
  ·rw [Array.getElem?_eq_none hh] at hv
   cases hv

noncomputable def wit (os : Os) (args : Array Value) : World := (World.doorLaid Tryz.prog 87 os).forCall (fun _ _ => 0) ⟨#[], args, []⟩
theorem wit_vars (os : Os) (args : Array Value) : (wit os args).variablesRefB Tryz.prog = true := by kernel_rfl
theorem wit_rest (os : Os) (args : Array Value) : ((wit os args).heap.toList.drop Tryz.prog.globals.size).take ((begin Tryz.prog (fun _ _ => 0) default).world.heap.size - Tryz.prog.globals.size) =
   (begin Tryz.prog (fun _ _ => 0) default).world.heap.toList.drop Tryz.prog.globals.size := by kernel_rfl
end Go.Proofs.YtjonaidancomgaaGreatDoor

namespace Go.Proofs.YtjonaidancomgaaGreatDoor
open Go.RowKit Go.WideShapes Go.ChangeShapes Go.Deep


section
variable {H : Type} {enc : TypeId × Value → H} {P : Program} {w : World} {base : Nat} {spare : Nat → Bool} {held : Bool}
end

theorem add_none (b o j : Nat) : (⟨b, o, none⟩ : Addr).add j = ⟨b, o + j, none⟩ := by unfold Addr.add; split <;> simp_all
theorem cell_spot {w : World} {a : Addr} {v : Value} (h : w.cell? a = some v) : a.spot = none := by
 unfold World.cell? at h
 split at h
 ·split at h
  ·cases h
  ·rename_i h2; simpa using h2
 ·cases h

section
variable {H : Type} {enc : TypeId × Value → H}
structure Byts (w : World) (B : Nat) (A : Option Addr) (n : Nat) : Prop where
 at_ : ∀ k, k < n → ∃ b o z, A = some ⟨b, o, none⟩ ∧ b < B ∧ w.cell? ⟨b, o + k, none⟩ = some (.int .u8 (z : Nat)) ∧ z < 256
 len : n ≤ 140737488351232
end
theorem Byts.below {w w' : World} {B B' : Nat} {A : Option Addr} {n : Nat} (h : Byts w B A n) (hb : Below B' w w') (hB : B ≤ B') : Byts w' B A n :=
 ⟨fun k hk => by
  obtain ⟨b, o, z, e, hlt, hc, hz⟩ := h.at_ k hk
  exact ⟨b, o, z, e, hlt, (hb.cell (p := ⟨b, o + k, none⟩) (show b < B' by omega)).trans hc, hz⟩, h.len⟩
end Go.Proofs.YtjonaidancomgaaGreatDoor

namespace Go.Proofs.YtjonaidancomgaaGreatDoor
open Go.ChangeShapes Go.WideShapes Go.ChangeAt Go.RowKit Go.WideMaps Go.ChangeMaps

set_option maxRecDepth 100000 in
theorem glob_of_laid {nm : String} {gi : Nat} {ws : List (List UInt8)} {d : DataW Unit} {r : List (String × DataW Unit)} {W : World} (hgi : Tryz.prog.globalNamed nm = some gi) (hty : (Tryz.prog.globals[gi]?).map (·.type) = some 105) (hne : 0 < ws.length) (hd0 : d = .slice (ws.map fun x => .lit (.string x)) [])
  (h : laidMet Tryz.prog ((nm, d) :: r) W) : GlobAt W W.heap.size gi ws := by
 obtain ⟨ps, ⟨g, t, cs, fuel, p, q, hg, ht, hv, hd, _⟩, _⟩ := h
 obtain rfl := Option.some.inj (hgi.symm.trans hg)
 obtain rfl := Option.some.inj (hty.symm.trans ht)
 subst hd0
 rcases open_strings Tryz.underlying105 Tryz.underlying9 (by kernel_rfl) hd with ⟨_, hx⟩ | ⟨a, len, cap, ss, hcs, _, hl, hm, hz, hx, hc, _⟩
 ·cases hx
 ·simp only [Prod.mk.injEq, DataW.slice.injEq] at hx
  obtain ⟨⟨hx1, hx2⟩, _⟩ := hx
  have hx2' : ss.drop len = [] := by
   unfold strs at hx2
   exact List.map_eq_nil_iff.1 hx2.symm
  have h1 : ss.take len = ss := by
   have := List.take_append_drop len ss
   rw [hx2', List.append_nil] at this
   exact this
  have hss : ss.map (·.data.toList) = ws := by
   rw [h1] at hx1
   unfold strs at hx1
   have h2 : (ws.map fun x => (DataW.lit (.string x) : DataW Unit)) = (ss.map (·.data.toList)).map fun x => DataW.lit (.string x) := by
    rw [hx1, List.map_map]; rfl
   have hinj : ∀ (l l' : List (List UInt8)), (l.map fun x => (DataW.lit (.string x) : DataW Unit)) = l'.map (fun x => DataW.lit (.string x)) → l = l' := by
    intro l
    induction l with
    | nil => intro l' h; cases l' with | nil => rfl | cons a b => simp at h
    | cons a b ih =>
     intro l' h
     cases l' with
     | nil => simp at h
     | cons a' b' =>
      simp only [List.map_cons, List.cons.injEq, DataW.lit.injEq, Lit.string.injEq] at h
      rw [h.1, ih b' h.2]
   exact (hinj _ _ h2).symm
  have hlss : ss.length = ws.length := by
   have := congrArg List.length hss
   rwa [List.length_map] at this
  rw [if_pos rfl] at hz
  have hlen : len = ws.length := by
   have := congrArg List.length hx2'
   rw [List.length_drop] at this
   simp only [List.length_nil] at this
   omega
  have h0 := hc 0 (by omega)
  have hsp : a.spot = none := cell_spot (show W.cell? a = _ from h0)
  obtain ⟨ab, ao, asp⟩ := a
  simp only at hsp
  subst hsp
  have hcell : W.cell? ⟨gi, 0, none⟩ = some (.slice (some ⟨ab, ao, none⟩) ws.length cap) := by
   have := World.var?_cell hg hv 0
   rw [Array.eq_one_of_toList hcs, hlen] at this
   simpa using this
  have hin : ∀ (k o : Nat) (v : Value), W.cell? ⟨k, o, none⟩ = some v → k < W.heap.size := fun k o v hk => by
   rcases Nat.lt_or_ge k W.heap.size with h | h
   ·exact h
   ·unfold World.cell? at hk
    simp only [Array.getElem?_eq_none h] at hk
    cases hk
  refine ⟨ab, ao, cap, hcell, hin _ _ _ hcell, hin ab ao _ (show W.cell? ⟨ab, ao, none⟩ = _ from h0), fun i x hx => ?_⟩
  have hi : i < ss.length := by
   have := (List.getElem?_eq_some_iff.1 hx).1
   omega
  have h1 := hc i hi
  rw [add_none] at h1
  rw [h1]
  rw [← hss, List.getElem?_map, List.getElem?_eq_getElem hi] at hx
  simp only [Option.map_some, Option.some.injEq] at hx
  have h2 : ss.getD i ByteArray.empty = ss[i] := by simp [List.getD, List.getElem?_eq_getElem hi]
  rw [h2, ← hx]
  unfold strV
  rw [Lx.bs_of]
set_option maxRecDepth 100000 in
theorem wit_metS (os : Os) (args : Array Value) : laidMetH Tryz.prog Rows.syntaxPlacesRow.laid (wit os args).memory :=
 laidMetH_of_parts3 (fuel := 8) (laidMet_of_run' 8 (by kernel_rfl) (by kernel_rfl)) (by kernel_rfl) (by kernel_rfl)
theorem envs_of_laid {W : World} (h : laidMet Tryz.prog Rows.syntaxPlacesRow.laid W) : EnvS W.heap.size W := by
 have he := env_of_laid rfl h
 have h5 := h.tail.tail.tail.tail.tail
 exact ⟨he, Nat.le_refl _, by have := he.size; omega,
  glob_of_laid (nm := "sizar/syntax.ruleWords") (by kernel_rfl) (by kernel_rfl) (by decide) rfl h5,
  glob_of_laid (nm := "sizar/syntax.kindWords") (by kernel_rfl) (by kernel_rfl) (by decide) rfl h5.tail,
  glob_of_laid (nm := "sizar/syntax.whenWords") (by kernel_rfl) (by kernel_rfl) (by decide) rfl h5.tail.tail,
  glob_of_laid (nm := "sizar/syntax.actionWords") (by kernel_rfl) (by kernel_rfl) (by decide) rfl h5.tail.tail.tail,
  glob_of_laid (nm := "sizar/syntax.repeatWords") (by kernel_rfl) (by kernel_rfl) (by decide) rfl h5.tail.tail.tail.tail⟩
end Go.Proofs.YtjonaidancomgaaGreatDoor
