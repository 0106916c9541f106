/- Parts of the proof, joined into one text: SxProg, SxCata, LxK. -/
import Derived.Test.YtjonaidancomgaaGreatDoorYSxTakeM
import Derived.Test.YtjonaidancomgaaGreatDoorYSxTake
import Derived.Test.YtjonaidancomgaaGreatDoorYSxDefsD
import Derived.Test.YtjonaidancomgaaGreatDoorYSxCutB
import Derived.Test.YtjonaidancomgaaGreatDoorYSxFn
import Derived.Test.YtjonaidancomgaaGreatDoorYLxH

namespace Go.Proofs.YtjonaidancomgaaGreatDoor
open Go.RowKit

theorem Tryz.infoProgrammeD : (Tryz.prog.info? 78).map (fun i => (i.zero, i.size, i.bytes)) = some (some (.agg #[.string ⟨#[]⟩, .int .i64 0, .int .i64 0, .int .i64 0, .int .i64 0, .int .i64 0, .slice none 0 0]), 7, 80) := by kernel_rfl
theorem Tryz.infoReqD : (Tryz.prog.info? 108).map (fun i => (i.zero, i.size, i.bytes)) = some (some (.agg #[.string ⟨#[]⟩, .int .i64 0, .int .i64 0, .bool false, .slice none 0 0, .slice none 0 0]), 6, 88) := by kernel_rfl
set_option maxRecDepth 20000 in
set_option maxHeartbeats 4000000 in
theorem sProgramme (N : Nat) : DefC N 86 fun last c l => (Sx.programme last l).bind fun x l => .ok { c with progs := c.progs ++ [x] } l := by
  intro g B h l last w0 w c vs css H he hN hfew hl
  obtain ⟨R, hR⟩ : ∃ R, R = (Sx.programme last l).bind fun x l => (.ok { c with progs := c.progs ++ [x] } l : Sx.R Sx.Cat) := ⟨_, rfl⟩
  show Calls _ _ _ _ (DefPost g B last h w0 ((Sx.programme last l).bind fun x l => (.ok { c with progs := c.progs ++ [x] } l : Sx.R Sx.Cat)))
  rw [← hR]
  obtain ⟨G3, hG3⟩ : ∃ G : List UInt8 → Int → Int → Int → Sx.Ratio → List Lx.Tok → Sx.R Sx.Cat, G = fun nm no us ea me l => (Sx.takes last l.length.succ [] l).bind fun qs l => (Sx.sign last 125 l).bind fun _ l => .ok { c with progs := c.progs ++ [⟨nm, no, us, ea, me, qs⟩] } l := ⟨_, rfl⟩
  obtain ⟨G2, hG2⟩ : ∃ G : List UInt8 → Int → Int → Int → List Lx.Tok → Sx.R Sx.Cat, G = fun nm no us ea l => (Sx.opt last Sx.wMean (Sx.ratio last) ⟨0, 1⟩ l).bind (G3 nm no us ea) := ⟨_, rfl⟩
  obtain ⟨G1, hG1⟩ : ∃ G : List UInt8 → Int → Int → List Lx.Tok → Sx.R Sx.Cat, G = fun nm no us l => (Sx.opt last Sx.wEarn (Sx.number last 0 10000) 0 l).bind (G2 nm no us) := ⟨_, rfl⟩
  replace hR : R = (Sx.number last 0 255 l).bind fun no l => (Sx.name last l).bind fun nm l => (Sx.sign last 123 l).bind fun _ l => (Sx.opt last Sx.wUses (Sx.number last 1 4) 1 l).bind (G1 nm no) := by rw [hR, hG1, hG2, hG3]; simp only [Sx.programme, Sx.R.assoc2, Sx.ok_bind]
  have HR := Lh hR
  have HG1 := Lh hG1; have HG2 := Lh hG2; have HG3 := Lh hG3
  have HC := Lh H
  have hlt := H.ps.lt
  have hgl : h < w.heap.size := H.blk.lt
  have hgh := H.gh
  obtain ⟨i0, hi0, hz0, hz1, hz2⟩ := info_parts Tryz.infoProgrammeD
  obtain ⟨j0, hj0, jz0, jz1, jz2⟩ := info_parts Tryz.infoReqD
  obtain ⟨v, rs, is, hv1, hrs1, his1, hrl⟩ := H.get (i := 2) (by omega)
  have hrf : rs.length ≤ 1000000 := by rw [hrl]; exact hfew is (List.mem_of_getElem? his1)
  have his2 : is = c.progs.map .prog := by simpa [itemsOf] using his1.symm
  have HI := Lh (And.intro hv1 (And.intro hrs1 his1)); have HIS := Lh his2
  have Hl := Lh hl
  clear H hR hv1 hrs1 his1 hrl hfew his2 he hl hG1 hG2 hG3
  go_enter Tryz.func86, Tryz.ntmps86
  go_wp2_with fail
  refine (sNumber g B l last 0 255 _ HC.out.ps).mono ?_
  intro e w1 he
  rcases he.split with ⟨p, x, hv, rfl, hf⟩ | ⟨no, l1, u, hv, rfl, hV, hs, hf⟩
  · exact ⟨rfl, DefPost.of_bad (Sx.go_bad HR.out hv) (HC.out.fr.trans hf)⟩
  unfold vInt at hV
  subst hV
  replace HR := Lh (Sx.go_ok HR.out hv)
  have HC1 := Lh (HC.out.step hf hs)
  have t1 := Lh (Sx.eats_number last _ _ l _ _ hv)
  clear hv hs hf he HC
  go_wp2_with fail
  refine (sName g B l1 last _ HC1.out.ps).mono ?_
  intro e w2 he
  rcases he.split with ⟨p, x, hv, rfl, hf⟩ | ⟨nm, l2, u, hv, rfl, hV, hs, hf⟩
  · exact ⟨rfl, DefPost.of_bad (Sx.go_bad HR.out hv) (HC1.out.fr.trans hf)⟩
  obtain ⟨hV, hnl⟩ := hV
  unfold strV at hV
  subst hV
  replace HR := Lh (Sx.go_ok HR.out hv)
  have C2 := HC1.out.step hf hs
  have t2 := Lh (Sx.eats_name last l1 _ _ hv)
  have hg2 := C2.ps.lt
  have hh2 := C2.blk.lt
  have L := Lh (LSt.start C2.ps 78 #[.string (Lx.bs nm), .int .i64 no, .int .i64 1, .int .i64 0, .int .i64 0, .int .i64 1, .slice none 0 0])
  have HC2 := Lh C2
  have Hnl := Lh hnl
  clear hv hs hf he HC1 C2 hnl
  go_wp2_with fail
  refine (sSign g B l2 last 123 _ L.out.ps).mono ?_
  intro e w3 he
  rcases he.split with ⟨p, x, hv, rfl, hf⟩ | ⟨_, l3, u, hv, rfl, hV, hs, hf⟩
  · exact ⟨rfl, DefPost.of_bad (Sx.go_bad HR.out hv) (HC2.out.fr.trans (L.out.fr.trans hf))⟩
  unfold vUnit at hV
  subst hV
  replace HR := Lh (Sx.go_ok HR.out hv)
  have LA := Lh (L.out.step hf hs)
  have hl3 : l3.length ≤ 1000000 := by have a := Hl.out; have b := t1.out; have d := t2.out; have e3 := Sx.eats_need last _ _ _ _ _ hv; omega
  have HlA := Lh hl3
  clear hv hs hf he L t1 t2 hl3 Hl
  go_wp2_with fail
  refine (sIsWord g B l3 last _ _ LA.out.ps).mono ?_
  rw [show (⟨#[117, 115, 101, 115]⟩ : ByteArray).data.toList = Sx.wUses from rfl]
  rintro e w6 ⟨rfl, hs, hf⟩
  have L7 := LA.out.step hf hs
  go_upto_if 14 with fail
  go_cut [0, 1, 4] from 5 to 62 (fun v0 v1 v4 wx => v0 = .pointer (some ⟨g, 0, none⟩) ∧ v1 = .pointer (some ⟨h, 0, none⟩) ∧ v4 = .pointer (some ⟨w2.heap.size, 0, none⟩) ∧ ∃ us lB, Hid (R = G1 nm no  us lB) ∧ Hid (LSt g B last lB w2.heap.size 78 #[.string (Lx.bs nm), .int .i64 no, .int .i64 us, .int .i64 0, .int .i64 0, .int .i64 1, .slice none 0 0] w2 wx) ∧ Hid (lB.length ≤ 1000000))
  case first =>
    cases hh : Sx.hit 1 Sx.wUses l3 with
    | true =>
      rw [hh, if_pos rfl] at L7
      have L8 := Lh L7
      have hRy := HR.out
      rw [Sx.opt_yes hh] at hRy
      replace HR := Lh hRy
      have t7 := Lh (Sx.hit_tail hh)
      clear L7 hRy hs hf hh
      go_wp2_with fail
      refine (sNumber g B _ last 1 4 _ L8.out.ps).mono ?_
      intro e w7 he
      rcases he.split with ⟨p, x, hv, rfl, hf⟩ | ⟨us, l7, u, hv, rfl, hV, hs, hf⟩
      · exact ⟨rfl, DefPost.of_bad (Sx.go_bad HR.out hv) (HC2.out.fr.trans (L8.out.fr.trans hf))⟩
      unfold vInt at hV
      subst hV
      replace HR := Lh (Sx.go_ok HR.out hv)
      have L9 := L8.out.step hf hs
      have t8 := Lh (Sx.eats_number last _ _ _ _ _ hv)
      have q2 := L9.blk.cell 2; have qf2 := L9.blk.free 2
      simp at q2
      have hp7 := L9.blk.lt
      have L10 : Hid (LSt g B last l7 w2.heap.size 78 #[.string (Lx.bs nm), .int .i64 no, .int .i64 us, .int .i64 0, .int .i64 0, .int .i64 1, .slice none 0 0] w2 (w7.setCell ⟨w2.heap.size, 2, none⟩ (.int .i64 us))) := Lh (by have := L9.set 2 (.int .i64 us); simpa using this)
      clear hv hs hf he L8 L9
      go_wp2_with fail
      refine (sSign g B l7 last 59 _ L10.out.ps).mono ?_
      intro e w8 he
      rcases he.split with ⟨p, x, hv, rfl, hf⟩ | ⟨_, l8, u, hv, rfl, hV, hs, hf⟩
      · exact ⟨rfl, DefPost.of_bad (Sx.go_bad HR.out hv) (HC2.out.fr.trans (L10.out.fr.trans hf))⟩
      unfold vUnit at hV
      subst hV
      have HR8 := Lh (Sx.go_ok HR.out hv)
      have HL8 := Lh (L10.out.step hf hs)
      have hl8 : l8.length ≤ 1000000 := by have a := HlA.out; have b := t7.out; have d := t8.out; have e3 := Sx.eats_need last _ _ _ _ _ hv; omega
      have Hl8 := Lh hl8
      clear hv hs hf he hl8
      go_wp2_with fail
      go_meet
      exact ⟨rfl, rfl, rfl, us, l8, HR8, HL8, Hl8⟩
    | false =>
      rw [hh, if_neg (by simp)] at L7
      have hRy := HR.out
      rw [Sx.opt_no hh] at hRy
      have HRn := Lh hRy
      have HLn := Lh L7
      clear L7 hRy hs hf hh
      go_wp2_with fail
      go_meet
      exact ⟨rfl, rfl, rfl, 1, l3, HRn, HLn, HlA⟩
  case rest =>
    obtain ⟨rfl, rfl, rfl, us, lB, HRc, HLc, Hlc⟩ := hcut
    clear L7 hs hf HR LA HlA
    have hRg := HRc.out
    rw [HG1.out] at hRg
    have HR := Lh hRg
    have LB := HLc
    have HlA := Hlc
    clear hRg HRc HG1 HLc Hlc
    go_wp2_with fail
    refine (sIsWord g B lB last _ _ LB.out.ps).mono ?_
    rw [show (⟨#[101, 97, 114, 110]⟩ : ByteArray).data.toList = Sx.wEarn from rfl]
    rintro e w6 ⟨rfl, hs, hf⟩
    have L7 := LB.out.step hf hs
    go_upto_if 21 with fail
    go_cut [0, 1, 4] from 5 to 62 (fun v0 v1 v4 wx => v0 = .pointer (some ⟨g, 0, none⟩) ∧ v1 = .pointer (some ⟨h, 0, none⟩) ∧ v4 = .pointer (some ⟨w2.heap.size, 0, none⟩) ∧ ∃ ea lC, Hid (R = G2 nm no us ea lC) ∧ Hid (LSt g B last lC w2.heap.size 78 #[.string (Lx.bs nm), .int .i64 no, .int .i64 us, .int .i64 ea, .int .i64 0, .int .i64 1, .slice none 0 0] w2 wx) ∧ Hid (lC.length ≤ 1000000))
    case first =>
      cases hh : Sx.hit 1 Sx.wEarn lB with
      | true =>
        rw [hh, if_pos rfl] at L7
        have L8 := Lh L7
        have hRy := HR.out
        rw [Sx.opt_yes hh] at hRy
        replace HR := Lh hRy
        have t7 := Lh (Sx.hit_tail hh)
        clear L7 hRy hs hf hh
        go_wp2_with fail
        refine (sNumber g B _ last 0 10000 _ L8.out.ps).mono ?_
        intro e w7 he
        rcases he.split with ⟨p, x, hv, rfl, hf⟩ | ⟨ea, l7, u, hv, rfl, hV, hs, hf⟩
        · exact ⟨rfl, DefPost.of_bad (Sx.go_bad HR.out hv) (HC2.out.fr.trans (L8.out.fr.trans hf))⟩
        unfold vInt at hV
        subst hV
        replace HR := Lh (Sx.go_ok HR.out hv)
        have L9 := L8.out.step hf hs
        have t8 := Lh (Sx.eats_number last _ _ _ _ _ hv)
        have q3 := L9.blk.cell 3; have qf3 := L9.blk.free 3
        simp at q3
        have hp7 := L9.blk.lt
        have L10 : Hid (LSt g B last l7 w2.heap.size 78 #[.string (Lx.bs nm), .int .i64 no, .int .i64 us, .int .i64 ea, .int .i64 0, .int .i64 1, .slice none 0 0] w2 (w7.setCell ⟨w2.heap.size, 3, none⟩ (.int .i64 ea))) := Lh (by have := L9.set 3 (.int .i64 ea); simpa using this)
        clear hv hs hf he L8 L9
        go_wp2_with fail
        refine (sSign g B l7 last 59 _ L10.out.ps).mono ?_
        intro e w8 he
        rcases he.split with ⟨p, x, hv, rfl, hf⟩ | ⟨_, l8, u, hv, rfl, hV, hs, hf⟩
        · exact ⟨rfl, DefPost.of_bad (Sx.go_bad HR.out hv) (HC2.out.fr.trans (L10.out.fr.trans hf))⟩
        unfold vUnit at hV
        subst hV
        have HR8 := Lh (Sx.go_ok HR.out hv)
        have HL8 := Lh (L10.out.step hf hs)
        have hl8 : l8.length ≤ 1000000 := by have a := HlA.out; have b := t7.out; have d := t8.out; have e3 := Sx.eats_need last _ _ _ _ _ hv; omega
        have Hl8 := Lh hl8
        clear hv hs hf he hl8
        go_wp2_with fail
        go_meet
        exact ⟨rfl, rfl, rfl, ea, l8, HR8, HL8, Hl8⟩
      | false =>
        rw [hh, if_neg (by simp)] at L7
        have hRy := HR.out
        rw [Sx.opt_no hh] at hRy
        have HRn := Lh hRy
        have HLn := Lh L7
        clear L7 hRy hs hf hh
        go_wp2_with fail
        go_meet
        exact ⟨rfl, rfl, rfl, 0, lB, HRn, HLn, HlA⟩
    case rest =>
      obtain ⟨rfl, rfl, rfl, ea, lC, HRc, HLc, Hlc⟩ := hcut
      clear L7 hs hf HR LB HlA
      have hRg := HRc.out
      rw [HG2.out] at hRg
      have HR := Lh hRg
      have LC := HLc
      have HlA := Hlc
      clear hRg HRc HG2 HLc Hlc
      go_wp2_with fail
      refine (sIsWord g B lC last _ _ LC.out.ps).mono ?_
      rw [show (⟨#[109, 101, 97, 110]⟩ : ByteArray).data.toList = Sx.wMean from rfl]
      rintro e w6 ⟨rfl, hs, hf⟩
      have L7 := LC.out.step hf hs
      go_upto_if 28 with fail
      go_cut [0, 1, 4] from 5 to 62 (fun v0 v1 v4 wx => v0 = .pointer (some ⟨g, 0, none⟩) ∧ v1 = .pointer (some ⟨h, 0, none⟩) ∧ v4 = .pointer (some ⟨w2.heap.size, 0, none⟩) ∧ ∃ me lD, Hid (R = G3 nm no us ea me lD) ∧ Hid (LSt g B last lD w2.heap.size 78 #[.string (Lx.bs nm), .int .i64 no, .int .i64 us, .int .i64 ea, .int .i64 me.num, .int .i64 me.den, .slice none 0 0] w2 wx) ∧ Hid (lD.length ≤ 1000000))
      case first =>
        cases hh : Sx.hit 1 Sx.wMean lC with
        | true =>
          rw [hh, if_pos rfl] at L7
          have L8 := Lh L7
          have hRy := HR.out
          rw [Sx.opt_yes hh] at hRy
          replace HR := Lh hRy
          have t7 := Lh (Sx.hit_tail hh)
          clear L7 hRy hs hf hh
          go_wp2_with fail
          refine (sRatio g B _ last _ L8.out.ps).mono ?_
          intro e w7 he
          rcases he.split with ⟨p, x, hv, rfl, hf⟩ | ⟨me, l7, u, hv, rfl, hV, hs, hf⟩
          · exact ⟨rfl, DefPost.of_bad (Sx.go_bad HR.out hv) (HC2.out.fr.trans (L8.out.fr.trans hf))⟩
          unfold vRat at hV
          subst hV
          replace HR := Lh (Sx.go_ok HR.out hv)
          have L9 := L8.out.step hf hs
          have t8 := Lh (Sx.eats_ratio last _ _ _ hv)
          have q4 := L9.blk.cell 4; have qf4 := L9.blk.free 4
          have q5 := L9.blk.cell 5; have qf5 := L9.blk.free 5
          simp at q4 q5
          have hp7 := L9.blk.lt
          have L10 : Hid (LSt g B last l7 w2.heap.size 78 #[.string (Lx.bs nm), .int .i64 no, .int .i64 us, .int .i64 ea, .int .i64 me.num, .int .i64 me.den, .slice none 0 0] w2 ((w7.setCell ⟨w2.heap.size, 4, none⟩ (.int .i64 me.num)).setCell ⟨w2.heap.size, 5, none⟩ (.int .i64 me.den))) := Lh (by have := (L9.set 4 (.int .i64 me.num)).set 5 (.int .i64 me.den); simpa using this)
          clear hv hs hf he L8 L9
          go_wp2_with fail
          refine (sSign g B l7 last 59 _ L10.out.ps).mono ?_
          intro e w8 he
          rcases he.split with ⟨p, x, hv, rfl, hf⟩ | ⟨_, l8, u, hv, rfl, hV, hs, hf⟩
          · exact ⟨rfl, DefPost.of_bad (Sx.go_bad HR.out hv) (HC2.out.fr.trans (L10.out.fr.trans hf))⟩
          unfold vUnit at hV
          subst hV
          have HR8 := Lh (Sx.go_ok HR.out hv)
          have HL8 := Lh (L10.out.step hf hs)
          have hl8 : l8.length ≤ 1000000 := by have a := HlA.out; have b := t7.out; have d := t8.out; have e3 := Sx.eats_need last _ _ _ _ _ hv; omega
          have Hl8 := Lh hl8
          clear hv hs hf he hl8
          go_wp2_with fail
          go_meet
          exact ⟨rfl, rfl, rfl, me, l8, HR8, HL8, Hl8⟩
        | false =>
          rw [hh, if_neg (by simp)] at L7
          have hRy := HR.out
          rw [Sx.opt_no hh] at hRy
          have HRn := Lh hRy
          have HLn := Lh L7
          clear L7 hRy hs hf hh
          go_wp2_with fail
          go_meet
          exact ⟨rfl, rfl, rfl, ⟨0, 1⟩, lC, HRn, HLn, HlA⟩
      case rest =>
        obtain ⟨rfl, rfl, rfl, me, lD, HRc, HLc, Hlc⟩ := hcut
        clear L7 hs hf HR LC HlA
        have hRg := HRc.out
        rw [HG3.out] at hRg
        obtain ⟨Rest, hRest⟩ : ∃ Rest : List Sx.Req → List Lx.Tok → Sx.R Sx.Cat, Rest = fun qs l => (Sx.sign last 125 l).bind fun _ l => .ok { c with progs := c.progs ++ [⟨nm, no, us, ea, me, qs⟩] } l := ⟨_, rfl⟩
        have HR : Hid (R = (Sx.takes last (lD.length + 1) [] lD).bind Rest) := Lh (by rw [hRg, hRest])
        have HRest := Lh hRest
        have K0 := Lh (ReqI.start HLc.out)
        have HlD := Hlc
        clear hRg HRc HG3 HLc Hlc hRest
        go_wp2_with fail
        go_loopg [] lD.length (fun gk wr => ∃ qs css2 v2 l4, Hid (R = (Sx.takes last (gk + 1) qs l4).bind Rest) ∧ Hid (ReqI g B last w2.heap.size (.string (Lx.bs nm)) (.int .i64 no) (.int .i64 us) (.int .i64 ea) (.int .i64 me.num) (.int .i64 me.den) w2 qs css2 v2 l4 wr) ∧ Hid (l4.length ≤ gk) ∧ Hid (qs.length ≤ 64) ∧ Hid (l4.length ≤ 1000000))
        case atStart => exact ⟨[], [], .slice none 0 0, lD, HR, K0, Lh (Nat.le_refl _), Lh (by simp), HlD⟩
        case round =>
          clear HR K0 HlD
          obtain ⟨qs, css2, v2, l4, HR, HK, Hk, H64, Hl4⟩ := hrel
          have Hnx := Lh (sNext g B l4 last 1 ⟨#[116, 97, 107, 101]⟩ _ HK.out.st.ps)
          rw [show (⟨#[116, 97, 107, 101]⟩ : ByteArray).data.toList = Sx.wTake from rfl] at Hnx
          obtain ⟨A2, c2, hv2⟩ := HK.out.form
          subst hv2
          cases hh : Sx.hit 1 Sx.wTake l4 with
          | true =>
            rw [hh] at Hnx
            have hRy := HR.out
            rw [Sx.takes, hh, if_pos rfl] at hRy
            have hword : Sx.word last Sx.wTake l4 = .ok () l4.tail := by unfold Sx.word Sx.need; rw [hh]; rfl
            have HW := Lh hword
            have q6 := HK.out.st.blk.cell 6; have qf6 := HK.out.st.blk.free 6
            simp at q6
            have tt := Lh (Sx.hit_tail hh)
            cases h64 : ((qs.length : Int) == 64) with
            | true =>
              have he64 : qs.length = 64 := by simp at h64; omega
              rw [if_pos he64] at hRy
              have HR2 : Hid (R = .bad (Sx.front last l4) 2) := Lh (by rw [hRy]; rfl)
              have Hfail := Lh (sFail g B l4 last 2 _ HK.out.st.ps)
              have HFr := Lh (HC2.out.fr.trans HK.out.st.fr)
              have h64' : (qs.length : Int) = 64 := by omega
              clear hRy hh HR hword HW
              go_wp2_with fail
              refine Hnx.out.mono ?_
              rintro e w6 ⟨rfl, rfl⟩
              go_wp2_with fail
              refine Hfail.out.mono ?_
              rintro e w7 ⟨he, rfl⟩
              unfold FailS at he
              subst he
              exact ⟨rfl, DefPost.of_bad HR2.out HFr.out⟩
            | false =>
              have he64 : ¬ qs.length = 64 := by simp at h64; omega
              rw [if_neg he64] at hRy
              have hRz : R = (Sx.take last l4.tail).bind fun q l => (Sx.takes last gk (qs ++ [q]) l).bind Rest := by rw [hRy, Sx.R.assoc2]
              have HR2 := Lh hRz
              have H64' := Lh he64
              clear hRy hRz hh HR hword he64
              go_wp2_with fail
              refine Hnx.out.mono ?_
              rintro e w6 ⟨rfl, rfl⟩
              go_wp2_with fail
              refine (sWord g B l4 last _ _ HK.out.st.ps).mono ?_
              intro e w7 he
              rcases he.split with ⟨p, x, hv, rfl, hf⟩ | ⟨_, l5, u, hv, rfl, hV, hs, hf⟩
              · exact absurd (HW.out.symm.trans hv) (by intro h; cases h)
              unfold vUnit at hV
              subst hV
              obtain rfl : l5 = l4.tail := by have := HW.out.symm.trans hv; injection this with _ e; exact e.symm
              have K7 := HK.out.step hf hs
              have c6 := K7.st.blk.cell 6; have cf6 := K7.st.blk.free 6
              simp at c6
              have hp7 := K7.st.blk.lt
              have HKd := Lh (K7.step (w' := w7.drew) (FrG.below (Below.refl _ _).drew K7.st.ps.lt) (K7.st.ps.next (Below.refl _ _).drew))
              have hl5 : l4.tail.length ≤ 1000000 := by have := Hl4.out; have := tt.out; omega
              clear hv hs hf he K7 HK Hnx HW q6 qf6
              go_wp2_with fail
              go_region_law (first
                | (refine HK8.out.step_append (lo := w7.drew.heap.size) (x := qq) (cs := [.string (Lx.bs qn), .int .i64 qc, .int .i64 qg, .bool qh, .slice qA qi qj, .slice qB qk qm]) HX8.out HKd.out.st.blk.lt (fun z hz => own_lt HKd.out.own hz) H64.out rfl _ _ _ rfl j0 _ Tryz.underlying76 hj0 jz0 jz1 jz2 rfl rfl rfl (by simp [Value.oneCell']) ?_; intro gg cap w9 d6 df6 HP)
                | (go_simp; go_at_call 162; refine (sTake g B l4.tail last _ HKd.out.st.ps hl5).mono ?_; intro e w8 he; rcases he.split with ⟨p, x, hv, rfl, hf⟩ | ⟨qq, l8, u8, hv, rfl, hV, hs, hf⟩; (exact ⟨rfl, DefPost.of_bad (Sx.go_bad HR2.out hv) (HC2.out.fr.trans (HKd.out.st.fr.trans hf))⟩); obtain ⟨cs8, hV, hra⟩ := hV; have hra0 := hra; obtain ⟨qA, qj, qB, qm, rfl, -, -, -⟩ := hra; obtain ⟨qn, hqn⟩ : ∃ a, a = qq.name := ⟨_, rfl⟩; obtain ⟨qc, hqc⟩ : ∃ a, a = qq.credits := ⟨_, rfl⟩; obtain ⟨qg, hqg⟩ : ∃ a, a = qq.grade := ⟨_, rfl⟩; obtain ⟨qh, hqh⟩ : ∃ a, a = qq.home := ⟨_, rfl⟩; obtain ⟨qi, hqi⟩ : ∃ a, a = qq.names.length := ⟨_, rfl⟩; obtain ⟨qk, hqk⟩ : ∃ a, a = qq.froms.length := ⟨_, rfl⟩; unfold intV strV at hV hra0; rw [← hqn, ← hqc, ← hqg, ← hqh, ← hqi, ← hqk] at hV hra0; subst hV; have HR8 := Lh (Sx.go_ok HR2.out hv); have K8 := HKd.out.step hf hs; have e6 := K8.st.blk.cell 6; have ef6 := K8.st.blk.free 6; simp at e6; have hp8 := K8.st.blk.lt; have HK8 := Lh K8; have HX8 := Lh hra0; have t8 : Hid (l8.length ≤ l4.tail.length) := Lh (Sx.cuts_take.shrinks (last := last) (l := l4.tail) hv); clear hv hs hf he hra0 K8 hqn hqc hqg hqh hqi hqk))
              all_goals (try go_wp2_with fail)
              all_goals (go_roundg (gk - 1))
              all_goals first
                | (have a := Hk.out; have b := tt.out; omega)
                | (have a := Hk.out; have b := tt.out; have d := t8.out; have f := H64.out; have f' := H64'.out; have a' := Hl4.out
                   exact ⟨_, _, _, l8, Lh (by rw [show gk - 1 + 1 = gk by omega]; exact HR8.out), Lh HP, Lh (by omega), Lh (by simp; omega), Lh (by omega)⟩)
          | false =>
            rw [hh] at Hnx
            have hRy := HR.out
            rw [Sx.takes, hh, if_neg (by simp)] at hRy
            have hRz : R = (Sx.sign last 125 l4).bind fun _ l => .ok { c with progs := c.progs ++ [⟨nm, no, us, ea, me, qs⟩] } l := by rw [hRy, Sx.ok_bind, HRest.out]
            have HR2 := Lh hRz
            clear hRy hRz hh HR HRest
            go_wp2_with fail
            refine Hnx.out.mono ?_
            rintro e w6 ⟨rfl, rfl⟩
            go_wp2_with fail
            refine (sSign g B l4 last 125 _ HK.out.st.ps).mono ?_
            intro e w7 he
            rcases he.split with ⟨p, x, hv, rfl, hf⟩ | ⟨_, l7, u, hv, rfl, hV, hs, hf⟩
            · exact ⟨rfl, DefPost.of_bad (Sx.go_bad HR2.out hv) (HC2.out.fr.trans (HK.out.st.fr.trans hf))⟩
            unfold vUnit at hV
            subst hV
            have HR7 := Lh (Sx.go_ok HR2.out hv)
            have K7 := HK.out.step hf hs
            have q0 := K7.st.blk.cell 0; have q1 := K7.st.blk.cell 1; have q2 := K7.st.blk.cell 2; have q3 := K7.st.blk.cell 3; have q4 := K7.st.blk.cell 4; have q5 := K7.st.blk.cell 5; have q6 := K7.st.blk.cell 6
            simp at q0 q1 q2 q3 q4 q5 q6
            have hp7 := K7.st.blk.lt
            have C7 := HC2.out.step K7.st.fr K7.st.ps
            have c7 : w7.cell? ⟨h, 2, none⟩ = some v := by rw [C7.blk.cell 2]; simpa using HI.out.1
            have hh7 := C7.blk.lt
            obtain ⟨Aq, cq, hvq, hrow⟩ := K7.out H64.out
            injection hvq with hvq1 _ hvq3
            subst hvq1; subst hvq3
            have HX : Hid (ItemAt w7.drew (fun b => w2.heap.size ≤ b ∧ b < w7.drew.heap.size) (.prog ⟨nm, no, us, ea, me, qs⟩) [.string (Lx.bs nm), .int .i64 no, .int .i64 us, .int .i64 ea, .int .i64 me.num, .int .i64 me.den, .slice A2 qs.length c2]) := Lh ⟨A2, c2, rfl, Hnl.out, hrow.keep (fun b hb => ⟨⟨by have := hb.1; omega, hb.2⟩, fun _ => rfl⟩) (fun _ _ _ hr => ReqAt.keep (w := w7) (w' := w7.drew) (fun b hb => ⟨⟨by have := hb.1; omega, hb.2⟩, fun _ => rfl⟩) hr)⟩
            have HC7 := Lh C7.drew
            have HROW := Lh (fun u (hu : u ∈ vs) z (hz : u.ownBlock = some z) => (HC2.out.ownOf hu hz).2)
            clear hv hs hf he HK K7 C7 Hnx hrow HR2
            go_wp2_with fail
            go_region_law (refine HC7.out.step_append (i := 2) (lo := w2.heap.size) (x := .prog ⟨nm, no, us, ea, me, qs⟩) (cs := [.string (Lx.bs nm), .int .i64 no, .int .i64 us, .int .i64 ea, .int .i64 me.num, .int .i64 me.den, .slice A2 qs.length c2]) HI.out.1 HI.out.2.1 HI.out.2.2 HX.out rfl hh2 HROW.out hrf rfl _ _ _ rfl i0 _ 80 Tryz.underlying25 hi0 hz0 hz1 hz2 rfl (by omega) rfl rfl (by simp [Value.oneCell']) ?_; intro gg cap w12 d1 df1 HP)
            all_goals go_end0
            all_goals exact DefPost.of_ok HR7.out (by rw [HIS.out]; simp [itemsOf]) HP
end Go.Proofs.YtjonaidancomgaaGreatDoor

namespace Go.Proofs.YtjonaidancomgaaGreatDoor
open Go.RowKit Go.Maps Go.WideMaps

def vCat (lo : Nat) (c : Sx.Cat) (v : Value) (w : World) : Prop := ∃ cs : List Value, v = .agg cs.toArray ∧ CatAt w (fun b => lo ≤ b ∧ b < w.heap.size) c cs
theorem fn_all (W1 : World) (m : Nat) (h : W1.ownsMap Tryz.prog 9 fnEl m 0 (Sx.fnD 0)) : ∃ W2 W3 W4 W5 W6 W7 W8 : World,
    (Instr.mapUpdate 147 (.map (some m)) (.string ⟨#[99, 111, 117, 114, 115, 101]⟩) (.func (.func 84) #[] #[])).run Tryz.prog W1 = .ok () W2 ∧
    (Instr.mapUpdate 147 (.map (some m)) (.string ⟨#[115, 97, 109, 101]⟩) (.func (.func 85) #[] #[])).run Tryz.prog W2 = .ok () W3 ∧
    (Instr.mapUpdate 147 (.map (some m)) (.string ⟨#[112, 114, 111, 103, 114, 97, 109, 109, 101]⟩) (.func (.func 86) #[] #[])).run Tryz.prog W3 = .ok () W4 ∧
    (Instr.mapUpdate 147 (.map (some m)) (.string ⟨#[99, 108, 97, 115, 115]⟩) (.func (.func 87) #[] #[])).run Tryz.prog W4 = .ok () W5 ∧
    (Instr.mapUpdate 147 (.map (some m)) (.string ⟨#[104, 111, 110, 111, 117, 114]⟩) (.func (.func 88) #[] #[])).run Tryz.prog W5 = .ok () W6 ∧
    (Instr.mapUpdate 147 (.map (some m)) (.string ⟨#[102, 101, 101]⟩) (.func (.func 89) #[] #[])).run Tryz.prog W6 = .ok () W7 ∧
    (Instr.mapUpdate 147 (.map (some m)) (.string ⟨#[119, 104, 101, 110]⟩) (.func (.func 90) #[] #[])).run Tryz.prog W7 = .ok () W8 ∧
    FnAt W8 m ∧ Below m W1 W8 := by
  have hlt : ∀ {W : World} {k : Nat} {D : DataW Unit}, W.ownsMap Tryz.prog 9 fnEl m k D → m ≤ W.heap.size := fun h => Nat.le_of_lt (World.ownsMap.lt h)
  have hb : ∀ {W W' : World}, m ≤ W.heap.size → W.grownBy W' (some m) → Below m W W' := fun hm hg => Below.grown (Below.refl _ _) hg hm (fun z hz => by cases hz; exact Nat.le_refl _)
  obtain ⟨W2, e1, o1, g1⟩ := fn_put h (by omega) ⟨#[99, 111, 117, 114, 115, 101]⟩ 84 rfl (by decide) rfl
  obtain ⟨W3, e2, o2, g2⟩ := fn_put o1 (by omega) ⟨#[115, 97, 109, 101]⟩ 85 rfl (by decide) rfl
  obtain ⟨W4, e3, o3, g3⟩ := fn_put o2 (by omega) ⟨#[112, 114, 111, 103, 114, 97, 109, 109, 101]⟩ 86 rfl (by decide) rfl
  obtain ⟨W5, e4, o4, g4⟩ := fn_put o3 (by omega) ⟨#[99, 108, 97, 115, 115]⟩ 87 rfl (by decide) rfl
  obtain ⟨W6, e5, o5, g5⟩ := fn_put o4 (by omega) ⟨#[104, 111, 110, 111, 117, 114]⟩ 88 rfl (by decide) rfl
  obtain ⟨W7, e6, o6, g6⟩ := fn_put o5 (by omega) ⟨#[102, 101, 101]⟩ 89 rfl (by decide) rfl
  obtain ⟨W8, e7, o7, g7⟩ := fn_put o6 (by omega) ⟨#[119, 104, 101, 110]⟩ 90 rfl (by decide) rfl
  exact ⟨W2, W3, W4, W5, W6, W7, W8, e1, e2, e3, e4, e5, e6, e7, o7, ((((((hb (hlt h) g1).trans (hb (hlt o1) g2)).trans (hb (hlt o2) g3)).trans (hb (hlt o3) g4)).trans (hb (hlt o4) g5)).trans (hb (hlt o5) g6)).trans (hb (hlt o6) g7)⟩
theorem sDefine (N i : Nat) (x : List UInt8) (hx : Sx.defIx x = some i) : DefC N (Sx.defFs.getD i 0) fun last c l => Sx.defineR last x c l := by
  unfold Sx.defIx at hx
  obtain ⟨hlt, he, -⟩ := List.findIdx?_eq_some_iff_getElem.1 hx
  have hxe : x = Sx.defWs[i] := by simpa using (beq_iff_eq.1 he).symm
  subst hxe
  have hi : i < 7 := hlt
  match i, hi with
  | 0, _ => exact sCourse N
  | 1, _ => exact sSame N
  | 2, _ => exact sProgramme N
  | 3, _ => exact sClass N
  | 4, _ => exact sHonour N
  | 5, _ => exact sFee N
  | 6, _ => exact sClause N
def Sx.Cat.size (c : Sx.Cat) : Nat := c.courses.length + c.same.length + c.progs.length + c.classes.length + c.fees.length + c.honours.length + c.clauses.length
theorem Sx.define_size {last : Int} {x : List UInt8} {c c' : Sx.Cat} {l l' : List Lx.Tok} (h : Sx.defineR last x c l = .ok c' l') : c'.size = c.size + 1 := by
  have hb : ∀ {α : Type} (r : Sx.R α) (f : α → Sx.Cat), (∀ a, (f a).size = c.size + 1) → (r.bind fun a l => .ok (f a) l) = .ok c' l' → c'.size = c.size + 1 := fun r f hf e => by
    cases r with
    | bad p x => cases e
    | ok a l => injection e with e1 _; rw [← e1]; exact hf a
  unfold Sx.defineR at h
  split at h
  · exact hb _ _ (fun a => by simp [Sx.Cat.size]; omega) h
  split at h
  · exact hb _ _ (fun a => by simp [Sx.Cat.size]; omega) h
  split at h
  · exact hb _ _ (fun a => by simp [Sx.Cat.size]; omega) h
  split at h
  · exact hb _ _ (fun a => by simp [Sx.Cat.size]; omega) h
  split at h
  · exact hb _ _ (fun a => by simp [Sx.Cat.size]; omega) h
  split at h
  · exact hb _ _ (fun a => by simp [Sx.Cat.size]; omega) h
  · exact hb _ _ (fun a => by simp [Sx.Cat.size]; omega) h
theorem Sx.items_few {c : Sx.Cat} {n : Nat} (h : c.size ≤ n) : ∀ is ∈ itemsOf c, is.length ≤ n := fun is his => by
  unfold Sx.Cat.size at h
  simp only [itemsOf, List.mem_cons, List.not_mem_nil, or_false] at his
  rcases his with rfl | rfl | rfl | rfl | rfl | rfl | rfl <;> simp <;> omega

theorem FrH.toG {g h : Nat} {w W V : World} (h1 : FrG g w W) (h2 : FrH g h W V) (hh : w.heap.size ≤ h) : FrG g w V :=
  ⟨h1.bel.trans h2.bel, fun k hk hg => (h2.keep k (by have := h1.bel.size; omega) hg (by omega)).trans (h1.keep k hk hg)⟩
theorem Sx.defs_end (last : Int) (n : Nat) (c : Sx.Cat) : Sx.defs last n c [] = .ok c [] := by cases n <;> simp [Sx.defs]
set_option maxRecDepth 20000 in
set_option maxHeartbeats 4000000 in
theorem sCatalogue (N g B : Nat) (l : List Lx.Tok) (last : Int) (w : World) (h : PS g B last l w) (he : EnvS N w) (hN : N ≤ g) (hl : l.length ≤ 1000000) :
    Calls Tryz.prog 29 #[.pointer (some ⟨g, 0, none⟩)] w (SPar g B last w (vCat w.heap.size) (Sx.catalogue last l)) := by
  have hmm := @run_makeMap Tryz.prog
  obtain ⟨R, hR⟩ : ∃ R, R = Sx.catalogue last l := ⟨_, rfl⟩
  rw [← hR]
  have hlt := h.lt
  obtain ⟨W0, hW0⟩ : ∃ W0, W0 = w.alloc (.cells #[.slice none 0 0, .slice none 0 0, .slice none 0 0, .slice none 0 0, .slice none 0 0, .slice none 0 0, .slice none 0 0] 30) := ⟨_, rfl⟩
  have hm : w.heap.size + 1 = W0.heap.size := by rw [hW0]; simp
  have hmade := World.ownsMap_made W0 Tryz.prog 9 fnEl
  rw [← hm] at hmade
  obtain ⟨W2, W3, W4, W5, W6, W7, W8, e1, e2, e3, e4, e5, e6, e7, hfn, hbel⟩ := fn_all _ _ hmade
  have hb0 : Below w.heap.size w W0 := by rw [hW0]; exact (Below.refl _ _).alloc (Nat.le_refl _) _
  have hb1 : Below w.heap.size w (W0.alloc (.map #[] 0)) := hb0.alloc (by omega) _
  have hb8 : Below w.heap.size w W8 := hb1.trans (hbel.mono (by omega))
  have hblk : Blk W8 w.heap.size 30 #[.slice none 0 0, .slice none 0 0, .slice none 0 0, .slice none 0 0, .slice none 0 0, .slice none 0 0, .slice none 0 0] := by
    have h1 : Blk W0 w.heap.size 30 #[.slice none 0 0, .slice none 0 0, .slice none 0 0, .slice none 0 0, .slice none 0 0, .slice none 0 0, .slice none 0 0] := by rw [hW0]; exact Blk.new _ _ _
    exact (h1.alloc _).below hbel (by omega)
  have hC := CatI.start (w0 := W8) (h.next hb8) (FrH.refl g w.heap.size W8) hlt hblk.lt hblk
  have HF8 := Lh (FrG.below hb8 hlt)
  have HE8 := Lh (he.fr (FrG.below hb8 hlt) hN)
  have HC := Lh hC; have HR := Lh hR; have HFn := Lh hfn; have Hl := Lh hl
  have hr8 := hblk.lt
  have hm8 := hfn.lt
  rw [hW0] at e1
  clear h hR hW0 hm hmade hbel hb0 hb1 hb8 hblk hC hfn he hl
  go_enter Tryz.func29, Tryz.ntmps29
  go_wp2_with fail
  clear e1 e2 e3 e4 e5 e6 e7 hmm
  go_loopg [4, 5] l.length (fun gk v4 v5 wr => ∃ c vs css l4, Hid (R = Sx.defs last gk c l4) ∧ Hid (CatI g B last w.heap.size W8 (itemsOf c) vs css l4 wr) ∧ Hid (l4.length ≤ gk) ∧ Hid (c.size + l4.length ≤ 1000000))
  case atStart => exact ⟨Sx.Cat.none, _, _, l, HR, HC, Lh (Nat.le_refl _), Lh (by have := Hl.out; simp [Sx.Cat.size, Sx.Cat.none]; omega)⟩
  case round =>
    clear HR HC Hl
    obtain ⟨c, vs, css, l4, HR, HK, Hk, Hfew⟩ := hrel
    have hfk : FnAt wr (w.heap.size + 1) := HFn.out.kept (HK.out.fr.keep _ hm8 (by omega) (by omega))
    have hsz := HK.out.fr.bel.size
    have HG := Lh (HK.out.fr.toG HF8.out (Nat.le_refl _))
    cases l4 with
    | nil =>
      have hR2 : R = .ok c [] := by rw [HR.out, Sx.defs_end]
      have HR2 := Lh hR2
      obtain ⟨⟨A, cp, hb, hT, hcap⟩, hB⟩ := HK.out.ps
      have p0 := hb.cell 0
      simp at p0
      have hout := HK.out.out (Sx.items_few (n := 140737488351232) (by have := Hfew.out; simp at this; omega))
      have Hout := Lh hout
      obtain ⟨A0, n0, A1, n1, A2, n2, A3, n3, A4, n4, A5, n5, A6, n6, hvs, -⟩ := hout
      subst hvs
      have HKn := HK
      have y0 := HK.out.blk.cell 0; have y1 := HK.out.blk.cell 1; have y2 := HK.out.blk.cell 2; have y3 := HK.out.blk.cell 3; have y4 := HK.out.blk.cell 4; have y5 := HK.out.blk.cell 5; have y6 := HK.out.blk.cell 6
      simp at y0 y1 y2 y3 y4 y5 y6
      have yf0 := HK.out.blk.free 0; have yf1 := HK.out.blk.free 1; have yf2 := HK.out.blk.free 2; have yf3 := HK.out.blk.free 3; have yf4 := HK.out.blk.free 4; have yf5 := HK.out.blk.free 5; have yf6 := HK.out.blk.free 6
      have hrl := HK.out.blk.lt
      clear hR2 hb hT hfk HK HR
      go_wp2_with fail
      obtain ⟨V, hV⟩ : ∃ V, V = ((((((wr.setCell ⟨w.heap.size, 0, none⟩ (.slice A0 c.courses.length n0)).setCell ⟨w.heap.size, 1, none⟩ (.slice A1 c.same.length n1)).setCell ⟨w.heap.size, 2, none⟩ (.slice A2 c.progs.length n2)).setCell ⟨w.heap.size, 3, none⟩ (.slice A3 c.classes.length n3)).setCell ⟨w.heap.size, 4, none⟩ (.slice A4 c.fees.length n4)).setCell ⟨w.heap.size, 5, none⟩ (.slice A5 c.honours.length n5)).setCell ⟨w.heap.size, 6, none⟩ (.slice A6 c.clauses.length n6) := ⟨_, rfl⟩
      have hL : LSt g B last [] w.heap.size 30 #[.slice A0 c.courses.length n0, .slice A1 c.same.length n1, .slice A2 c.progs.length n2, .slice A3 c.classes.length n3, .slice A4 c.fees.length n4, .slice A5 c.honours.length n5, .slice A6 c.clauses.length n6] w V := by
        rw [hV]
        have := ((((((((LSt.mk HKn.out.ps HG.out HKn.out.blk (Nat.le_refl _) hlt)).set 0 (.slice A0 c.courses.length n0)).set 1 (.slice A1 c.same.length n1)).set 2 (.slice A2 c.progs.length n2)).set 3 (.slice A3 c.classes.length n3)).set 4 (.slice A4 c.fees.length n4)).set 5 (.slice A5 c.honours.length n5)).set 6 (.slice A6 c.clauses.length n6)
        simpa using this
      have hVs : V.heap.size = wr.heap.size := by rw [hV]; simp [World.setCell]
      have hVb : ∀ b, b ≠ w.heap.size → V.heap[b]? = wr.heap[b]? := fun b h1 => by
        rw [hV, Below.heap_setCell _ _ _ b h1, Below.heap_setCell _ _ _ b h1, Below.heap_setCell _ _ _ b h1, Below.heap_setCell _ _ _ b h1, Below.heap_setCell _ _ _ b h1, Below.heap_setCell _ _ _ b h1, Below.heap_setCell _ _ _ b h1]
      have d0 := hL.blk.cell 0; have d1 := hL.blk.cell 1; have d2 := hL.blk.cell 2; have d3 := hL.blk.cell 3; have d4 := hL.blk.cell 4; have d5 := hL.blk.cell 5; have d6 := hL.blk.cell 6
      simp at d0 d1 d2 d3 d4 d5 d6
      try simp only [Exit.inBlock, Exit.then]
      rw [← hV]
      clear hV
      exact bodyPost_ret (v := .agg #[.slice A0 c.courses.length n0, .slice A1 c.same.length n1, .slice A2 c.progs.length n2, .slice A3 c.classes.length n3, .slice A4 c.fees.length n4, .slice A5 c.honours.length n5, .slice A6 c.clauses.length n6]) (by simp [results, Tryz.results29, go_sem, d0, d1, d2, d3, d4, d5, d6]) rfl (by rw [HR2.out]; exact ⟨_, rfl, ⟨[.slice A0 c.courses.length n0, .slice A1 c.same.length n1, .slice A2 c.progs.length n2, .slice A3 c.classes.length n3, .slice A4 c.fees.length n4, .slice A5 c.honours.length n5, .slice A6 c.clauses.length n6], rfl, CatAt.keep (fun b hb => ⟨⟨by have := hb.1; omega, by rw [hVs]; exact hb.2⟩, fun i => World.cell?_of_block (a := ⟨b, i, none⟩) (hVb b (by have := hb.1; omega))⟩) Hout.out⟩, hL.ps, hL.fr⟩)
    | cons t r =>
      obtain ⟨k, hk⟩ : ∃ k, gk = k + 1 := ⟨gk - 1, by have := Hk.out; simp at this; omega⟩
      have hR1 := HR.out
      rw [hk] at hR1
      obtain ⟨⟨A, cp, hb, hT, hcap⟩, hB⟩ := HK.out.ps
      have hps := HK.out.ps
      have p0 := hb.cell 0; have pf0 := hb.free 0
      obtain ⟨b, o, rfl, hbB, q0, q1, q2, q3⟩ := hT.at_ 0 t rfl
      have htl := hT.texts t (by simp)
      have hln := hT.len
      simp only [List.length_cons] at hln hcap p0
      simp at p0
      simp only [Nat.zero_mul, Nat.add_zero] at q0 q1 q2 q3
      have hlook := hfk.look (Lx.bs t.text) (by rw [Lx.bs_size]; unfold maxLen; omega)
      rw [Lx.bs_list] at hlook
      have Hc := Lh (fun b1 o1 c1 h1 hc => ps_cut hb hT hB b1 o1 c1 h1 hc)
      have Hfail := Lh (sFail g B (t :: r) last 100 _ hps)
      have hbg : b ≠ g := by omega
      have hlen1 : ((r.length : Int) + 1 == 0) = false := by simp; omega
      clear hb hT hps HR hfk
      cases hd : Sx.defIx t.text with
      | none =>
        rw [hd] at hlook
        simp only at hlook
        have HR2 : Hid (R = .bad (Sx.front last (t :: r)) 100) := Lh (by rw [hR1, Sx.defs_none (by unfold Sx.defT; rw [if_neg (fun e => by rw [Sx.defIx_isDef, hd] at e; simp at e)])]; rfl)
        clear hR1 hd
        go_wp2_with fail
        refine Hfail.out.mono ?_
        rintro e w9 ⟨he, rfl⟩
        unfold FailS at he
        subst he
        exact ⟨rfl, SPar.of_bad HR2.out HG.out⟩
      | some i =>
        rw [hd] at hlook
        simp only at hlook
        cases hk1 : t.kind != 1 with
        | true =>
          have HR2 : Hid (R = .bad (Sx.front last (t :: r)) 100) := Lh (by rw [hR1, Sx.defs_none (by unfold Sx.defT; rw [if_neg (fun e => by rw [e.1] at hk1; simp at hk1)])]; rfl)
          clear hR1
          go_wp2_with fail
          refine Hfail.out.mono ?_
          rintro e w9 ⟨he, rfl⟩
          unfold FailS at he
          subst he
          exact ⟨rfl, SPar.of_bad HR2.out HG.out⟩
        | false =>
          have hk2 : t.kind = 1 := by simpa using hk1
          have hdt : Sx.defT t = some t.text := by unfold Sx.defT; rw [if_pos ⟨hk2, by rw [Sx.defIx_isDef, hd]; rfl⟩]
          have HR2 : Hid (R = (Sx.defineR last t.text c r).bind fun c l => Sx.defs last k c l) := Lh (by rw [hR1, Sx.defs_some hdt])
          have hD := sDefine N i t.text hd
          have hi7 : i < 7 := by
            unfold Sx.defIx at hd
            exact (List.findIdx?_eq_some_iff_getElem.1 hd).1
          have h7 : i = 0 ∨ i = 1 ∨ i = 2 ∨ i = 3 ∨ i = 4 ∨ i = 5 ∨ i = 6 := by omega
          clear hR1 hdt hk2 hd Hfail hi7
          rcases h7 with rfl | rfl | rfl | rfl | rfl | rfl | rfl
          all_goals
            simp only [Sx.defFs, List.getD_cons_zero, List.getD_cons_succ] at hlook hD
            have HD := Lh hD
            clear hD
            go_wp2_with fail
          all_goals
            obtain ⟨W, hW, hWs, hWf⟩ : ∃ W, W = _ ∧ PS g B last r W ∧ FrG g wr W := by
              first
                | (have hr : r = [] := List.eq_nil_of_length_eq_zero (by omega)
                   have := Hc.out b o 0 (fun h => absurd hr h) (by rw [hr]; exact Nat.le_refl 0)
                   exact ⟨_, rfl, this.1, this.2⟩)
                | (have := Hc.out b (o + 4) (cp - 1) (fun _ => ⟨rfl, rfl⟩) (by omega)
                   exact ⟨_, rfl, this.1, this.2⟩)
            have hKW := HK.out.step hWf hWs
            have hcall := HD.out g B w.heap.size r last W8 W c vs css hKW (HE8.out.keep (hKW.fr.bel.mono hN)) hN (Sx.items_few (by have := Hfew.out; simp at this; omega)) (by have := Hfew.out; simp at this; omega)
            rw [hW] at hcall
            simp only at hcall
            refine hcall.mono ?_
            intro e w9 he
            cases hD2 : Sx.defineR last t.text c r with
            | bad p x =>
              rw [hD2] at he
              obtain ⟨he1, he2⟩ := he
              unfold FailS at he1
              subst he1
              exact ⟨rfl, SPar.of_bad (Sx.go_bad HR2.out hD2) (he2.toG HF8.out (Nat.le_refl _))⟩
            | ok c' l' =>
              rw [hD2] at he
              obtain ⟨rfl, vs', css', hC'⟩ := he
              have HC' := Lh hC'
              have HR3 := Lh (Sx.go_ok HR2.out hD2)
              have hsh := (Sx.cuts_define t.text c).shrinks hD2
              have hsz2 := Sx.define_size hD2
              clear hC' hcall hKW
              go_wp2_with fail
              go_roundg k
              all_goals first
                | omega
                | exact ⟨c', vs', css', l', HR3, HC', Lh (by have := Hk.out; simp at this; omega), Lh (by have := Hfew.out; simp at this; omega)⟩
end Go.Proofs.YtjonaidancomgaaGreatDoor

namespace Go.Proofs.YtjonaidancomgaaGreatDoor
open Go.RowKit
open Lx (Tok)

end Go.Proofs.YtjonaidancomgaaGreatDoor
