/- Parts of the proof, joined into one text: SxTake, SxKidW. -/
import Derived.Test.YtjonaidancomgaaGreatDoorYSxTakeM
import Derived.Deep.CutRange
import Derived.Deep.CutBlock
import Derived.Test.YtjonaidancomgaaGreatDoorYSxKids
import Derived.Outline

namespace Go.Proofs.YtjonaidancomgaaGreatDoor
open Go.RowKit

theorem Tryz.infoStrT : (Tryz.prog.info? 9).map (fun i => (i.zero, i.size, i.bytes)) = some (some (.string ⟨#[]⟩), 1, 16) := by kernel_rfl
theorem Tryz.infoIntT : (Tryz.prog.info? 3).map (fun i => (i.zero, i.size, i.bytes)) = some (some (.int .i64 0), 1, 8) := by kernel_rfl
set_option maxRecDepth 20000 in
set_option maxHeartbeats 40000000 in
theorem sTake (g B : Nat) (l : List Lx.Tok) (last : Int) (w : World) (h : PS g B last l w) (hl : l.length ≤ 1000000) :
  Calls Tryz.prog 162 #[.pointer (some ⟨g, 0, none⟩)] w (SPar g B last w (vReq w.heap.size) (Sx.take last l)) := by
 obtain ⟨R, hR⟩ : ∃ R, R = Sx.take last l := ⟨_, rfl⟩
 rw [← hR]
 obtain ⟨Rest, hRest⟩ : ∃ Rest : List UInt8 → Int → List (List UInt8 × Int) → List Lx.Tok → Sx.R Sx.Req, Rest = fun nm cr rs l => (if Sx.hit 1 Sx.wAt l = true then Sx.number last 0 12 l.tail else .ok 1 l).bind fun gr l => (Sx.sign last 59 (if Sx.hit 1 Sx.wHome l = true then l.tail else l)).bind fun _ l' => .ok ⟨nm, cr, gr, Sx.hit 1 Sx.wHome l, rs.map (·.1), rs.map (·.2)⟩ l' := ⟨_, rfl⟩
 replace hR : R = (Sx.name last l).bind fun nm l => (Sx.number last 1 10000 l).bind fun cr l => (Sx.word last Sx.wFrom l).bind fun _ l => (Sx.refs last l.length.succ [] l).bind (Rest nm cr) := by rw [hR, hRest]; rfl
 have HR := Lh hR
 have HRest := Lh hRest
 have hlt := h.lt
 have L := Lh (LSt.start h 108 #[.string ⟨#[]⟩, .int .i64 0, .int .i64 0, .bool false, .slice none 0 0, .slice none 0 0])
 obtain ⟨i0, hi0, hz0, hz1, hz2⟩ := info_parts Tryz.infoStrT
 obtain ⟨j0, hj0, jz0, jz1, jz2⟩ := info_parts Tryz.infoIntT
 have Hl := Lh hl
 clear h hR hRest hl
 go_enter Tryz.func162, Tryz.ntmps162
 go_wp2_with fail
 refine (sName g B l last _ L.out.ps).mono ?_
 intro e w1 he
 rcases he.split with ⟨p, x, hv, rfl, hf⟩ | ⟨nm, l1, v, hv, rfl, hV, hs, hf⟩
 ·exact ⟨rfl, SPar.of_bad (Sx.go_bad HR.out hv) (L.out.fr.trans hf)⟩
 obtain ⟨hV, hnl⟩ := hV
 unfold strV at hV
 subst hV
 replace HR := Lh (Sx.go_ok HR.out hv)
 have L1 := Lh (L.out.step hf hs)
 have Hnl := Lh hnl
 have t1 := Lh (Sx.eats_name last l _ _ hv)
 clear hv hs hf he L hnl
 go_wp2_with fail
 refine (sNumber g B l1 last 1 10000 _ L1.out.ps).mono ?_
 intro e w2 he
 rcases he.split with ⟨p, x, hv, rfl, hf⟩ | ⟨cr, l2, v, hv, rfl, hV, hs, hf⟩
 ·exact ⟨rfl, SPar.of_bad (Sx.go_bad HR.out hv) (L1.out.fr.trans hf)⟩
 unfold vInt at hV
 subst hV
 replace HR := Lh (Sx.go_ok HR.out hv)
 have L2 := L1.out.step hf hs
 have t2 := Lh (Sx.eats_number last _ _ l1 _ _ hv)
 have T : Hid (TakeM g B last w2.heap.size w.heap.size w nm cr (.int .i64 1) (.bool false) (.slice none 0 0) (.slice none 0 0) (.slice none 0 0) (.slice none 0 0) [] [] none none l2 (w2.alloc (.cells #[.string (Lx.bs nm), .int .i64 cr, .int .i64 1, .bool false, .slice none 0 0, .slice none 0 0] 108))) :=
  Lh ⟨L2.new _ _, (L2.alloc _).blk, World.ownsRow_nil _ _ _ _, World.ownsRow_nil _ _ _ _, L2.blk.lt, hlt, by simp [Value.ownBlock], by simp [Value.ownBlock], fun b y e => (by cases e), fun b y e => (by cases e)⟩
 have hpr : w.heap.size < w2.heap.size := L2.blk.lt
 clear hv hs hf he L1 L2
 go_wp2_with fail
 refine (sWord g B l2 last _ _ T.out.st.ps).mono ?_
 intro e w3 he
 rcases he.split with ⟨p, x, hv, rfl, hf⟩ | ⟨u, l3, v, hv, rfl, hV, hs, hf⟩
 ·exact ⟨rfl, SPar.of_bad (Sx.go_bad HR.out hv) (T.out.st.fr.trans hf)⟩
 unfold vUnit at hV
 subst hV
 replace HR := Lh (Sx.go_ok HR.out hv)
 have T3 := Lh (T.out.step hf hs)
 have t3 := Lh (Sx.eats_need last _ _ l2 _ _ hv)
 have hl3 : l3.length ≤ 1000000 := by have a := Hl.out; have b := t1.out; have c := t2.out; have d := t3.out; omega
 have Hl3 := Lh hl3
 clear hv hs hf he T t1 t2 t3 hl3 Hl
 go_wp2_with fail
 go_loopg [4, 5, 6] l3.length (fun gk v4 v5 v6 wr => ∃ more rs vN vF l4, v4 = .bool more ∧ Hid (R = if more = true then (Sx.refs last (gk + 1) rs l4).bind (Rest nm cr) else Rest nm cr rs l4) ∧ Hid (TakeM g B last w2.heap.size w.heap.size w nm cr (.int .i64 1) (.bool false) vN vF vN vF (rs.map (·.1)) (rs.map (·.2)) none none l4 wr) ∧ Hid (more = true → l4.length ≤ gk) ∧ Hid (rs.length + l4.length ≤ 1000000) ∧ Hid (∀ r ∈ rs, r.1.length ≤ 140737488351232))
 case atStart => exact ⟨true, [], _, _, l3, rfl, HR, T3, Lh (fun _ => Nat.le_refl _), Lh (by have := Hl3.out; simp; exact this), Lh (by simp)⟩
 case round =>
  clear HR T3
  obtain ⟨more, rs, vN, vF, l4, rfl, HR, HT, Hk, Hfew, Hsl⟩ := hrel
  cases more with
  | true =>
   replace HR : Hid (R = (Sx.refs last (gk + 1) rs l4).bind (Rest nm cr)) := Lh (by rw [HR.out, if_pos rfl])
   replace Hk : Hid (l4.length ≤ gk) := Lh (Hk.out rfl)
   go_upto_block 1 with fail
   go_cut [0, 5, 6] from 14 to 33 (fun v0 v5 v6 wx => v0 = .pointer (some ⟨g, 0, none⟩) ∧ ∃ vN' vF' s l5, Hid (Sx.ref last l4 = .ok s l5) ∧ Hid (s.1.length ≤ 140737488351232) ∧ Hid (TakeM g B last w2.heap.size w.heap.size w nm cr (.int .i64 1) (.bool false) vN' vF' vN' vF' (rs.map (·.1) ++ [s.1]) (rs.map (·.2) ++ [s.2]) none none l5 wx))
   case first =>
    go_wp2_with fail
    refine (sRef g B l4 last _ HT.out.st.ps).mono ?_
    intro e w5 he
    rcases he.split with ⟨p, x, hv, rfl, hf⟩ | ⟨s, l5, v, hv, rfl, hV, hs, hf⟩
    ·exact ⟨rfl, SPar.of_bad (by rw [HR.out, Sx.refs, hv]; rfl) (HT.out.st.fr.trans hf)⟩
    obtain ⟨hV, hsl⟩ := hV
    unfold strV at hV
    subst hV
    have hR5 : R = (if Sx.hit 3 [44] l5 = true then Sx.refs last gk (rs ++ [s]) l5.tail else .ok (rs ++ [s]) l5).bind (Rest nm cr) := by rw [HR.out, Sx.refs, hv]; rfl
    have HR5 := Lh hR5
    have T5 := HT.out.step hf hs
    have d4 := T5.st.blk.cell 4; have d5 := T5.st.blk.cell 5; have df4 := T5.st.blk.free 4; have df5 := T5.st.blk.free 5
    simp at d4 d5
    have dl := T5.st.blk.lt
    have HV := Lh hv
    have M0 := Lh (T5.step (w' := w5.drew) (FrG.below (Below.refl _ _).drew T5.st.ps.lt) (T5.st.ps.next (Below.refl _ _).drew))
    have Hsl5 := Lh hsl
    have hrl : (rs.map (·.1)).length ≤ 1000000 := by have := Hfew.out; simp; omega
    have hrl2 : (rs.map (·.2)).length ≤ 1000000 := by have := Hfew.out; simp; omega
    clear hv hs hf he HR hR5 T5 HT hsl
    go_wp2_with fail
    go_region_law (first
     | (refine HMF.out.stepN hrl rfl _ _ _ rfl i0 _ Tryz.underlying105 hi0 hz0 hz1 hz2 rfl rfl (by first | rfl | exact Eq.trans (show _ = Value.slice (some ⟨w5.heap.size + 1, 0, none⟩) 1 1 from rfl) (by simp)) ?_; intro gg cap w6 MN; have d4 := MN.st.blk.cell 4; have d5 := MN.st.blk.cell 5; have df4 := MN.st.blk.free 4; have df5 := MN.st.blk.free 5; have dl := MN.st.blk.lt; simp at d4 d5; have HMN := Lh MN; clear MN)
     | (refine (HMF.out.allocN s.1).stepN hrl rfl _ _ _ rfl i0 _ Tryz.underlying105 hi0 hz0 hz1 hz2 rfl rfl (by first | rfl | exact Eq.trans (show _ = Value.slice (some ⟨w5.heap.size + 1, 0, none⟩) 1 1 from rfl) (by simp)) ?_; intro gg cap w6 MN; have d4 := MN.st.blk.cell 4; have d5 := MN.st.blk.cell 5; have df4 := MN.st.blk.free 4; have df5 := MN.st.blk.free 5; have dl := MN.st.blk.lt; simp at d4 d5; have HMN := Lh MN; clear MN)
     | (refine (M0.out.allocN s.1).stepN hrl rfl _ _ _ rfl i0 _ Tryz.underlying105 hi0 hz0 hz1 hz2 rfl rfl (by first | rfl | exact Eq.trans (show _ = Value.slice (some ⟨w5.heap.size + 1, 0, none⟩) 1 1 from rfl) (by simp)) ?_; intro gg cap w6 MN; have d4 := MN.st.blk.cell 4; have d5 := MN.st.blk.cell 5; have df4 := MN.st.blk.free 4; have df5 := MN.st.blk.free 5; have dl := MN.st.blk.lt; simp at d4 d5; have HMN := Lh MN; clear MN)
     | (refine ((M0.out.allocN s.1).allocF s.2).stepN hrl rfl _ _ _ rfl i0 _ Tryz.underlying105 hi0 hz0 hz1 hz2 rfl rfl (by first | rfl | exact Eq.trans (show _ = Value.slice (some ⟨w5.heap.size + 1, 0, none⟩) 1 1 from rfl) (by simp)) ?_; intro gg cap w6 MN; have d4 := MN.st.blk.cell 4; have d5 := MN.st.blk.cell 5; have df4 := MN.st.blk.free 4; have df5 := MN.st.blk.free 5; have dl := MN.st.blk.lt; simp at d4 d5; have HMN := Lh MN; clear MN)
     | (refine ((M0.out.allocF s.2).allocN s.1).stepN hrl rfl _ _ _ rfl i0 _ Tryz.underlying105 hi0 hz0 hz1 hz2 rfl rfl (by first | rfl | exact Eq.trans (show _ = Value.slice (some ⟨w5.heap.size + 1, 0, none⟩) 1 1 from rfl) (by simp)) ?_; intro gg cap w6 MN; have d4 := MN.st.blk.cell 4; have d5 := MN.st.blk.cell 5; have df4 := MN.st.blk.free 4; have df5 := MN.st.blk.free 5; have dl := MN.st.blk.lt; simp at d4 d5; have HMN := Lh MN; clear MN)
     | (refine HMN.out.stepF hrl2 rfl _ _ _ rfl j0 _ Tryz.underlying106 hj0 jz0 jz1 jz2 rfl rfl (by first | rfl | exact Eq.trans (show _ = Value.slice (some ⟨w5.heap.size + 1, 0, none⟩) 1 1 from rfl) (by simp)) ?_; intro gg cap w7 MF; have d4 := MF.st.blk.cell 4; have d5 := MF.st.blk.cell 5; have df4 := MF.st.blk.free 4; have df5 := MF.st.blk.free 5; have dl := MF.st.blk.lt; simp at d4 d5; have HMF := Lh MF; clear MF)
     | (refine (HMN.out.allocF s.2).stepF hrl2 rfl _ _ _ rfl j0 _ Tryz.underlying106 hj0 jz0 jz1 jz2 rfl rfl (by first | rfl | exact Eq.trans (show _ = Value.slice (some ⟨w5.heap.size + 1, 0, none⟩) 1 1 from rfl) (by simp)) ?_; intro gg cap w7 MF; have d4 := MF.st.blk.cell 4; have d5 := MF.st.blk.cell 5; have df4 := MF.st.blk.free 4; have df5 := MF.st.blk.free 5; have dl := MF.st.blk.lt; simp at d4 d5; have HMF := Lh MF; clear MF)
     | (refine (M0.out.allocF s.2).stepF hrl2 rfl _ _ _ rfl j0 _ Tryz.underlying106 hj0 jz0 jz1 jz2 rfl rfl (by first | rfl | exact Eq.trans (show _ = Value.slice (some ⟨w5.heap.size + 1, 0, none⟩) 1 1 from rfl) (by simp)) ?_; intro gg cap w7 MF; have d4 := MF.st.blk.cell 4; have d5 := MF.st.blk.cell 5; have df4 := MF.st.blk.free 4; have df5 := MF.st.blk.free 5; have dl := MF.st.blk.lt; simp at d4 d5; have HMF := Lh MF; clear MF)
     | (refine ((M0.out.allocF s.2).allocN s.1).stepF hrl2 rfl _ _ _ rfl j0 _ Tryz.underlying106 hj0 jz0 jz1 jz2 rfl rfl (by first | rfl | exact Eq.trans (show _ = Value.slice (some ⟨w5.heap.size + 1, 0, none⟩) 1 1 from rfl) (by simp)) ?_; intro gg cap w7 MF; have d4 := MF.st.blk.cell 4; have d5 := MF.st.blk.cell 5; have df4 := MF.st.blk.free 4; have df5 := MF.st.blk.free 5; have dl := MF.st.blk.lt; simp at d4 d5; have HMF := Lh MF; clear MF)
     | (refine ((M0.out.allocN s.1).allocF s.2).stepF hrl2 rfl _ _ _ rfl j0 _ Tryz.underlying106 hj0 jz0 jz1 jz2 rfl rfl (by first | rfl | exact Eq.trans (show _ = Value.slice (some ⟨w5.heap.size + 1, 0, none⟩) 1 1 from rfl) (by simp)) ?_; intro gg cap w7 MF; have d4 := MF.st.blk.cell 4; have d5 := MF.st.blk.cell 5; have df4 := MF.st.blk.free 4; have df5 := MF.st.blk.free 5; have dl := MF.st.blk.lt; simp at d4 d5; have HMF := Lh MF; clear MF))
    all_goals (try go_wp2_with fail)
    all_goals go_meet
    all_goals exact ⟨rfl, _, _, s, l5, HV, Hsl5, Lh (by have h := HMF.out.store; simp only [List.length_map] at h; exact h)⟩
   case rest =>
    obtain ⟨rfl, vN', vF', s, l5, HV, Hsl5, T5⟩ := hcut
    have hR5 : R = (if Sx.hit 3 [44] l5 = true then Sx.refs last gk (rs ++ [s]) l5.tail else .ok (rs ++ [s]) l5).bind (Rest nm cr) := by rw [HR.out, Sx.refs, HV.out]; rfl
    have t5 := Lh (Sx.eats_ref last l4 _ _ HV.out)
    have HR5 := Lh hR5
    clear hR5 HV HT HR
    go_wp2_with fail
    refine (sIsSign g B l5 last _ _ T5.out.st.ps).mono ?_
    rw [show (⟨#[44]⟩ : ByteArray).data.toList = [44] from rfl]
    rintro e w6 ⟨rfl, hs, hf⟩
    have T6 := Lh (T5.out.step hf hs)
    have hlen : (if Sx.hit 3 [44] l5 = true then l5.tail else l5).length ≤ l5.length := by
     split
     ·simp
     ·exact Nat.le_refl _
    have Hlen := Lh hlen
    obtain ⟨l6, hl6⟩ : ∃ l6, l6 = (if Sx.hit 3 [44] l5 = true then l5.tail else l5) := ⟨_, rfl⟩
    rw [← hl6] at T6 Hlen
    have hR6 : R = if Sx.hit 3 [44] l5 = true then (Sx.refs last gk (rs ++ [s]) l6).bind (Rest nm cr) else Rest nm cr (rs ++ [s]) l6 := by
     rw [HR5.out, hl6]
     cases Sx.hit 3 [44] l5 <;> rfl
    obtain ⟨mo, hmo⟩ : ∃ mo, mo = Sx.hit 3 [44] l5 := ⟨_, rfl⟩
    have hlt6 : mo = true → l6.length + 1 ≤ l5.length := fun e => by
     rw [hmo] at e
     rw [hl6, if_pos e]
     have := Sx.hit_tail e
     omega
    rw [← hmo] at hR6 ⊢
    have HR6 := Lh hR6
    have Hlt6 := Lh hlt6
    clear hs hf hlen hl6 hR6 hmo hlt6 HR5 T5
    go_wp2_with fail
    go_roundg (gk - 1)
    case measure => have a := Hk.out; have b := t5.out; omega
    case rel =>
     have a := Hk.out; have b := t5.out
     have e1 : gk - 1 + 1 = gk := by omega
     exact ⟨mo, rs ++ [s], vN', vF', l6, rfl, Lh (by rw [e1]; exact HR6.out), Lh (by have h := T6.out; simpa using h), Lh (fun e => by have := Hlt6.out e; omega), Lh (by have := Hfew.out; have := Hlen.out; simp; omega), Lh (fun r hr => by
      rcases List.mem_append.1 hr with h1 | h1
      ·exact Hsl.out r h1
      ·obtain rfl : r = s := by simpa using h1
       exact Hsl5.out)⟩
  | false =>
   replace HR : Hid (R = Rest nm cr rs l4) := Lh (by have := HR.out; simpa using this)
   have hR5 := HR.out
   rw [HRest.out] at hR5
   replace HR := Lh hR5
   clear hR5 HRest Hk
   go_wp2_with fail
   refine (sIsWord g B l4 last _ _ HT.out.st.ps).mono ?_
   rw [show (⟨#[97, 116]⟩ : ByteArray).data.toList = Sx.wAt from rfl]
   rintro e w5 ⟨rfl, hs, hf⟩
   have T5 := HT.out.step hf hs
   cases hh : Sx.hit 1 Sx.wAt l4 with
   | true =>
    rw [hh, if_pos rfl] at T5
    have hR6 := HR.out
    simp only [hh, if_true] at hR6
    have HR6 := Lh hR6
    have T6 := Lh T5
    clear hs hf hh T5 HT hR6 HR
    go_wp2_with fail
    refine (sNumber g B l4.tail last 0 12 _ T6.out.st.ps).mono ?_
    intro e w6 he
    rcases he.split with ⟨p, x, hv, rfl, hf⟩ | ⟨gr, l6, v, hv, rfl, hV, hs, hf⟩
    ·exact ⟨rfl, SPar.of_bad (Sx.go_bad HR6.out hv) (T6.out.st.fr.trans hf)⟩
    unfold vInt at hV
    subst hV
    have HR := Lh (Sx.go_ok HR6.out hv)
    have T7 := T6.out.step hf hs
    have q2 := T7.st.blk.cell 2; have qf2 := T7.st.blk.free 2
    simp at q2
    have hp7 := T7.st.blk.lt
    have T := Lh (T7.setG (.int .i64 gr))
    clear hv hs hf he T6 T7 HR6
    go_wp2_with fail
    refine (sIsWord g B l6 last _ _ T.out.st.ps).mono ?_
    rw [show (⟨#[104, 111, 109, 101]⟩ : ByteArray).data.toList = Sx.wHome from rfl]
    rintro e w8 ⟨rfl, hs, hf⟩
    have T8 := T.out.step hf hs
    obtain ⟨hm, hhm⟩ : ∃ hm, hm = Sx.hit 1 Sx.wHome l6 := ⟨_, rfl⟩
    obtain ⟨l8, hl8⟩ : ∃ l8, l8 = (if Sx.hit 1 Sx.wHome l6 = true then l6.tail else l6) := ⟨_, rfl⟩
    have hR8 := HR.out
    rw [← hl8] at T8 hR8
    rw [← hhm] at hR8 ⊢
    have HR8 := Lh hR8
    have q3 := T8.st.blk.cell 3; have qf3 := T8.st.blk.free 3
    simp at q3
    have hp8 := T8.st.blk.lt
    have T9 := Lh (T8.setH (.bool hm))
    clear hs hf T T8 HR hR8 hl8 hhm
    go_wp2_with fail
    refine (sSign g B l8 last 59 _ T9.out.st.ps).mono ?_
    intro e w9 he
    rcases he.split with ⟨p, x, hv, rfl, hf⟩ | ⟨_, l9, v, hv, rfl, hV, hs, hf⟩
    ·exact ⟨rfl, SPar.of_bad (Sx.go_bad HR8.out hv) (T9.out.st.fr.trans hf)⟩
    unfold vUnit at hV
    subst hV
    have HR9 := Lh (Sx.go_ok HR8.out hv)
    have T10 := T9.out.step hf hs
    have hfew := Hfew.out
    obtain ⟨An, cn, Af, cf, eN, eF, rN, rF⟩ := T10.rows (by simp; omega) (by simp; omega) (fun x hx => by obtain ⟨r, hr, rfl⟩ := List.mem_map.1 hx; exact Hsl.out r hr)
    subst eN; subst eF
    have x0 := T10.st.blk.cell 0; have x1 := T10.st.blk.cell 1; have x2 := T10.st.blk.cell 2; have x3 := T10.st.blk.cell 3; have x4 := T10.st.blk.cell 4; have x5 := T10.st.blk.cell 5
    simp only [List.length_map] at x4 x5
    simp at x0 x1 x2 x3 x4 x5
    have y0 := T10.res.cell 0; have y1 := T10.res.cell 1; have y2 := T10.res.cell 2; have y3 := T10.res.cell 3; have y4 := T10.res.cell 4; have y5 := T10.res.cell 5
    simp at y0 y1 y2 y3 y4 y5
    have yf0 := T10.res.free 0; have yf1 := T10.res.free 1; have yf2 := T10.res.free 2; have yf3 := T10.res.free 3; have yf4 := T10.res.free 4; have yf5 := T10.res.free 5
    have hp9 := T10.st.blk.lt
    have hr9 := T10.res.lt
    have HT10 := Lh T10
    have HN := Lh rN; have HF := Lh rF
    clear hv hs hf he T9 T10 HR8 rN rF hfew q3 qf3 hp8
    go_wp2_with fail
    obtain ⟨V, hV⟩ : ∃ V, V = (((((w9.setCell ⟨w.heap.size, 0, none⟩ (.string (Lx.bs nm))).setCell ⟨w.heap.size, 1, none⟩ (.int .i64 cr)).setCell ⟨w.heap.size, 2, none⟩ (.int .i64 gr)).setCell ⟨w.heap.size, 3, none⟩ (.bool hm)).setCell ⟨w.heap.size, 4, none⟩ (.slice An rs.length cn)).setCell ⟨w.heap.size, 5, none⟩ (.slice Af rs.length cf) := ⟨_, rfl⟩
    have hL : LSt g B last l9 w.heap.size 108 #[.string (Lx.bs nm), .int .i64 cr, .int .i64 gr, .bool hm, .slice An rs.length cn, .slice Af rs.length cf] w V := by
     rw [hV]
     have := ((((((LSt.mk HT10.out.st.ps HT10.out.st.fr HT10.out.res (Nat.le_refl _) hlt).set 0 (.string (Lx.bs nm))).set 1 (.int .i64 cr)).set 2 (.int .i64 gr)).set 3 (.bool hm)).set 4 (.slice An rs.length cn)).set 5 (.slice Af rs.length cf)
     simpa using this
    have hVs : V.heap.size = w9.heap.size := by rw [hV]; simp [World.setCell]
    have hVb : ∀ b, b ≠ w.heap.size → V.heap[b]? = w9.heap[b]? := fun b h1 => by
     rw [hV, Below.heap_setCell _ _ _ b h1, Below.heap_setCell _ _ _ b h1, Below.heap_setCell _ _ _ b h1, Below.heap_setCell _ _ _ b h1, Below.heap_setCell _ _ _ b h1, Below.heap_setCell _ _ _ b h1]
    have hkeep : ∀ b, w2.heap.size < b ∧ b < w9.heap.size → (w.heap.size ≤ b ∧ b < V.heap.size) ∧ ∀ i, V.cell? ⟨b, i, none⟩ = w9.cell? ⟨b, i, none⟩ := fun b hb => ⟨⟨by omega, by rw [hVs]; exact hb.2⟩, fun i => World.cell?_of_block (a := ⟨b, i, none⟩) (hVb b (by omega))⟩
    have d0 := hL.blk.cell 0; have d1 := hL.blk.cell 1; have d2 := hL.blk.cell 2; have d3 := hL.blk.cell 3; have d4 := hL.blk.cell 4; have d5 := hL.blk.cell 5
    simp at d0 d1 d2 d3 d4 d5
    try simp only [Exit.inBlock, Exit.then]
    rw [← hV]
    clear hV
    exact bodyPost_ret (v := .agg #[.string (Lx.bs nm), .int .i64 cr, .int .i64 gr, .bool hm, .slice An rs.length cn, .slice Af rs.length cf]) (by simp [results, Tryz.results162, go_sem, d0, d1, d2, d3, d4, d5]) rfl (by rw [HR9.out]; exact ⟨_, rfl, ⟨[.string (Lx.bs nm), .int .i64 cr, .int .i64 gr, .bool hm, .slice An rs.length cn, .slice Af rs.length cf], rfl, An, cn, Af, cf, by simp [strV, intV], Hnl.out, HN.out.keep hkeep (fun _ _ _ h => h), HF.out.keep hkeep (fun _ _ _ h => h)⟩, hL.ps, hL.fr⟩)
   | false =>
    rw [hh, if_neg (by simp)] at T5
    have hR6 := HR.out
    simp only [hh, if_false, Bool.false_eq_true, Sx.ok_bind] at hR6
    obtain ⟨gr, hgr⟩ : ∃ gr : Int, gr = 1 := ⟨_, rfl⟩
    have HR' : Hid (R = (Sx.sign last 59 (if Sx.hit 1 Sx.wHome l4 = true then l4.tail else l4)).bind fun _ l' => .ok ⟨nm, cr, gr, Sx.hit 1 Sx.wHome l4, rs.map (·.1), rs.map (·.2)⟩ l') := Lh (by rw [hR6, hgr])
    have T : Hid (TakeM g B last w2.heap.size w.heap.size w nm cr (.int .i64 gr) (.bool false) vN vF vN vF (rs.map (·.1)) (rs.map (·.2)) none none l4 w5) := Lh (by rw [hgr]; exact T5)
    clear HR
    have HR := HR'
    clear HR' hgr
    obtain ⟨l6, hl6⟩ : ∃ l6, l6 = l4 := ⟨_, rfl⟩
    rw [← hl6] at HR T
    clear hs hf hh T5 HT hR6 hl6
    go_wp2_with fail
    refine (sIsWord g B l6 last _ _ T.out.st.ps).mono ?_
    rw [show (⟨#[104, 111, 109, 101]⟩ : ByteArray).data.toList = Sx.wHome from rfl]
    rintro e w8 ⟨rfl, hs, hf⟩
    have T8 := T.out.step hf hs
    obtain ⟨hm, hhm⟩ : ∃ hm, hm = Sx.hit 1 Sx.wHome l6 := ⟨_, rfl⟩
    obtain ⟨l8, hl8⟩ : ∃ l8, l8 = (if Sx.hit 1 Sx.wHome l6 = true then l6.tail else l6) := ⟨_, rfl⟩
    have hR8 := HR.out
    rw [← hl8] at T8 hR8
    rw [← hhm] at hR8 ⊢
    have HR8 := Lh hR8
    have q3 := T8.st.blk.cell 3; have qf3 := T8.st.blk.free 3
    simp at q3
    have hp8 := T8.st.blk.lt
    have T9 := Lh (T8.setH (.bool hm))
    clear hs hf T T8 HR hR8 hl8 hhm
    go_wp2_with fail
    refine (sSign g B l8 last 59 _ T9.out.st.ps).mono ?_
    intro e w9 he
    rcases he.split with ⟨p, x, hv, rfl, hf⟩ | ⟨_, l9, v, hv, rfl, hV, hs, hf⟩
    ·exact ⟨rfl, SPar.of_bad (Sx.go_bad HR8.out hv) (T9.out.st.fr.trans hf)⟩
    unfold vUnit at hV
    subst hV
    have HR9 := Lh (Sx.go_ok HR8.out hv)
    have T10 := T9.out.step hf hs
    have hfew := Hfew.out
    obtain ⟨An, cn, Af, cf, eN, eF, rN, rF⟩ := T10.rows (by simp; omega) (by simp; omega) (fun x hx => by obtain ⟨r, hr, rfl⟩ := List.mem_map.1 hx; exact Hsl.out r hr)
    subst eN; subst eF
    have x0 := T10.st.blk.cell 0; have x1 := T10.st.blk.cell 1; have x2 := T10.st.blk.cell 2; have x3 := T10.st.blk.cell 3; have x4 := T10.st.blk.cell 4; have x5 := T10.st.blk.cell 5
    simp only [List.length_map] at x4 x5
    simp at x0 x1 x2 x3 x4 x5
    have y0 := T10.res.cell 0; have y1 := T10.res.cell 1; have y2 := T10.res.cell 2; have y3 := T10.res.cell 3; have y4 := T10.res.cell 4; have y5 := T10.res.cell 5
    simp at y0 y1 y2 y3 y4 y5
    have yf0 := T10.res.free 0; have yf1 := T10.res.free 1; have yf2 := T10.res.free 2; have yf3 := T10.res.free 3; have yf4 := T10.res.free 4; have yf5 := T10.res.free 5
    have hp9 := T10.st.blk.lt
    have hr9 := T10.res.lt
    have HT10 := Lh T10
    have HN := Lh rN; have HF := Lh rF
    clear hv hs hf he T9 T10 HR8 rN rF hfew q3 qf3 hp8
    go_wp2_with fail
    obtain ⟨V, hV⟩ : ∃ V, V = (((((w9.setCell ⟨w.heap.size, 0, none⟩ (.string (Lx.bs nm))).setCell ⟨w.heap.size, 1, none⟩ (.int .i64 cr)).setCell ⟨w.heap.size, 2, none⟩ (.int .i64 gr)).setCell ⟨w.heap.size, 3, none⟩ (.bool hm)).setCell ⟨w.heap.size, 4, none⟩ (.slice An rs.length cn)).setCell ⟨w.heap.size, 5, none⟩ (.slice Af rs.length cf) := ⟨_, rfl⟩
    have hL : LSt g B last l9 w.heap.size 108 #[.string (Lx.bs nm), .int .i64 cr, .int .i64 gr, .bool hm, .slice An rs.length cn, .slice Af rs.length cf] w V := by
     rw [hV]
     have := ((((((LSt.mk HT10.out.st.ps HT10.out.st.fr HT10.out.res (Nat.le_refl _) hlt).set 0 (.string (Lx.bs nm))).set 1 (.int .i64 cr)).set 2 (.int .i64 gr)).set 3 (.bool hm)).set 4 (.slice An rs.length cn)).set 5 (.slice Af rs.length cf)
     simpa using this
    have hVs : V.heap.size = w9.heap.size := by rw [hV]; simp [World.setCell]
    have hVb : ∀ b, b ≠ w.heap.size → V.heap[b]? = w9.heap[b]? := fun b h1 => by
     rw [hV, Below.heap_setCell _ _ _ b h1, Below.heap_setCell _ _ _ b h1, Below.heap_setCell _ _ _ b h1, Below.heap_setCell _ _ _ b h1, Below.heap_setCell _ _ _ b h1, Below.heap_setCell _ _ _ b h1]
    have hkeep : ∀ b, w2.heap.size < b ∧ b < w9.heap.size → (w.heap.size ≤ b ∧ b < V.heap.size) ∧ ∀ i, V.cell? ⟨b, i, none⟩ = w9.cell? ⟨b, i, none⟩ := fun b hb => ⟨⟨by omega, by rw [hVs]; exact hb.2⟩, fun i => World.cell?_of_block (a := ⟨b, i, none⟩) (hVb b (by omega))⟩
    have d0 := hL.blk.cell 0; have d1 := hL.blk.cell 1; have d2 := hL.blk.cell 2; have d3 := hL.blk.cell 3; have d4 := hL.blk.cell 4; have d5 := hL.blk.cell 5
    simp at d0 d1 d2 d3 d4 d5
    try simp only [Exit.inBlock, Exit.then]
    rw [← hV]
    clear hV
    exact bodyPost_ret (v := .agg #[.string (Lx.bs nm), .int .i64 cr, .int .i64 gr, .bool hm, .slice An rs.length cn, .slice Af rs.length cf]) (by simp [results, Tryz.results162, go_sem, d0, d1, d2, d3, d4, d5]) rfl (by rw [HR9.out]; exact ⟨_, rfl, ⟨[.string (Lx.bs nm), .int .i64 cr, .int .i64 gr, .bool hm, .slice An rs.length cn, .slice Af rs.length cf], rfl, An, cn, Af, cf, by simp [strV, intV], Hnl.out, HN.out.keep hkeep (fun _ _ _ h => h), HF.out.keep hkeep (fun _ _ _ h => h)⟩, hL.ps, hL.fr⟩)
end Go.Proofs.YtjonaidancomgaaGreatDoor

namespace Go.Proofs.YtjonaidancomgaaGreatDoor
open Go.RowKit
theorem Tryz.infoRule : (Tryz.prog.info? 38).map (fun i => (i.zero, i.size, i.bytes)) = some (some (.agg #[.int .i64 0, .int .i64 0, .string ⟨#[]⟩, .int .i64 0, .int .i64 0, .slice none 0 0]), 6, 72) := by kernel_rfl
theorem Sx.R.assoc {α β γ : Type} (r : Sx.R α) (f : α → List Lx.Tok → Sx.R β) (h : β → List Lx.Tok → Sx.R γ) : (r.bind f).bind h = r.bind fun a s => (f a s).bind h := by cases r <;> rfl
theorem Sx.rule_beside {last : Int} {k b : Nat} {l l' : List Lx.Tok} {r : Sx.Rule} (h : Sx.rule last k b l = .ok r l') : b ≠ 200 := by
  rintro rfl
  cases k with
  | zero =>
    unfold Sx.rule at h
    cases ho : Sx.oneOf last Sx.ruleWords l with
    | ok a x => rw [ho] at h; simp [Sx.R.bind, Sx.fail] at h
    | bad p e => rw [ho] at h; cases h
  | succ k =>
    unfold Sx.rule at h
    cases ho : Sx.oneOf last Sx.ruleWords l with
    | ok a x => rw [ho] at h; simp [Sx.R.bind, Sx.fail] at h
    | bad p e => rw [ho] at h; cases h
section
variable {g B : Nat} {last : Int} {p : Nat} {op n : Int} {w0 : World} {ks : List Sx.Rule} {css : List (List Value)} {v : Value} {l : List Lx.Tok}
theorem KidI.next {gg cap lo : Nat} {r : Sx.Rule} {cs : List Value} {w5 w3 : World} (h : KidI g B last p op n w0 ks css v l w5) (hr : (∀ z, v.ownBlock = some z → z < lo) ∧ p < lo ∧ RuleAt w5 (fun b => lo ≤ b ∧ b < w5.heap.size) r cs) (ob : Obj)
    (hgrow : (w5.alloc ob).grownBy w3 v.ownBlock) (hat : v.ownBlock = some gg ∨ gg = w5.heap.size + 1) (hown : w3.ownsRow p 38 6 (.slice (some ⟨gg, 0, none⟩) (ks.length + 1) cap) (ks.length + 1) (css.flatten ++ cs)) :
    (w3.cell? ⟨p, 5, none⟩ = some v ∧ w3.frozen? ⟨p, 5, none⟩ = false) ∧ KidI g B last p op n w0 (ks ++ [r]) (css ++ [cs]) (.slice (some ⟨gg, 0, none⟩) (ks.length + 1) cap) l (w3.setCell ⟨p, 5, none⟩ (.slice (some ⟨gg, 0, none⟩) (ks.length + 1) cap)) :=
  h.grow hr.2.2 hr.2.1 hr.1 ((Below.refl _ _).alloc (Nat.le_refl _) ob) hgrow (hat.imp id (fun h => by omega)) hown
end

set_option maxRecDepth 20000 in
set_option maxHeartbeats 2000000 in
theorem sRule1 (N k kk : Nat) (ih : RuleC N kk) (hk : k = kk + 1) (hk16 : k ≤ 16) (g B : Nat) (l l1 : List Lx.Tok) (last : Int) (beside : Nat) (w : World) (h : PS g B last l w) (he : EnvS N w) (hN : N ≤ g) (hO : Sx.oneOf last Sx.ruleWords l = .ok 0 l1) (hbs : ((beside : Int) == 200) = false) :
    Calls Tryz.prog 45 #[.pointer (some ⟨g, 0, none⟩), .int .i64 (17 - (k : Int)), .int .i64 beside] w (SPar g B last w (vRule w.heap.size) (Sx.rule last k beside l)) := by
  have hR0 : Sx.rule last k beside l = (Sx.sign last 123 l1).bind fun _ l => (Sx.kids last (Sx.rule last kk) l.length.succ [] l).bind fun ks l => .ok (.mk 1 0 [] 0 0 ks) l := by
    subst hk
    rw [Sx.rule, hO, Sx.ok_bind, if_neg (by simp only [beq_eq_false_iff_ne] at hbs; omega)]
    first | rfl | (unfold Sx.ruleBody; rw [if_pos (by omega)])
  obtain ⟨R, hR⟩ : ∃ R, R = Sx.rule last k beside l := ⟨_, rfl⟩
  rw [← hR]
  rw [hR0] at hR
  have hlv : ¬ 16 < 17 - (k : Int) := by omega
  have hkk1 : (k : Int) ≤ kk + 1 := by omega
  have hkk2 : (kk : Int) + 1 ≤ k := by omega
  have Hih := Lh ih
  have hlv3 : (((1:Int) == 4) = false) := by decide
  clear hR0 hk ih
  have hlt := h.lt
  obtain ⟨⟨A, c, hb, hT, hcap⟩, hB⟩ := h
  have c0 := hb.cell 0; have c1 := hb.cell 1
  simp at c0 c1
  have hps : PS g B last l w := ⟨⟨A, c, hb, hT, hcap⟩, hB⟩
  obtain ⟨n, hn⟩ : ∃ n, n = l.length := ⟨_, rfl⟩
  rw [← hn] at c0
  have hb1 : Below w.heap.size w (w.alloc (.cells #[.int .i64 0, .int .i64 0, .string ⟨#[]⟩, .int .i64 0, .int .i64 0, .slice none 0 0] 38)) := (Below.refl _ _).alloc (Nat.le_refl _) _
  have hb2 : Below w.heap.size w ((w.alloc (.cells #[.int .i64 0, .int .i64 0, .string ⟨#[]⟩, .int .i64 0, .int .i64 0, .slice none 0 0] 38)).alloc (.cells #[.slice A n c, .int .i64 last] 143)) := hb1.alloc (by simp) _
  have L : Hid (RSt g B last l w.heap.size #[.int .i64 0, .int .i64 0, .string ⟨#[]⟩, .int .i64 0, .int .i64 0, .slice none 0 0] w ((w.alloc (.cells #[.int .i64 0, .int .i64 0, .string ⟨#[]⟩, .int .i64 0, .int .i64 0, .slice none 0 0] 38)).alloc (.cells #[.slice A n c, .int .i64 last] 143))) := Lh ⟨hps.next hb2, FrG.below hb2 hlt, (Blk.new w _ _).alloc _, Nat.le_refl _, hlt⟩
  have Xb : Hid (Blk ((w.alloc (.cells #[.int .i64 0, .int .i64 0, .string ⟨#[]⟩, .int .i64 0, .int .i64 0, .slice none 0 0] 38)).alloc (.cells #[.slice A n c, .int .i64 last] 143)) (w.heap.size + 1) 143 #[.slice A n c, .int .i64 last]) := Lh (Blk.new_at _ _ (by simp))
  obtain ⟨bw, ow, cw, hg, hgN, hw⟩ := (he.keep (hb2.mono he.size)).rule
  have hNw := he.size
  have hgw : 3 < w.heap.size := by omega
  have hg0 : w.cell? ⟨3, 0, none⟩ = some (.slice (some ⟨bw, ow, none⟩) 9 cw) := (hb2.cell (p := ⟨3, 0, none⟩) hgw).symm.trans hg
  have HO := Lh hO; have HW := Lh hw; have HE := Lh he; have HR := Lh hR; have HT := Lh hT; have Hn := Lh hn
  have Hone := Lh (fun (W : World) (hW : PS g B last l W) (hww : WordsAt W N bw ow Sx.ruleWords) => sOneOf g B N bw ow cw Sx.ruleWords l last W hW hww hN (by decide))
  rw [show Sx.ruleWords.length = 9 from rfl] at Hone
  clear hO hR hb hT hn hb1 hb2 hps hw he hg
  obtain ⟨i0, hi0, hz0, hz1, hz2⟩ := info_parts Tryz.infoRule
  go_enter Tryz.func45, Tryz.ntmps45
  go_wp2_with fail
  refine (Hone.out _ L.out.ps HW.out).mono ?_
  intro e w1 he
  rcases he.split with ⟨p, x, hv, rfl, hf⟩ | ⟨i1, l1, v, hv, rfl, hV, hs, hf⟩
  · rw [HO.out] at hv; cases hv
  rw [HO.out] at hv
  injection hv with h1 h2
  subst h1; subst h2
  unfold vInt at hV
  subst hV
  clear he
  have hs1 := hf.bel.size
  have hp0 : w.heap.size < w1.heap.size := by have := L.out.blk.lt; omega
  have L1 := L.out.step hf hs
  have E1 := Lh ((HE.out).fr L1.fr hN)
  have z0 := L1.blk.cell 0; have zf0 := L1.blk.free 0
  simp at z0
  have M : Hid (RSt g B last l1 w.heap.size #[.int .i64 1, .int .i64 0, .string ⟨#[]⟩, .int .i64 0, .int .i64 0, .slice none 0 0] w (w1.setCell ⟨w.heap.size, 0, none⟩ (.int .i64 1))) := Lh (L1.set 0 (.int .i64 1))
  have EM := Lh (E1.out.keep (N := N) (Below.setCell (Below.refl N w1) (show N ≤ (⟨w.heap.size, 0, none⟩ : Addr).block from (by show N ≤ w.heap.size; omega)) (.int .i64 1)))
  clear hf hs L1 L Xb Hone HW HT c0 c1
  go_wp2_with fail
  replace HR : Hid (R = (Sx.sign last 123 l1).bind fun _ l => (Sx.kids last (Sx.rule last kk) l.length.succ [] l).bind fun ks l => .ok (.mk 1 0 [] 0 0 ks) l) := HR
  refine (sSign g B l1 last 123 _ M.out.ps).mono ?_
  intro e w2 he
  rcases he.split with ⟨p, x, hv, rfl, hf⟩ | ⟨u, l2, v, hv, rfl, hV, hs, hf⟩
  · exact ⟨rfl, SPar.of_bad (Sx.go_bad HR.out hv) (M.out.fr.trans hf)⟩
  unfold vUnit at hV
  subst hV
  replace HR := Lh (Sx.go_ok HR.out hv)
  have M2 := M.out.step hf hs
  have K0 := Lh (KidI.start M2)
  clear hv hs hf he M2 M
  go_wp2_with fail
  go_loopg [] l2.length (fun gk wr => ∃ ks css v l3, Hid (R = (Sx.kids last (Sx.rule last kk) (gk + 1) ks l3).bind fun ks l => .ok (.mk 1 0 [] 0 0 ks) l) ∧ Hid (KidI g B last w.heap.size 1 0 w ks css v l3 wr) ∧ Hid (l3.length ≤ gk) ∧ Hid (ks.length ≤ 200))
  case atStart => exact ⟨[], [], .slice none 0 0, l2, HR, K0, Lh (Nat.le_refl _), Lh (by simp)⟩
  case round =>
    clear HR K0
    obtain ⟨ks, css, v, l3, HR, HK, Hk, H200⟩ := hrel
    go_wp2_with fail
    refine (sIsSign g B l3 last _ _ HK.out.st.ps).mono ?_
    rw [show (⟨#[125]⟩ : ByteArray).data.toList = [125] from rfl]
    rintro e w4 ⟨he, hs4, hf4⟩
    cases hh : Sx.hit 3 [125] l3 with
    | true =>
      rw [hh] at he hs4
      replace HR : Hid (R = .ok (.mk 1 0 [] 0 0 ks) l3.tail) := Lh (by rw [HR.out, Sx.kids, hh]; rfl)
      have hK4 := HK.out.step hf4 hs4
      subst he
      have hL := hK4.st
      have hout := Lh (hK4.out H200.out)
      have q0 := hL.blk.cell 0; have qf0 := hL.blk.free 0
      have q1 := hL.blk.cell 1; have qf1 := hL.blk.free 1
      have q2 := hL.blk.cell 2; have qf2 := hL.blk.free 2
      have q3 := hL.blk.cell 3; have qf3 := hL.blk.free 3
      have q4 := hL.blk.cell 4; have qf4 := hL.blk.free 4
      have q5 := hL.blk.cell 5; have qf5 := hL.blk.free 5
      simp at q0 q1 q2 q3 q4 q5
      obtain ⟨Av, nv, cv, hv⟩ : ∃ Av nv cv, v = .slice Av nv cv := by
        rcases hK4.own.2 with ⟨e, -⟩ | ⟨z, cap, cur, e, -⟩
        · exact ⟨_, _, _, e⟩
        · exact ⟨_, _, _, e⟩
      have HL := Lh hL
      subst hv
      have hwl := hL.blk.lt
      clear hh hs4 hf4 HK hK4 hL
      go_wp2_with fail
      obtain ⟨V, hV⟩ : ∃ V, V = ((((((w4.setCell ⟨w.heap.size, 0, none⟩ (.int .i64 1)).setCell ⟨w.heap.size, 1, none⟩ (.int .i64 0)).setCell ⟨w.heap.size, 2, none⟩ (.string ⟨#[]⟩)).setCell ⟨w.heap.size, 3, none⟩ (.int .i64 0)).setCell ⟨w.heap.size, 4, none⟩ (.int .i64 0)).setCell ⟨w.heap.size, 5, none⟩ (.slice Av nv cv)) := ⟨_, rfl⟩
      have hLV : RSt g B last l3.tail w.heap.size #[.int .i64 1, .int .i64 0, .string ⟨#[]⟩, .int .i64 0, .int .i64 0, .slice Av nv cv] w V := by
        rw [hV]
        have := (((((HL.out.set 0 (.int .i64 1)).set 1 (.int .i64 0)).set 2 (.string ⟨#[]⟩)).set 3 (.int .i64 0)).set 4 (.int .i64 0)).set 5 (.slice Av nv cv)
        simpa using this
      have d0 := hLV.blk.cell 0; have d1 := hLV.blk.cell 1; have d2 := hLV.blk.cell 2; have d3 := hLV.blk.cell 3; have d4 := hLV.blk.cell 4; have d5 := hLV.blk.cell 5
      simp at d0 d1 d2 d3 d4 d5
      have hVs : V.heap.size = w4.heap.size := by rw [hV]; simp [World.setCell]
      have hVb : ∀ b, b ≠ w.heap.size → V.heap[b]? = w4.heap[b]? := fun b h1 => by
        rw [hV, Below.heap_setCell _ _ _ b h1, Below.heap_setCell _ _ _ b h1, Below.heap_setCell _ _ _ b h1, Below.heap_setCell _ _ _ b h1, Below.heap_setCell _ _ _ b h1, Below.heap_setCell _ _ _ b h1]
      rw [← hV]
      clear hV
      exact bodyPost_ret (v := .agg #[.int .i64 1, .int .i64 0, .string ⟨#[]⟩, .int .i64 0, .int .i64 0, .slice Av nv cv]) (by simp [results, Tryz.results45, go_sem, d0, d1, d2, d3, d4, d5]) rfl (by rw [HR.out]; exact ⟨_, rfl, ⟨_, rfl, RuleAt.keep (fun b hb => ⟨⟨by have := hb.1; omega, by rw [hVs]; exact hb.2⟩, fun i => World.cell?_of_block (a := ⟨b, i, none⟩) (hVb b (by have := hb.1; omega))⟩) _ _ hout.out⟩, hLV.ps, hLV.fr⟩)
    | false =>
      rw [hh] at he hs4
      replace HR : Hid (R = (Sx.rule last kk ks.length l3).bind fun r l => (Sx.sign last 59 l).bind fun _ l => (Sx.kids last (Sx.rule last kk) gk (ks ++ [r]) l).bind fun ks l => .ok (.mk 1 0 [] 0 0 ks) l) := Lh (by rw [HR.out, Sx.kids, hh, if_neg (by simp), Sx.R.assoc]; congr 1; funext r l; rw [Sx.R.assoc])
      have hK4 := HK.out.step hf4 (show PS g B last l3 w4 from hs4)
      obtain ⟨Av, cv, hv⟩ : ∃ Av cv, v = .slice Av ks.length cv := by
        rcases hK4.own.2 with ⟨e, e0⟩ | ⟨z, cap, cur, e, -⟩
        · exact ⟨_, _, by rw [e, e0]⟩
        · exact ⟨_, _, e⟩
      subst hv; subst he
      have hKd := hK4.step (FrG.below (bel_drewN (Below.refl _ _) 1) (by have := hK4.st.fr.bel.size; omega)) (hK4.st.ps.next (bel_drewN (Below.refl _ _) 1))
      have c5 := hK4.st.blk.cell 5; have cf5 := hK4.st.blk.free 5
      simp at c5
      have hp4 := hK4.st.blk.lt
      have HKd := Lh hKd
      have HEd := Lh (HE.out.fr hKd.st.fr hN)
      have e0 : IntKind.i64.wrap (17 - (k : Int) + 1) = 17 - (kk : Int) := by rw [show 17 - (k : Int) + 1 = 17 - (kk : Int) by omega]; exact IntWalk.i64_in _ (by omega)
      have Hrule := Lh (fun (W : World) (hW : PS g B last l3 W) (hE : EnvS N W) => Hih.out g B l3 last ks.length W hW hE hN H200.out)
      rw [← e0] at Hrule
      clear hh hs4 hf4 HK hK4 hKd e0
      go_wp2_with fail
      go_region_law (first
        | (refine step_append_lies _ rfl _ _ _ rfl w.heap.size 38 i0 _ 6 72 Tryz.underlying36 hi0 hz0 hz1 hz2 rfl (by omega) (.slice Av ks.length cv) ks.length _ rfl (HK5.out.own.alloc _) ⟨w5.heap.size, 0, none⟩ 1 1 [.int .i64 opk, .int .i64 cok, .string (Lx.bs nmk), .int .i64 nk, .int .i64 dk, .slice Ak ksk.length ck] rfl rfl (World.news_of_block (cs := #[.int .i64 opk, .int .i64 cok, .string (Lx.bs nmk), .int .i64 nk, .int .i64 dk, .slice Ak ksk.length ck]) (t := 38) (fr := (0, 0)) (heap_alloc_new w5 _)) (by simp [Value.oneCell']) (by omega) (by unfold maxLen; have := H200.out; omega) (by have := H200.out; omega) (by simp; omega) (w5.heap.size + 1) (by simp) ?_; intro gg cap w3 hown3 hgrow3 hat3 hlt3; have hQ := HK5.out.next HRA.out _ hgrow3 hat3 hown3; have d5 := hQ.1.1; have df5 := hQ.1.2; have HP := Lh hQ.2; clear hQ hown3 hgrow3 hat3)
        | (go_simp; go_at_call 45; refine (Hrule.out _ HKd.out.st.ps HEd.out).mono ?_; intro e w5 he; rcases he.split with ⟨p, x, hv, rfl, hf⟩ | ⟨m, l5, v5, hv, rfl, hV, hs, hf⟩; (exact ⟨rfl, SPar.of_bad (Sx.go_bad HR.out hv) (HKd.out.st.fr.trans hf)⟩); obtain ⟨cs5, hV, hra⟩ := hV; obtain ⟨opk, cok, nmk, nk, dk, ksk⟩ := m; have hra0 := hra; rw [RuleAt] at hra; obtain ⟨Ak, ck, rfl, -, -, -⟩ := hra; unfold intV strV at hV; subst hV; have hb200 := Sx.rule_beside hv; have heat := Sx.eats_rule last kk ks.length l3 _ _ hv; have HR5 := Lh (Sx.go_ok HR.out hv); have hK5 := HKd.out.step hf hs; have e5 := hK5.st.blk.cell 5; have ef5 := hK5.st.blk.free 5; simp at e5; have hp5 := hK5.st.blk.lt; have HK5 := Lh hK5; have HRA : Hid ((∀ z, (Value.slice Av ks.length cv).ownBlock = some z → z < w4.drew.heap.size) ∧ w.heap.size < w4.drew.heap.size ∧ RuleAt w5 (fun b => w4.drew.heap.size ≤ b ∧ b < w5.heap.size) (.mk opk cok nmk nk dk ksk) [.int .i64 opk, .int .i64 cok, .string (Lx.bs nmk), .int .i64 nk, .int .i64 dk, .slice Ak ksk.length ck]) := Lh ⟨fun z hz => own_lt HKd.out.own hz, HKd.out.st.blk.lt, hra0⟩; clear hv hs hf he hra0 hK5))
      all_goals (try go_wp2_with fail)
      all_goals refine (sSign g B l5 last 59 _ HP.out.st.ps).mono ?_
      all_goals intro e w6 he
      all_goals rcases he.split with ⟨p, x, hv, rfl, hf⟩ | ⟨u, l6, v6, hv, rfl, hV, hs, hf⟩
      all_goals first
        | exact ⟨rfl, SPar.of_bad (Sx.go_bad HR5.out hv) (HP.out.st.fr.trans hf)⟩
        | (unfold vUnit at hV
           subst hV
           have heat6 := Sx.eats_need last _ _ _ _ _ hv
           have HR6 := Lh (Sx.go_ok HR5.out hv)
           have HP6 := Lh (HP.out.step hf hs)
           clear hv hs hf he HP HR5
           go_wp2_with fail
           go_roundg (gk - 1)
           all_goals first
             | (have hk1 := Hk.out; omega)
             | (have hk1 := Hk.out
                have h2001 := H200.out
                exact ⟨_, _, _, l6, Lh (by rw [show gk - 1 + 1 = gk by omega]; exact HR6.out), Lh HP6.out, Lh (by omega), Lh (by simp; omega)⟩))

end Go.Proofs.YtjonaidancomgaaGreatDoor
