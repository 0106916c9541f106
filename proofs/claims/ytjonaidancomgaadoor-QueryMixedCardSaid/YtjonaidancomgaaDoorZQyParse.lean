/- Parts of the proof, joined into one text: QyParse, QyMxA. -/
import Derived.Test.YtjonaidancomgaaDoorZQyAtom
import Derived.Test.YtjonaidancomgaaDoorZQyAgain
import Derived.Deep.AppendLies
import Derived.Deep.Cut
import Derived.Deep.CutRange
import Derived.Deep.LoopGhost
import Derived.Test.YtjonaidancomgaaDoorZQyVarB
import Derived.Test.YtjonaidancomgaaDoorZQyMixA

namespace Go.Proofs.YtjonaidancomgaaDoor
open Go.RowKit Go.Maps Go.WideMaps

theorem Tryd.infoIntP : (Tryd.prog.info? 3).map (fun i => (i.zero, i.size, i.bytes)) = some (some (.int .i64 0), 1, 8) := by kernel_rfl

/-- Either way of a step. -/
theorem Par.split {α : Type} {g B mb : Nat} {last : Int} {w w' : World} {val : α → Value} {r : Qy.R α} {e : Ending} (h : Par g B mb last w val r e w') :
    (∃ p x, r = .bad p x ∧ e = .panicked [{ v := .iface 70 (.agg #[.int .i64 p, .int .i64 x]), recovered := false }] ∧ Fr g w w') ∨ (∃ a s, r = .ok a s ∧ e = .returned (val a) ∧ PSt g B mb last s w' ∧ Fr g w w') := by
  cases r with
  | bad p x => exact .inl ⟨p, x, rfl, h.1, h.2⟩
  | ok a s => exact .inr ⟨a, s, rfl, h.1, h.2.1, h.2.2⟩

/-- What is known when the one shown is to be appended. -/
theorem show_next {g B mb : Nat} {last n : Int} {s s2 : Qy.St} {w w2 : World} {vS : Value} (h5 : w.cell? ⟨g, 5, none⟩ = some vS) (h5' : w2.cell? ⟨g, 5, none⟩ = w.cell? ⟨g, 5, none⟩) (hv : Qy.variable_ last true s = .ok n s2) (hs2 : PSt g B mb last s2 w2) :
    w2.cell? ⟨g, 5, none⟩ = some vS ∧ w2.frozen? ⟨g, 5, none⟩ = false ∧ g < w2.heap.size ∧ w2.ownsRow g 3 1 vS s2.shown.length (s2.shown.flatMap intC) ∧ Qy.showOne last s = .ok () { s2 with shown := s2.shown ++ [n] } ∧
    ∀ ob (w3 : World) gg cap, ((w2.alloc ob).grownBy w3 vS.ownBlock) → (vS.ownBlock = some gg ∨ gg = w2.heap.size + 1) → w3.ownsRow g 3 1 (.slice (some ⟨gg, 0, none⟩) (s2.shown.length + 1) cap) (s2.shown.length + 1) (s2.shown.flatMap intC ++ [.int .i64 n]) →
      (w3.cell? ⟨g, 5, none⟩ = some vS ∧ w3.frozen? ⟨g, 5, none⟩ = false) ∧ PSt g B mb last { s2 with shown := s2.shown ++ [n] } (w3.setCell ⟨g, 5, none⟩ (.slice (some ⟨gg, 0, none⟩) (s2.shown.length + 1) cap)) ∧ Fr g w2 (w3.setCell ⟨g, 5, none⟩ (.slice (some ⟨gg, 0, none⟩) (s2.shown.length + 1) cap)) := by
  have hlt := hs2.lt
  obtain ⟨⟨A, c, vN, vS', vA, vT, hb, hT, hcap, ho⟩, hk, hm, hB, hf, htx⟩ := hs2
  have e5 := hb.cell 5
  rw [h5', h5] at e5
  have : vS = vS' := by simpa using e5
  subst this
  refine ⟨h5'.trans h5, hb.free 5, hlt, ho.s, by unfold Qy.showOne; rw [hv]; rfl, fun ob w3 gg cap hgrow hat hown => ?_⟩
  obtain ⟨q1, q2, q3⟩ := pst_show (x := n) hb hT hcap ho hk hm hB hf htx ((Below.refl _ _).alloc (Nat.le_refl _) ob) hgrow (hat.imp id (fun h => by omega)) hown
  exact ⟨⟨by rw [q1.cell 5]; rfl, q1.free 5⟩, q2, q3⟩

/-- What comes behind the names that are shown. -/
def Qy.rest2 (last : Int) (s : Qy.St) : Qy.R Unit := (Qy.signT last 59 s).bind fun _ s => match s.toks with | [] => .ok () s | _ :: _ => Qy.fail last s 500
def Qy.rest1 (last : Int) (s : Qy.St) : Qy.R Unit := (Qy.word last Qy.wWhere s).bind fun _ s => (Qy.conds last (s.toks.length + 1) s).bind fun _ s => Qy.rest2 last s
theorem Qy.bind_bind {α β γ : Type} (r : Qy.R α) (f : α → Qy.St → Qy.R β) (h : β → Qy.St → Qy.R γ) : (r.bind f).bind h = r.bind fun a s => (f a s).bind h := by cases r <;> rfl
theorem Qy.shows_no {last : Int} {s : Qy.St} (k : Nat) (h : Qy.hit 3 [44] s.toks = false) : Qy.shows last k s = .ok () s := by
  cases k with
  | zero => rfl
  | succ k => unfold Qy.shows; rw [Qy.skip_eq, h]; rfl
theorem Qy.shows_yes {last : Int} {s : Qy.St} (k : Nat) (h : Qy.hit 3 [44] s.toks = true) : Qy.shows last (k + 1) s = (Qy.showOne last { s with toks := s.toks.tail }).bind fun _ s => Qy.shows last k s := by
  conv => lhs; unfold Qy.shows
  rw [Qy.skip_eq, h]; rfl
theorem Qy.hit_len {k : Int} {x : List UInt8} {l : List Lx.Tok} (h : Qy.hit k x l = true) : l.tail.length + 1 = l.length := by
  cases l with
  | nil => cases h
  | cons t r => simp
theorem Qy.after_no {last : Int} {k : Nat} {s : Qy.St} (h : Qy.hit 3 [44] s.toks = false) : Qy.after last k s = .ok () s := by
  unfold Qy.after; rw [Qy.skip_eq, h]; rfl
theorem Qy.after_full {last : Int} {k : Nat} {s : Qy.St} (h : Qy.hit 3 [44] s.toks = true) (h16 : s.atoms.length + s.tests.length = 16) : Qy.after last k s = .bad (Qy.front last s.toks) 2 := by
  unfold Qy.after; rw [Qy.skip_eq, h]; simp only; rw [if_pos h16]; rfl
theorem Qy.after_yes {last : Int} {k : Nat} {s : Qy.St} (h : Qy.hit 3 [44] s.toks = true) (h16 : ¬ s.atoms.length + s.tests.length = 16) : Qy.after last k s = Qy.conds last k { s with toks := s.toks.tail } := by
  unfold Qy.after; rw [Qy.skip_eq, h]; simp only; rw [if_neg h16]; rfl
theorem Fr.of_below {g : Nat} {w w' : World} (hb : Below w.heap.size w w') (hg : g < w.heap.size) : Fr g w w' :=
  ⟨hb.mono (by omega), fun k hk _ _ => hb.block k hk, fun _ _ ⟨i, v, hi, hc, hv⟩ => ⟨i, v, hi, by rw [← hc]; exact (hb.cell (p := ⟨g, i, none⟩) hg).symm, hv⟩⟩
theorem PSt.five {g B mb : Nat} {last : Int} {s : Qy.St} {w : World} (h : PSt g B mb last s w) : ∃ vS, w.cell? ⟨g, 5, none⟩ = some vS := by
  obtain ⟨A, c, vN, vS, vA, vT, hb, _⟩ := h.st
  exact ⟨vS, by rw [hb.cell 5]; rfl⟩

set_option maxRecDepth 20000 in
set_option maxHeartbeats 4000000 in
theorem lParse (g B mb : Nat) (last : Int) (s : Qy.St) (w : World) (h : PSt g B mb last s w) (hI : Qy.Inv s) (h0 : Qy.total s = 0) :
    Calls Tryd.prog 25 #[.pointer (some ⟨g, 0, none⟩)] w (Par g B mb last w uV (Qy.parseT last s)) := by
  obtain ⟨i0, hi0, hz0, hz1, hz2⟩ := info_parts Tryd.infoIntP
  obtain ⟨R, HR⟩ : ∃ R, Hid (R = Qy.parseT last s) := ⟨_, Lib.hid rfl⟩
  rw [← HR.out]
  have H := Lib.hid h; have HI := Lib.hid hI; have H0 := Lib.hid h0
  clear h hI h0
  go_enter Tryd.func25, Tryd.ntmps25
  go_wp2_with fail
  refine (lWordShow g B mb last s _ H.out).mono ?_
  intro e w1 he
  cases hv : Qy.word last Qy.wShow s with
  | bad x1 x2 =>
    rw [hv] at he
    have hR2 := Qy.go_bad HR.out hv
    obtain ⟨he, hfr⟩ := he
    unfold FailAt at he
    subst he
    exact ⟨rfl, by rw [hR2]; exact ⟨rfl, hfr⟩⟩
  | ok u s1 =>
    rw [hv] at he
    replace HR := Lib.hid (Qy.go_ok HR.out hv)
    obtain ⟨he, hs2, hfr⟩ := he
    unfold uV at he
    subst he
    have hInv := Qy.need_inv last HI.out hv
    replace HI := Lib.hid hInv.1
    replace H0 : Hid (Qy.total s1 = 0) := Lib.hid (hInv.2.1.trans H0.out)
    have HS := Lib.hid hs2
    have Hfr := Lib.hid hfr
    have hlt := hs2.lt
    obtain ⟨vS, c5⟩ := hs2.five
    have hfits := HI.out.fits
    have hfew := HI.out.nm.few
    have Hvar := Lib.hid (fun W hW => lVariable5 g B mb last true s1 W hW)
    clear hv hs2 hfr hInv H
    go_wp2_with fail
    go_cut [0] from 7 to 19 (fun v0 wx => v0 = .pointer (some ⟨g, 0, none⟩) ∧ ∃ s2, Hid (Qy.showOne last s1 = .ok () s2) ∧ Hid (PSt g B mb last s2 wx) ∧ Hid (Fr g w wx))
    case first =>
      go_region_law (first
        | (refine step_append_lies _ rfl _ _ _ rfl g 3 i0 _ 1 8 Tryd.underlying23 hi0 hz0 hz1 hz2 rfl (by omega) vS s2.shown.length _ rfl (HNx.out.2.2.2.1.alloc _) ⟨w2.heap.size, 0, none⟩ 1 1 [.int .i64 n] rfl rfl (World.news_of_block (cs := #[.int .i64 n]) (t := 3) (fr := (0, 0)) (heap_alloc_new w2 _)) (by simp [Value.oneCell']) (by omega) (by unfold maxLen; omega) (by omega) (by simp; omega) (w2.heap.size + 1) (by simp) ?_; intro gg cap w3 hown3 hgrow3 hat3 hlt3; have hQ := HNx.out.2.2.2.2.2 _ w3 gg cap hgrow3 hat3 hown3; have d5 := hQ.1.1; have df5 := hQ.1.2; have HP := Lib.hid hQ.2; clear hQ hown3 hgrow3 hat3)
        | (go_simp; go_at_call 43; refine (Hvar.out _ (HS.out.drewN 1)).mono ?_; rintro e w2 ⟨he, h5'⟩; rcases he.split with ⟨p, x, hv, rfl, hfr⟩ | ⟨n, s2, hv, rfl, hs2, hfr⟩; (exact ⟨rfl, by rw [Qy.go_bad HR.out (show Qy.showOne last s1 = .bad p x by unfold Qy.showOne; rw [hv]; rfl)]; exact ⟨rfl, Hfr.out.trans (Fr.draw (n := 1) hfr)⟩⟩); have hfs : s2.shown.length ≤ 8 := (by rw [(Qy.var_grow last HI.out.nm hv).1.shown]; omega); have hNx := show_next (w := w1) c5 h5' hv hs2; have z5 := hNx.1; have zf5 := hNx.2.1; have zlt := hNx.2.2.1; have HNx := Lib.hid hNx; have Hfr2 := Lib.hid (Fr.draw (n := 1) hfr); clear hv hs2 hfr hNx h5'; unfold iV))
      all_goals (try go_wp2_with fail)
      all_goals go_meet
      all_goals exact ⟨rfl, _, Lib.hid HNx.out.2.2.2.2.1, Lib.hid HP.out.1, Lib.hid ((Hfr.out.trans Hfr2.out).trans HP.out.2)⟩
    case rest =>
      obtain ⟨rfl, s2, hsh, hs2, hfr⟩ := hcut
      have hInv := Qy.showOne_inv last HI.out hsh.out
      replace HI := Lib.hid hInv.1
      replace H0 : Hid (Qy.total s2 = 0) := Lib.hid (hInv.2.1.trans H0.out)
      replace HR : Hid (R = (Qy.shows last s2.toks.length s2).bind fun _ s => Qy.rest1 last s) := Lib.hid (Qy.go_ok HR.out hsh.out)
      clear hInv hfits hfew Hvar c5 Hfr HS hsh
      go_wp2_with fail
      go_loopg [] s2.toks.length (fun k wr => ∃ s3, Hid (R = (Qy.shows last k s3).bind fun _ s => Qy.rest1 last s) ∧ Hid (PSt g B mb last s3 wr) ∧ Hid (Fr g w wr) ∧ Hid (Qy.Inv s3) ∧ Hid (Qy.total s3 = 0) ∧ Hid (s3.toks.length ≤ k))
      case atStart => exact ⟨s2, HR, hs2, hfr, HI, H0, Lib.hid (Nat.le_refl _)⟩
      case round =>
        clear HR hs2 hfr HI H0 hlt
        obtain ⟨s3, HR, HS, Hfr, HI, H0, Hk⟩ := hrel
        go_wp2_with fail
        refine (lSkipC g B mb last 44 s3 _ HS.out).mono ?_
        rintro e w4 ⟨he, hs4, hfr4⟩
        rw [Qy.skip_eq] at he hs4
        cases hh : Qy.hit 3 [44] s3.toks
        · rw [hh] at he hs4
          replace HR : Hid (R = Qy.rest1 last s3) := Lib.hid (HR.out.trans (by rw [Qy.shows_no gk hh]; rfl))
          replace HS : Hid (PSt g B mb last s3 w4) := Lib.hid hs4
          replace Hfr : Hid (Fr g w w4) := Lib.hid (Hfr.out.trans hfr4)
          subst he
          clear hh hs4 hfr4
          go_wp2_with fail
          refine (lWordWhere g B mb last s3 _ HS.out).mono ?_
          intro e w5 he
          cases hv : Qy.word last Qy.wWhere s3 with
          | bad x1 x2 =>
            rw [hv] at he
            have hR2 : R = .bad x1 x2 := Qy.go_bad HR.out hv
            obtain ⟨he, hfr⟩ := he
            unfold FailAt at he
            subst he
            exact ⟨rfl, by rw [hR2]; exact ⟨rfl, Hfr.out.trans hfr⟩⟩
          | ok u s5 =>
            rw [hv] at he
            replace HR : Hid (R = (Qy.conds last (s5.toks.length + 1) s5).bind fun _ s => Qy.rest2 last s) := Lib.hid (Qy.go_ok HR.out hv)
            obtain ⟨he, hs5, hfr⟩ := he
            unfold uV at he
            subst he
            have hInv := Qy.need_inv last HI.out hv
            replace HI : Hid (Qy.Inv s5) := Lib.hid hInv.1
            replace H0 : Hid (Qy.total s5 < 16) := Lib.hid (by have := hInv.2.1; have := H0.out; omega)
            replace HS := Lib.hid hs5
            replace Hfr := Lib.hid (Hfr.out.trans hfr)
            clear hv hs5 hfr hInv Hk
            go_wp2_with fail
            go_loopg [] s5.toks.length (fun k wr => ∃ s6, Hid (R = (Qy.conds last (k + 1) s6).bind fun _ s => Qy.rest2 last s) ∧ Hid (PSt g B mb last s6 wr) ∧ Hid (Fr g w wr) ∧ Hid (Qy.Inv s6) ∧ Hid (Qy.total s6 < 16) ∧ Hid (s6.toks.length ≤ k))
            case atStart => exact ⟨s5, HR, HS, Hfr, HI, H0, Lib.hid (Nat.le_refl _)⟩
            case round =>
              clear HR HS Hfr HI H0
              obtain ⟨s6, HR, HS, Hfr, HI, H0, Hk⟩ := hrel
              go_wp2_with fail
              refine (lKind g B mb last s6 _ HS.out).mono ?_
              rintro e w6 ⟨rfl, hs7, hfr7⟩
              replace Hfr := Lib.hid (Hfr.out.trans hfr7)
              replace HS := Lib.hid hs7
              have hki := Qy.kind_inv HI.out
              replace HR : Hid (R = (Qy.cond last s6).bind fun _ s => (Qy.after last gk s).bind fun _ s => Qy.rest2 last s) := Lib.hid (by rw [HR.out, Qy.conds_succ, Qy.bind_bind])
              obtain ⟨K, hKe⟩ : ∃ K, K = (Qy.kind s6).1 := ⟨_, rfl⟩
              obtain ⟨s7, hs7e⟩ : ∃ s7, s7 = (Qy.kind s6).2 := ⟨_, rfl⟩
              have hc0 : K = 0 → Qy.cond last s6 = Qy.test last s7 := fun h => by rw [hs7e]; exact Qy.cond_zero (hKe.symm.trans h)
              have hc1 : K ≠ 0 → Qy.cond last s6 = Qy.atom last (K : Nat) s7 := fun h => by rw [hs7e, hKe]; exact Qy.cond_some (fun e => h (hKe.trans e))
              rw [← hKe, ← hs7e] at hki
              rw [← hs7e] at HS
              rw [← hKe]
              have hN7 := Lib.hid hki.1.nm
              have htot : Hid (s7.atoms.length ≤ 100 ∧ s7.tests.length ≤ 100) := Lib.hid (by
                have h1 := hki.2.1; have h2 := H0.out
                unfold Qy.total at h1 h2
                omega)
              have Hc0 := Lib.hid hc0; have Hc1 := Lib.hid hc1
              clear hs7 hfr7 hki hKe hs7e hc0 hc1
              cases hK : Qy.kOk K
              · have hop : Qy.cond last s6 = Qy.test last s7 := Hc0.out (by simpa [Qy.kOk] using hK)
                replace HR : Hid (R = (Qy.test last s7).bind fun _ s => (Qy.after last gk s).bind fun _ s => Qy.rest2 last s) := Lib.hid (by rw [HR.out, hop])
                have Hop := Lib.hid hop
                clear hop
                go_wp2_with fail
                refine (lTest g B mb last s7 _ HS.out hN7.out htot.out.2).mono ?_
                intro e w8 he
                rcases he.split with ⟨p, x, hv, rfl, hfr⟩ | ⟨u, s8, hv, rfl, hs8, hfr⟩
                · exact ⟨rfl, by rw [Qy.go_bad HR.out hv]; exact ⟨rfl, Hfr.out.trans hfr⟩⟩
                · have hop : Qy.cond last s6 = .ok () s8 := Hop.out.trans hv
                  have hInv := Qy.cond_inv last HI.out hop
                  have hlen := Qy.cond_len hop
                  replace HR : Hid (R = (Qy.after last gk s8).bind fun _ s => Qy.rest2 last s) := Lib.hid (Qy.go_ok HR.out hv)
                  replace HI : Hid (Qy.Inv s8) := Lib.hid hInv.1
                  replace H0 : Hid (s8.atoms.length + s8.tests.length ≤ 16) := Lib.hid (by
                    have h1 := hInv.2.1; have h2 := H0.out
                    unfold Qy.total at h1 h2
                    omega)
                  replace Hk : Hid (s8.toks.length ≤ gk) := Lib.hid (Nat.le_trans hlen Hk.out)
                  replace Hfr := Lib.hid (Hfr.out.trans hfr)
                  replace HS := Lib.hid hs8
                  obtain ⟨⟨A, c, _, _, _, _, hb, hT, hcap, _⟩, _, _, hBg, _, _⟩ := hs8
                  have c0 := hb.cell 0
                  simp at c0
                  have HT := Lib.hid hT
                  clear hv hfr hb hT hcap hop hInv hlen Hop Hc0 Hc1 hN7 htot
                  unfold uV
                  go_wp2_with fail
                  refine (lSkipC g B mb last 44 s8 _ HS.out).mono ?_
                  rintro e w9 ⟨he, hs9, hfr9⟩
                  rw [Qy.skip_eq] at he hs9
                  have Hfr0 := Hfr
                  replace Hfr := Lib.hid (Hfr.out.trans hfr9)
                  have Hfr9 := Lib.hid hfr9
                  cases hh : Qy.hit 3 [44] s8.toks
                  · rw [hh] at he hs9
                    replace HR : Hid (R = Qy.rest2 last s8) := Lib.hid (HR.out.trans (by rw [Qy.after_no hh]; rfl))
                    replace HS : Hid (PSt g B mb last s8 w9) := Lib.hid hs9
                    subst he
                    clear hh hs9 hfr9
                    go_wp2_with fail
                    refine (lSignC g B mb last 59 s8 _ HS.out).mono ?_
                    intro e w10 he
                    rcases he.split with ⟨p, x, hv, rfl, hfr⟩ | ⟨u, s10, hv, rfl, hs10, hfr⟩
                    · exact ⟨rfl, by rw [Qy.go_bad HR.out hv]; exact ⟨rfl, Hfr.out.trans hfr⟩⟩
                    · replace HR : Hid (R = match s10.toks with | [] => .ok () s10 | _ :: _ => Qy.fail last s10 500) := Lib.hid (Qy.go_ok HR.out hv)
                      replace HS := Lib.hid hs10
                      replace Hfr := Lib.hid (Hfr.out.trans hfr)
                      obtain ⟨⟨A, c, _, _, _, _, hb, hT, hcap, _⟩, _, _, _, _, _⟩ := hs10
                      have d0 := hb.cell 0
                      simp at d0
                      have hfail := Lib.hid (lFail g B c A s10.toks last 500 _ _ _ _ _ _ w10 hb hT)
                      clear hv hfr hb hT hcap
                      obtain ⟨toks10, names10, shown10, atoms10, tests10⟩ := s10
                      unfold uV
                      cases toks10 with
                      | nil =>
                        simp only [List.length_nil] at d0
                        go_wp2_with fail
                        go_end0
                        rw [HR.out]
                        exact ⟨rfl, HS.out, Hfr.out⟩
                      | cons t r =>
                        simp only [List.length_cons] at d0
                        have hr1 : (0 : Int) < (r.length : Int) + 1 := by omega
                        go_wp2_with fail
                        refine (hfail.out).mono ?_
                        rintro e w11 ⟨he, rfl⟩
                        unfold FailAt at he
                        subst he
                        exact ⟨rfl, by rw [HR.out]; exact ⟨rfl, Hfr.out⟩⟩
                  · rw [hh] at he hs9
                    replace HS := Lib.hid hs9
                    obtain ⟨⟨A9, c9, vN9, vS9, vA9, vT9, hb9, hT9, hcap9, ho9⟩, hk9, hm9, hB9, hf9, htx9⟩ := hs9
                    obtain ⟨AS, cS, rfl⟩ := own_form ho9.s
                    obtain ⟨AA, cA, rfl⟩ := own_form ho9.a
                    obtain ⟨AT, cT, rfl⟩ := own_form ho9.t
                    have d4 := hb9.cell 4; have d5 := hb9.cell 5; have d6 := hb9.cell 6; have d7 := hb9.cell 7
                    simp at d4 d5 d6 d7
                    have hlt9 := hb9.lt
                    have h0 := H0.out
                    have hgk : 1 ≤ gk := by have := Hk.out; have := Qy.hit_len hh; omega
                    have HT9 : Hid (Toks w9 B A s8.toks) := Lib.hid (HT.out.below hfr9.bel hBg)
                    have Hb9 := Lib.hid hb9
                    have hcn := Lib.hid (lConditions none AS AA AT 0 s8.shown.length s8.atoms.length s8.tests.length 0 cS cA cT w9 (by omega) (by omega))
                    have Hh := Lib.hid hh
                    subst he
                    clear hh hfr9 hb9 hT9 hcap9 ho9 hk9 hm9 hB9 hf9 htx9 h0
                    cases h16 : (((s8.atoms.length + s8.tests.length : Nat) : Int) == 16)
                    · have H16 : Hid (¬ s8.atoms.length + s8.tests.length = 16) := Lib.hid (by
                        have : ¬ ((s8.atoms.length + s8.tests.length : Nat) : Int) = 16 := by simpa using h16
                        omega)
                      go_wp2_with fail
                      refine (hcn.out).mono ?_
                      rintro e w10 ⟨rfl, hb10⟩
                      have Hb10 := Lib.hid hb10
                      clear hb10
                      go_wp2_with fail
                      go_roundg (gk - 1)
                      case measure => omega
                      case rel =>
                        have hI9 := Qy.skip_inv (k := 3) (t := [44]) HI.out
                        rw [Qy.skip_eq, Hh.out] at hI9
                        have ht9 : Qy.total { s8 with toks := s8.toks.tail } < 16 := by
                          have := H0.out; have := H16.out
                          show s8.atoms.length + s8.tests.length < 16
                          omega
                        have hl9 : s8.toks.tail.length ≤ gk - 1 := by have := Hk.out; have := Qy.hit_len Hh.out; omega
                        exact ⟨{ s8 with toks := s8.toks.tail }, Lib.hid (HR.out.trans (by rw [Qy.after_yes Hh.out H16.out, Nat.sub_add_cancel hgk])), Lib.hid (HS.out.next Hb10.out), Lib.hid (Hfr.out.trans (Fr.of_below Hb10.out hlt9)), Lib.hid hI9, Lib.hid ht9, Lib.hid hl9⟩
                    · have H16 : Hid (s8.atoms.length + s8.tests.length = 16) := Lib.hid (by
                        have : ((s8.atoms.length + s8.tests.length : Nat) : Int) = 16 := by simpa using h16
                        omega)
                      go_wp2_with fail
                      refine (hcn.out).mono ?_
                      rintro e w10 ⟨rfl, hb10⟩
                      have hbk := Hb9.out.below hb10 hlt9
                      have z0 := hbk.cell 0; have zf0 := hbk.free 0
                      simp at z0
                      have hbs := hbk.set 0 (.slice A s8.toks.length c)
                      simp at hbs
                      have hTs : Toks (w10.setCell ⟨g, 0, none⟩ (.slice A s8.toks.length c)) B A s8.toks := (HT9.out.below hb10 (by omega)).below (set_below _) hBg
                      have hfail := Lib.hid (lFail g B c A s8.toks last 2 _ _ _ _ _ _ _ hbs hTs)
                      have Hfr10 : Hid (Fr g w (w10.setCell ⟨g, 0, none⟩ (.slice A s8.toks.length c))) := Lib.hid ((Hfr.out.trans (Fr.of_below hb10 hlt9)).trans (Fr.at0 hbk _))
                      clear hb10 hbk hbs hTs
                      go_wp2_with fail
                      refine (hfail.out).mono ?_
                      rintro e w11 ⟨he, rfl⟩
                      unfold FailAt at he
                      subst he
                      exact ⟨rfl, by rw [Qy.go_bad HR.out (Qy.after_full Hh.out H16.out)]; exact ⟨rfl, Hfr10.out⟩⟩
              · have hop : Qy.cond last s6 = Qy.atom last (K : Nat) s7 := Hc1.out (by simpa [Qy.kOk] using hK)
                replace HR : Hid (R = (Qy.atom last (K : Nat) s7).bind fun _ s => (Qy.after last gk s).bind fun _ s => Qy.rest2 last s) := Lib.hid (by rw [HR.out, hop])
                have Hop := Lib.hid hop
                clear hop
                go_wp2_with fail
                refine (lAtom g B mb last (K : Nat) s7 _ HS.out hN7.out htot.out.1).mono ?_
                intro e w8 he
                rcases he.split with ⟨p, x, hv, rfl, hfr⟩ | ⟨u, s8, hv, rfl, hs8, hfr⟩
                · exact ⟨rfl, by rw [Qy.go_bad HR.out hv]; exact ⟨rfl, Hfr.out.trans hfr⟩⟩
                · have hop : Qy.cond last s6 = .ok () s8 := Hop.out.trans hv
                  have hInv := Qy.cond_inv last HI.out hop
                  have hlen := Qy.cond_len hop
                  replace HR : Hid (R = (Qy.after last gk s8).bind fun _ s => Qy.rest2 last s) := Lib.hid (Qy.go_ok HR.out hv)
                  replace HI : Hid (Qy.Inv s8) := Lib.hid hInv.1
                  replace H0 : Hid (s8.atoms.length + s8.tests.length ≤ 16) := Lib.hid (by
                    have h1 := hInv.2.1; have h2 := H0.out
                    unfold Qy.total at h1 h2
                    omega)
                  replace Hk : Hid (s8.toks.length ≤ gk) := Lib.hid (Nat.le_trans hlen Hk.out)
                  replace Hfr := Lib.hid (Hfr.out.trans hfr)
                  replace HS := Lib.hid hs8
                  obtain ⟨⟨A, c, _, _, _, _, hb, hT, hcap, _⟩, _, _, hBg, _, _⟩ := hs8
                  have c0 := hb.cell 0
                  simp at c0
                  have HT := Lib.hid hT
                  clear hv hfr hb hT hcap hop hInv hlen Hop Hc0 Hc1 hN7 htot
                  unfold uV
                  go_wp2_with fail
                  refine (lSkipC g B mb last 44 s8 _ HS.out).mono ?_
                  rintro e w9 ⟨he, hs9, hfr9⟩
                  rw [Qy.skip_eq] at he hs9
                  have Hfr0 := Hfr
                  replace Hfr := Lib.hid (Hfr.out.trans hfr9)
                  have Hfr9 := Lib.hid hfr9
                  cases hh : Qy.hit 3 [44] s8.toks
                  · rw [hh] at he hs9
                    replace HR : Hid (R = Qy.rest2 last s8) := Lib.hid (HR.out.trans (by rw [Qy.after_no hh]; rfl))
                    replace HS : Hid (PSt g B mb last s8 w9) := Lib.hid hs9
                    subst he
                    clear hh hs9 hfr9
                    go_wp2_with fail
                    refine (lSignC g B mb last 59 s8 _ HS.out).mono ?_
                    intro e w10 he
                    rcases he.split with ⟨p, x, hv, rfl, hfr⟩ | ⟨u, s10, hv, rfl, hs10, hfr⟩
                    · exact ⟨rfl, by rw [Qy.go_bad HR.out hv]; exact ⟨rfl, Hfr.out.trans hfr⟩⟩
                    · replace HR : Hid (R = match s10.toks with | [] => .ok () s10 | _ :: _ => Qy.fail last s10 500) := Lib.hid (Qy.go_ok HR.out hv)
                      replace HS := Lib.hid hs10
                      replace Hfr := Lib.hid (Hfr.out.trans hfr)
                      obtain ⟨⟨A, c, _, _, _, _, hb, hT, hcap, _⟩, _, _, _, _, _⟩ := hs10
                      have d0 := hb.cell 0
                      simp at d0
                      have hfail := Lib.hid (lFail g B c A s10.toks last 500 _ _ _ _ _ _ w10 hb hT)
                      clear hv hfr hb hT hcap
                      obtain ⟨toks10, names10, shown10, atoms10, tests10⟩ := s10
                      unfold uV
                      cases toks10 with
                      | nil =>
                        simp only [List.length_nil] at d0
                        go_wp2_with fail
                        go_end0
                        rw [HR.out]
                        exact ⟨rfl, HS.out, Hfr.out⟩
                      | cons t r =>
                        simp only [List.length_cons] at d0
                        have hr1 : (0 : Int) < (r.length : Int) + 1 := by omega
                        go_wp2_with fail
                        refine (hfail.out).mono ?_
                        rintro e w11 ⟨he, rfl⟩
                        unfold FailAt at he
                        subst he
                        exact ⟨rfl, by rw [HR.out]; exact ⟨rfl, Hfr.out⟩⟩
                  · rw [hh] at he hs9
                    replace HS := Lib.hid hs9
                    obtain ⟨⟨A9, c9, vN9, vS9, vA9, vT9, hb9, hT9, hcap9, ho9⟩, hk9, hm9, hB9, hf9, htx9⟩ := hs9
                    obtain ⟨AS, cS, rfl⟩ := own_form ho9.s
                    obtain ⟨AA, cA, rfl⟩ := own_form ho9.a
                    obtain ⟨AT, cT, rfl⟩ := own_form ho9.t
                    have d4 := hb9.cell 4; have d5 := hb9.cell 5; have d6 := hb9.cell 6; have d7 := hb9.cell 7
                    simp at d4 d5 d6 d7
                    have hlt9 := hb9.lt
                    have h0 := H0.out
                    have hgk : 1 ≤ gk := by have := Hk.out; have := Qy.hit_len hh; omega
                    have HT9 : Hid (Toks w9 B A s8.toks) := Lib.hid (HT.out.below hfr9.bel hBg)
                    have Hb9 := Lib.hid hb9
                    have hcn := Lib.hid (lConditions none AS AA AT 0 s8.shown.length s8.atoms.length s8.tests.length 0 cS cA cT w9 (by omega) (by omega))
                    have Hh := Lib.hid hh
                    subst he
                    clear hh hfr9 hb9 hT9 hcap9 ho9 hk9 hm9 hB9 hf9 htx9 h0
                    cases h16 : (((s8.atoms.length + s8.tests.length : Nat) : Int) == 16)
                    · have H16 : Hid (¬ s8.atoms.length + s8.tests.length = 16) := Lib.hid (by
                        have : ¬ ((s8.atoms.length + s8.tests.length : Nat) : Int) = 16 := by simpa using h16
                        omega)
                      go_wp2_with fail
                      refine (hcn.out).mono ?_
                      rintro e w10 ⟨rfl, hb10⟩
                      have Hb10 := Lib.hid hb10
                      clear hb10
                      go_wp2_with fail
                      go_roundg (gk - 1)
                      case measure => omega
                      case rel =>
                        have hI9 := Qy.skip_inv (k := 3) (t := [44]) HI.out
                        rw [Qy.skip_eq, Hh.out] at hI9
                        have ht9 : Qy.total { s8 with toks := s8.toks.tail } < 16 := by
                          have := H0.out; have := H16.out
                          show s8.atoms.length + s8.tests.length < 16
                          omega
                        have hl9 : s8.toks.tail.length ≤ gk - 1 := by have := Hk.out; have := Qy.hit_len Hh.out; omega
                        exact ⟨{ s8 with toks := s8.toks.tail }, Lib.hid (HR.out.trans (by rw [Qy.after_yes Hh.out H16.out, Nat.sub_add_cancel hgk])), Lib.hid (HS.out.next Hb10.out), Lib.hid (Hfr.out.trans (Fr.of_below Hb10.out hlt9)), Lib.hid hI9, Lib.hid ht9, Lib.hid hl9⟩
                    · have H16 : Hid (s8.atoms.length + s8.tests.length = 16) := Lib.hid (by
                        have : ((s8.atoms.length + s8.tests.length : Nat) : Int) = 16 := by simpa using h16
                        omega)
                      go_wp2_with fail
                      refine (hcn.out).mono ?_
                      rintro e w10 ⟨rfl, hb10⟩
                      have hbk := Hb9.out.below hb10 hlt9
                      have z0 := hbk.cell 0; have zf0 := hbk.free 0
                      simp at z0
                      have hbs := hbk.set 0 (.slice A s8.toks.length c)
                      simp at hbs
                      have hTs : Toks (w10.setCell ⟨g, 0, none⟩ (.slice A s8.toks.length c)) B A s8.toks := (HT9.out.below hb10 (by omega)).below (set_below _) hBg
                      have hfail := Lib.hid (lFail g B c A s8.toks last 2 _ _ _ _ _ _ _ hbs hTs)
                      have Hfr10 : Hid (Fr g w (w10.setCell ⟨g, 0, none⟩ (.slice A s8.toks.length c))) := Lib.hid ((Hfr.out.trans (Fr.of_below hb10 hlt9)).trans (Fr.at0 hbk _))
                      clear hb10 hbk hbs hTs
                      go_wp2_with fail
                      refine (hfail.out).mono ?_
                      rintro e w11 ⟨he, rfl⟩
                      unfold FailAt at he
                      subst he
                      exact ⟨rfl, by rw [Qy.go_bad HR.out (Qy.after_full Hh.out H16.out)]; exact ⟨rfl, Hfr10.out⟩⟩
        · rw [hh] at he hs4
          obtain ⟨k1, rfl⟩ : ∃ k1, gk = k1 + 1 := ⟨gk - 1, by have := Hk.out; have := Qy.hit_len hh; omega⟩
          obtain ⟨s4, hs4e⟩ : ∃ s4, s4 = ({ s3 with toks := s3.toks.tail } : Qy.St) := ⟨_, rfl⟩
          have hR4 : R = (Qy.showOne last s4).bind fun _ s => (Qy.shows last k1 s).bind fun _ s => Qy.rest1 last s := by
            rw [HR.out, Qy.shows_yes k1 hh, Qy.bind_bind, hs4e]
          have hI4 : Qy.Inv s4 := by
            have := Qy.skip_inv (k := 3) (t := [44]) HI.out
            rw [Qy.skip_eq, hh] at this
            rw [hs4e]; exact this
          have h04 : Qy.total s4 = 0 := by rw [hs4e]; exact H0.out
          have hk4 : s4.toks.length ≤ k1 := by have := Hk.out; have := Qy.hit_len hh; rw [hs4e]; show s3.toks.tail.length ≤ k1; omega
          replace HR := Lib.hid hR4
          replace HI := Lib.hid hI4
          replace H0 := Lib.hid h04
          replace Hk := Lib.hid hk4
          replace Hfr := Lib.hid (Hfr.out.trans hfr4)
          replace HS : Hid (PSt g B mb last s4 w4) := Lib.hid (by rw [hs4e]; exact hs4)
          subst he
          clear hh hs4 hfr4 hs4e hR4 hI4 h04 hk4
          obtain ⟨vS, c5⟩ := HS.out.five
          have hfits := HI.out.fits
          have hfew := HI.out.nm.few
          have Hvar := Lib.hid (fun W hW => lVariable5 g B mb last true s4 W hW)
          go_wp2_with fail
          go_region_law (first
            | (refine step_append_lies _ rfl _ _ _ rfl g 3 i0 _ 1 8 Tryd.underlying23 hi0 hz0 hz1 hz2 rfl (by omega) vS s2.shown.length _ rfl (HNx.out.2.2.2.1.alloc _) ⟨w2.heap.size, 0, none⟩ 1 1 [.int .i64 n] rfl rfl (World.news_of_block (cs := #[.int .i64 n]) (t := 3) (fr := (0, 0)) (heap_alloc_new w2 _)) (by simp [Value.oneCell']) (by omega) (by unfold maxLen; omega) (by omega) (by simp; omega) (w2.heap.size + 1) (by simp) ?_; intro gg cap w3 hown3 hgrow3 hat3 hlt3; have hQ := HNx.out.2.2.2.2.2 _ w3 gg cap hgrow3 hat3 hown3; have d5 := hQ.1.1; have df5 := hQ.1.2; have HP := Lib.hid hQ.2; clear hQ hown3 hgrow3 hat3)
            | (go_simp; go_at_call 43; refine (Hvar.out _ (HS.out.drewN 1)).mono ?_; rintro e w2 ⟨he, h5'⟩; rcases he.split with ⟨p, x, hv, rfl, hfr⟩ | ⟨n, s2, hv, rfl, hs2, hfr⟩; (exact ⟨rfl, by rw [Qy.go_bad HR.out (show Qy.showOne last s4 = .bad p x by unfold Qy.showOne; rw [hv]; rfl)]; exact ⟨rfl, Hfr.out.trans (Fr.draw (n := 1) hfr)⟩⟩); have hfs : s2.shown.length ≤ 8 := (by rw [(Qy.var_grow last HI.out.nm hv).1.shown]; omega); have hNx := show_next (w := w4) c5 h5' hv hs2; have z5 := hNx.1; have zf5 := hNx.2.1; have zlt := hNx.2.2.1; have HNx := Lib.hid hNx; have Hfr2 := Lib.hid (Fr.draw (n := 1) hfr); clear hv hs2 hfr hNx h5'; unfold iV))
          all_goals (try go_wp2_with fail)
          all_goals (go_roundg k1)
          all_goals first
            | omega
            | (have hInv := Qy.showOne_inv last HI.out HNx.out.2.2.2.2.1
               exact ⟨_, Lib.hid (Qy.go_ok HR.out HNx.out.2.2.2.2.1), Lib.hid HP.out.1, Lib.hid ((Hfr.out.trans Hfr2.out).trans HP.out.2), Lib.hid hInv.1, Lib.hid (hInv.2.1.trans H0.out), Lib.hid (Nat.le_trans (Qy.showOne_len HNx.out.2.2.2.2.1) Hk.out)⟩)
end Go.Proofs.YtjonaidancomgaaDoor

namespace Go.Proofs.YtjonaidancomgaaDoor
open Go.RowKit Go.Maps Go.WideMaps

/-- All blocks but ob and the row of vo are as they were. -/
structure FrO (ob : Nat) (vo : Value) (w w' : World) : Prop where
  size : w.heap.size ≤ w'.heap.size
  keep : ∀ k, k < w.heap.size → k ≠ ob → vo.ownBlock ≠ some k → w'.heap[k]? = w.heap[k]?
theorem FrO.refl (ob : Nat) (vo : Value) (w : World) : FrO ob vo w w := ⟨Nat.le_refl _, fun _ _ _ _ => rfl⟩
theorem FrO.blk {ob : Nat} {vo : Value} {w w' : World} (h : FrO ob vo w w') {b : Nat} {t : TypeId} {cs : Array Value} (hb : Blk w b t cs) (h1 : b ≠ ob) (h2 : vo.ownBlock ≠ some b) : Blk w' b t cs := (h.keep b hb.lt h1 h2).trans hb
theorem FrO.own {ob : Nat} {vo : Value} {w w' : World} (h : FrO ob vo w w') {b s n : Nat} {e : TypeId} {v : Value} {x : List Value} (ho : w.ownsRow b e s v n x) (h1 : v.ownBlock ≠ some ob) (h2 : v.ownBlock = none ∨ vo.ownBlock ≠ v.ownBlock) : w'.ownsRow b e s v n x := by
  obtain ⟨p1, p2⟩ := ho
  refine ⟨p1, ?_⟩
  rcases p2 with p2 | ⟨g, cap, cur, hv, hg, hh, r⟩
  · exact .inl p2
  · refine .inr ⟨g, cap, cur, hv, hg, ?_, r⟩
    have hlt : g < w.heap.size := by
      rcases Nat.lt_or_ge g w.heap.size with hlt | hge
      · exact hlt
      · rw [Array.getElem?_eq_none hge] at hh; cases hh
    have hvb : v.ownBlock = some g := by rw [hv]; rfl
    refine (h.keep g hlt (fun e => h1 (by rw [hvb, e])) (fun e => ?_)).trans hh
    rcases h2 with h2 | h2
    · rw [hvb] at h2; cases h2
    · exact h2 (by rw [e, hvb])

/-- What index leaves: the list of those met lies in the cell ob. -/
def IdxPost (B ob : Nat) (vo : Value) (m : List Int) (n : Int) (w : World) (e : Ending) (w' : World) : Prop :=
  e = .returned (.int .i64 (Qy.ix m n).1) ∧ ∃ vo', Blk w' ob 23 #[vo'] ∧ w'.ownsRow B 3 1 vo' (Qy.ix m n).2.length ((Qy.ix m n).2.flatMap intC) ∧
    (vo'.ownBlock = vo.ownBlock ∨ ∃ g, vo'.ownBlock = some g ∧ w.heap.size ≤ g) ∧ FrO ob vo w w' ∧ Below B w w'

set_option maxRecDepth 20000 in
set_option maxHeartbeats 4000000 in
theorem lIdx (B ob : Nat) (vo : Value) (m : List Int) (n : Int) (w : World) (hb : Blk w ob 23 #[vo]) (ho : w.ownsRow B 3 1 vo m.length (m.flatMap intC)) (hB : B ≤ ob) (hl : m.length ≤ 1000) :
    Calls Tryd.prog 21 #[.int .i64 n, .pointer (some ⟨ob, 0, none⟩)] w (IdxPost B ob vo m n w) := by
  obtain ⟨i0, hi0, hz0, hz1, hz2⟩ := info_parts Tryd.infoIntP
  obtain ⟨A, c, rfl, hc, hL⟩ := own_lies ho (m.map intC) (by rw [List.flatMap_def]) (fun c hc => by
    obtain ⟨x, _, rfl⟩ := List.mem_map.1 hc; rfl) (by rw [List.length_map]) (by omega)
  have c0 := hb.cell 0; have f0 := hb.free 0
  have hlt := hb.lt
  simp at c0
  obtain ⟨N, hN⟩ : ∃ N, N = m.length := ⟨_, rfl⟩
  have Hb := Lib.hid hb; have Ho := Lib.hid ho
  rw [← hN] at c0 hl hc ⊢ Hb Ho
  have HN := Lib.hid hN
  clear hb ho hN
  go_enter Tryd.func21, Tryd.ntmps21
  go_wp2_with fail
  go_loop [8] (fun v8 => ∃ k : Nat, k ≤ N ∧ v8 = .int .i64 k ∧ Hid (∀ j, j < k → ∀ y, m[j]? = some y → (y == n) = false)) (fun v8 => N - (intOf v8).toNat)
  case atStart => exact ⟨0, by omega, rfl, Lib.hid (fun j hj => absurd hj (Nat.not_lt_zero j))⟩
  case round =>
    obtain ⟨k, hk, rfl, hno⟩ := hrel
    by_cases hkn : k < N
    · obtain ⟨y, hy⟩ : ∃ y, m[k]? = some y := ⟨_, List.getElem?_eq_getElem (by have := HN.out; omega)⟩
      obtain ⟨b, o, rfl, hb2, hcl⟩ := hL.at_ k (intC y) (by rw [List.getElem?_map, hy]; rfl)
      have hc1 := hcl 0 _ rfl
      rw [Nat.mul_one, Nat.add_zero] at hc1
      have Hy := Lib.hid hy
      clear hcl hy hL
      cases hq : y == n
      · have Hq := Lib.hid hq
        go_wp2_with fail
        go_round
        case rel => exact ⟨k + 1, by omega, by go_num, Lib.hid (fun j hj z hz => by
          rcases Nat.lt_or_ge j k with h1 | h1
          · exact hno.out j h1 z hz
          · obtain rfl : j = k := by omega
            rw [Hy.out] at hz; injection hz with hz; rw [← hz]; exact Hq.out)⟩
        case measure => simp [intOf]; omega
      · have Hq := Lib.hid hq
        go_wp2_with fail
        go_ret
        have hyx : y = n := by simpa using Hq.out
        have hix : Qy.ix m n = ((k : Int), m) := by
          unfold Qy.ix
          rw [Qy.idx_some (k := k) (by rw [Hy.out, hyx]) hno.out]
        exact ⟨ret_int (by rw [hix]), _, Hb.out, by rw [hix, ← HN.out]; exact Ho.out, .inl rfl, FrO.refl _ _ _, Below.refl _ _⟩
    · obtain rfl : k = N := by omega
      have hix : Qy.ix m n = ((k : Int), m ++ [n]) := by
        unfold Qy.ix
        rw [Qy.idx_none (fun j y hy => hno.out j (by have := (List.getElem?_eq_some_iff.1 hy).1; have := HN.out; omega) y hy), HN.out]
      have Hix := Lib.hid hix
      clear hix hL
      go_wp2_with (at_builtin; refine wpList_append_lies _ rfl _ _ _ rfl B 3 i0 _ 1 8 Tryd.underlying23 hi0 hz0 hz1 hz2 rfl (by omega) _ k _ rfl ((Ho.out).alloc _) ⟨w.heap.size, 0, none⟩ 1 1 [.int .i64 n] rfl rfl (World.news_of_block (cs := #[.int .i64 n]) (t := 3) (fr := (0, 0)) (heap_alloc_new w _)) (by simp [Value.oneCell']) (by omega) (by unfold maxLen; omega) (by omega) (by simp; omega) (w.heap.size + 1) (by simp) ?_; intro gg cap w3 hown3 hgrow3 hat3 hlt3; have hb3 := (Hb.out.alloc _).grown hgrow3 (own_ne Ho.out Hb.out (by decide)); have d1 := (hb3.set 0 (.slice (some ⟨gg, 0, none⟩) (k + 1) cap)).cell 0; have df1 := hb3.free 0; have e1 := hb3.cell 0; simp at d1 e1; have Hb3 := Lib.hid hb3; have Hown3 := Lib.hid hown3; have Hgrow3 := Lib.hid hgrow3; have Hat3 := Lib.hid hat3; clear hb3 hown3 hgrow3 hat3)
      go_ret
      have hbel : Below B w w3 := Below.grown ((Below.refl _ w).alloc (by omega) _) Hgrow3.out (by simp; omega) (fun k hk => own_ge Ho.out hk)
      refine ⟨by rw [Hix.out]; exact ret_int (by omega), .slice (some ⟨gg, 0, none⟩) (k + 1) cap, ?_, ?_, ?_, ?_, hbel.setCell (p := ⟨ob, 0, none⟩) hB _⟩
      · have := Hb3.out.set 0 (.slice (some ⟨gg, 0, none⟩) (k + 1) cap)
        simpa using this
      · rw [Hix.out, List.length_append, List.flatMap_append, ← HN.out]
        exact own_setCell_far Hown3.out (own_ne Hown3.out Hb3.out (by decide)) _
      · rcases Hat3.out with h | h
        · exact .inl h.symm
        · exact .inr ⟨gg, rfl, by omega⟩
      · refine ⟨by have := Hgrow3.out.size; simp [World.setCell] at this ⊢; omega, fun j hj h1 h2 => ?_⟩
        rw [Below.heap_setCell w3 ⟨ob, 0, none⟩ _ j h1, Hgrow3.out.block j (by simp; omega) (fun e => h2 e.symm), Below.heap_alloc w _ j hj]

/-- What arg leaves. -/
def ArgPost (B ob : Nat) (vo : Value) (m : List Int) (a : Qy.Arg) (w : World) (e : Ending) (w' : World) : Prop :=
  e = .returned (.agg #[.bool (Qy.ixArg m a).1.var, .int .i64 (Qy.ixArg m a).1.n]) ∧ ∃ vo', Blk w' ob 23 #[vo'] ∧ w'.ownsRow B 3 1 vo' (Qy.ixArg m a).2.length ((Qy.ixArg m a).2.flatMap intC) ∧
    (vo'.ownBlock = vo.ownBlock ∨ ∃ g, vo'.ownBlock = some g ∧ w.heap.size ≤ g) ∧ FrO ob vo w w' ∧ Below B w w'
/-- The closure that arg calls. -/
def idxF (ob : Nat) : Value := .func (.func 21) #[] #[.pointer (some ⟨ob, 0, none⟩)]
theorem FrO.from {ob : Nat} {vo : Value} {w w1 w2 : World} (hb : Below w.heap.size w w1) (h : FrO ob vo w1 w2) : FrO ob vo w w2 :=
  ⟨Nat.le_trans hb.size h.size, fun k hk h1 h2 => (h.keep k (by have := hb.size; omega) h1 h2).trans (hb.block k hk)⟩
theorem FrO.set {ob : Nat} {vo : Value} {w w' : World} (h : FrO ob vo w w') {p : Addr} (hp : w.heap.size ≤ p.block) (u : Value) : FrO ob vo w (w'.setCell p u) :=
  ⟨by simpa [World.setCell] using h.size, fun k hk h1 h2 => (Below.heap_setCell w' p u k (by omega)).trans (h.keep k hk h1 h2)⟩

set_option maxRecDepth 20000 in
set_option maxHeartbeats 2000000 in
theorem lArg (B ob ib : Nat) (vo : Value) (m : List Int) (a : Qy.Arg) (w : World) (hb : Blk w ob 23 #[vo]) (ho : w.ownsRow B 3 1 vo m.length (m.flatMap intC)) (hi : Blk w ib 64 #[idxF ob]) (hB : B ≤ ob) (hl : m.length ≤ 1000) :
    Calls Tryd.prog 22 #[.agg #[.bool a.var, .int .i64 a.n], .pointer (some ⟨ib, 0, none⟩)] w (ArgPost B ob vo m a w) := by
  obtain ⟨v, n⟩ := a
  have hw2 : ∀ (x y : Obj), Below w.heap.size w ((w.alloc x).alloc y) := fun x y => ((Below.refl _ _).alloc (Nat.le_refl _) _).alloc (by simp) _
  have c0 := hi.cell 0
  have hlt := hi.lt; have hol := hb.lt
  simp [idxF] at c0
  cases v with
  | true =>
    have hix := fun (x y : Obj) => lIdx B ob vo m n ((w.alloc x).alloc y) (hb.below (hw2 x y) hb.lt) (own_below ho (hw2 x y)) hB hl
    have hvo : ∀ k, vo.ownBlock = some k → k < w.heap.size := fun k hk => own_lt ho hk
    have Hix := Lib.hid hix; have Hw2 := Lib.hid hw2; have Hvo := Lib.hid hvo
    have hBw : B ≤ w.heap.size := by omega
    clear hix hw2 hb ho hi hvo
    go_enter Tryd.func22, Tryd.ntmps22
    go_wp2_with fail
    refine (Hix.out _ _).mono ?_
    rintro e w1 ⟨rfl, vo', h1, h2, h3, h4, h5⟩
    have x0 : Blk w1 w.heap.size 40 #[.bool true, .int .i64 n] := h4.blk ((Blk.new w _ _).alloc _) (by omega) (fun e => by have := Hvo.out _ e; omega)
    have y0 := h4.blk (b := w.heap.size + 1) (Blk.new_at _ _ (by simp)) (by omega) (fun e => by have := Hvo.out _ e; omega)
    have H1 := Lib.hid h1; have H2 := Lib.hid h2; have H3 := Lib.hid h3; have H4 := Lib.hid h4; have H5 := Lib.hid h5; have X0 := Lib.hid x0; have Y0 := Lib.hid y0
    have hs1 := h4.size
    simp at hs1
    have q0 := x0.cell 0; have q1 := x0.cell 1; have f0 := x0.free 0; have f1 := x0.free 1; have g0 := y0.free 0; have g1 := y0.free 1; have r0 := y0.cell 0; have r1 := y0.cell 1
    simp at q0 q1 r0 r1
    clear h1 h2 h3 h4 h5 x0 y0
    go_wp2_with fail
    try simp only [Exit.inBlock, Exit.then]
    refine bodyPost_ret (v := .agg #[.bool true, .int .i64 (Qy.ix m n).1]) (by simp [results, Tryd.results22, go_sem, r0, r1]) rfl ?_
    have n0 := own_ne H2.out X0.out (by decide)
    have n1 := own_ne H2.out Y0.out (by decide)
    have hfr := H4.out.from (Hw2.out (.cells #[.bool true, .int .i64 n] 40) (.cells #[.bool false, .int .i64 0] 40))
    have hbl := ((Hw2.out (.cells #[.bool true, .int .i64 n] 40) (.cells #[.bool false, .int .i64 0] 40)).mono hBw).trans H5.out
    refine ⟨rfl, vo', ?_, ?_, ?_, ?_, ?_⟩
    · exact ((H1.out.far (p := ⟨w.heap.size, 1, none⟩) (show ob ≠ w.heap.size by omega) _).far (p := ⟨w.heap.size + 1, 0, none⟩) (show ob ≠ w.heap.size + 1 by omega) _).far (p := ⟨w.heap.size + 1, 1, none⟩) (show ob ≠ w.heap.size + 1 by omega) _
    · exact own_setCell_far (own_setCell_far (own_setCell_far H2.out n0 _) n1 _) n1 _
    · rcases H3.out with h | ⟨g, h, hg⟩
      · exact .inl h
      · exact .inr ⟨g, h, by simp at hg; omega⟩
    · exact ((hfr.set (p := ⟨w.heap.size, 1, none⟩) (Nat.le_refl _) _).set (p := ⟨w.heap.size + 1, 0, none⟩) (Nat.le_succ _) _).set (p := ⟨w.heap.size + 1, 1, none⟩) (Nat.le_succ _) _
    · exact ((hbl.setCell (p := ⟨w.heap.size, 1, none⟩) hBw _).setCell (p := ⟨w.heap.size + 1, 0, none⟩) (show B ≤ w.heap.size + 1 by omega) _).setCell (p := ⟨w.heap.size + 1, 1, none⟩) (show B ≤ w.heap.size + 1 by omega) _
  | false =>
    have Hb := Lib.hid hb; have Ho := Lib.hid ho; have Hw2 := Lib.hid hw2
    have hBw : B ≤ w.heap.size := by omega
    clear hw2 hb ho hi
    go_enter Tryd.func22, Tryd.ntmps22
    go_wp2_with fail
    try simp only [Exit.inBlock, Exit.then]
    refine bodyPost_ret (v := .agg #[.bool false, .int .i64 n]) (by simp [results, Tryd.results22, go_sem]) rfl ?_
    have hfr : FrO ob vo w ((w.alloc (.cells #[.bool false, .int .i64 n] 40)).alloc (.cells #[.bool false, .int .i64 n] 40)) := FrO.from (Hw2.out _ _) (FrO.refl _ _ _)
    exact ⟨rfl, vo, Hb.out.below (Hw2.out _ _) Hb.out.lt, own_below Ho.out (Hw2.out _ _), .inl rfl, hfr, (Hw2.out _ _).mono hBw⟩
end Go.Proofs.YtjonaidancomgaaDoor
