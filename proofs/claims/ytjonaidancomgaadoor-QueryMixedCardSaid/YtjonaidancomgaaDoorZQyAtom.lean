/- Parts of the proof, joined into one text: QyAtom, QyTest. -/
import Derived.Test.YtjonaidancomgaaDoorZQyVarB
import Derived.Test.YtjonaidancomgaaDoorZQyAgain

namespace Go.Proofs.YtjonaidancomgaaDoor
open Go.RowKit Go.Maps Go.WideMaps

theorem Tryd.infoAtom : (Tryd.prog.info? 43).map (fun i => (i.zero, i.size, i.bytes)) = some (some (.agg #[.int .i64 0, .bool false, .int .i64 0, .bool false, .int .i64 0, .bool false, .int .i64 0, .int .i64 0, .int .i64 0]), 9, 72) := by kernel_rfl

set_option maxRecDepth 20000 in
set_option maxHeartbeats 4000000 in
theorem lAtom (g B mb : Nat) (last k : Int) (s : Qy.St) (w : World) (h : PSt g B mb last s w) (hN : Qy.Nm s) (hfew : s.atoms.length ≤ 100) :
    Calls Tryd.prog 46 #[.pointer (some ⟨g, 0, none⟩), .int .i64 k] w (Par g B mb last w uV (Qy.atom last k s)) := by
  obtain ⟨i0, hi0, hz0, hz1, hz2⟩ := info_parts Tryd.infoAtom
  have hlt := h.lt
  obtain ⟨R, HR⟩ : ∃ R, Hid (R = Qy.atom last k s) := ⟨_, Lib.hid rfl⟩
  rw [← HR.out]
  have Hfew : Hid (s.atoms.length ≤ 100) := Lib.hid hfew
  clear hfew
  have L : Hid (Loc g B mb last s w.heap.size 43 #[.int .i64 k, .bool false, .int .i64 0, .bool false, .int .i64 0, .bool false, .int .i64 0, .int .i64 0, .int .i64 0] w (w.alloc (.cells #[.int .i64 k, .bool false, .int .i64 0, .bool false, .int .i64 0, .bool false, .int .i64 0, .int .i64 0, .int .i64 0] 43))) := Lib.hid (Loc.new h _ _)
  have G := Lib.hid (Qy.grow_refl hN)
  clear h hN
  have hpg : w.heap.size ≠ g := by omega
  go_enter Tryd.func46, Tryd.ntmps46
  go_wp2_with fail
  refine (lSignC g B mb last 40 s _ L.out.st).mono ?_
  intro e w1 he
  cases hv : Qy.signT last 40 s with
  | bad x1 x2 =>
    rw [hv] at he
    have hR2 := Qy.go_bad HR.out hv
    obtain ⟨he, hfr⟩ := he
    unfold FailAt at he
    subst he
    exact ⟨rfl, by rw [hR2]; exact ⟨rfl, L.out.fr.trans hfr⟩⟩
  | ok u s1 =>
    rw [hv] at he
    replace HR := Lib.hid (Qy.go_ok HR.out hv)
    obtain ⟨he, hs2, hfr⟩ := he
    replace L := Lib.hid (L.out.step hfr hs2)
    replace G := Lib.hid (G.out.trans (Qy.need_grow last G.out.nm hv))
    clear hv hs2 hfr
    unfold uV at he
    subst he
    go_wp2_with fail
    refine (lArgument g B mb last s1 _ L.out.st).mono ?_
    intro e w2 he
    cases hv : Qy.argument last s1 with
    | bad x1 x2 =>
      rw [hv] at he
      have hR2 := Qy.go_bad HR.out hv
      obtain ⟨he, hfr⟩ := he
      unfold FailAt at he
      subst he
      exact ⟨rfl, by rw [hR2]; exact ⟨rfl, L.out.fr.trans hfr⟩⟩
    | ok x s2 =>
      rw [hv] at he
      replace HR := Lib.hid (Qy.go_ok HR.out hv)
      obtain ⟨he, hs2, hfr⟩ := he
      replace L := Lib.hid (L.out.step hfr hs2)
      replace G := Lib.hid (G.out.trans (Qy.arg_grow last G.out.nm hv).1)
      clear hv hs2 hfr
      unfold aV at he
      subst he
      have xf1 := L.out.blk.free 1; have xf2 := L.out.blk.free 2; have x1 := L.out.blk.cell 1; have x2 := L.out.blk.cell 2
      simp at x1 x2
      replace L : Hid (Loc g B mb last s2 w.heap.size 43 #[.int .i64 k, .bool x.var, .int .i64 x.n, .bool false, .int .i64 0, .bool false, .int .i64 0, .int .i64 0, .int .i64 0] w _) := Lib.hid (by have := (L.out.set 1 (.bool x.var)).set 2 (.int .i64 x.n); simpa using this)
      go_wp2_with fail
      refine (lSignC g B mb last 44 s2 _ L.out.st).mono ?_
      intro e w3 he
      cases hv : Qy.signT last 44 s2 with
      | bad x1 x2 =>
        rw [hv] at he
        have hR2 := Qy.go_bad HR.out hv
        obtain ⟨he, hfr⟩ := he
        unfold FailAt at he
        subst he
        exact ⟨rfl, by rw [hR2]; exact ⟨rfl, L.out.fr.trans hfr⟩⟩
      | ok u s3 =>
        rw [hv] at he
        replace HR := Lib.hid (Qy.go_ok HR.out hv)
        obtain ⟨he, hs2, hfr⟩ := he
        replace L := Lib.hid (L.out.step hfr hs2)
        replace G := Lib.hid (G.out.trans (Qy.need_grow last G.out.nm hv))
        clear hv hs2 hfr
        unfold uV at he
        subst he
        go_wp2_with fail
        refine (lArgument g B mb last s3 _ L.out.st).mono ?_
        intro e w4 he
        cases hv : Qy.argument last s3 with
        | bad x1 x2 =>
          rw [hv] at he
          have hR2 := Qy.go_bad HR.out hv
          obtain ⟨he, hfr⟩ := he
          unfold FailAt at he
          subst he
          exact ⟨rfl, by rw [hR2]; exact ⟨rfl, L.out.fr.trans hfr⟩⟩
        | ok y s4 =>
          rw [hv] at he
          replace HR := Lib.hid (Qy.go_ok HR.out hv)
          obtain ⟨he, hs2, hfr⟩ := he
          replace L := Lib.hid (L.out.step hfr hs2)
          replace G := Lib.hid (G.out.trans (Qy.arg_grow last G.out.nm hv).1)
          clear hv hs2 hfr
          unfold aV at he
          subst he
          have xf3 := L.out.blk.free 3; have xf4 := L.out.blk.free 4; have x3 := L.out.blk.cell 3; have x4 := L.out.blk.cell 4
          simp at x3 x4
          replace L : Hid (Loc g B mb last s4 w.heap.size 43 #[.int .i64 k, .bool x.var, .int .i64 x.n, .bool y.var, .int .i64 y.n, .bool false, .int .i64 0, .int .i64 0, .int .i64 0] w _) := Lib.hid (by have := (L.out.set 3 (.bool y.var)).set 4 (.int .i64 y.n); simpa using this)
          go_wp2_with fail
          refine (lSignC g B mb last 41 s4 _ L.out.st).mono ?_
          intro e w5 he
          cases hv : Qy.signT last 41 s4 with
          | bad x1 x2 =>
            rw [hv] at he
            have hR2 := Qy.go_bad HR.out hv
            obtain ⟨he, hfr⟩ := he
            unfold FailAt at he
            subst he
            exact ⟨rfl, by rw [hR2]; exact ⟨rfl, L.out.fr.trans hfr⟩⟩
          | ok u s5 =>
            rw [hv] at he
            replace HR := Lib.hid (Qy.go_ok HR.out hv)
            obtain ⟨he, hs2, hfr⟩ := he
            replace L := Lib.hid (L.out.step hfr hs2)
            replace G := Lib.hid (G.out.trans (Qy.need_grow last G.out.nm hv))
            clear hv hs2 hfr
            unfold uV at he
            subst he
            go_wp2_with fail
            refine (lSignC g B mb last 61 s5 _ L.out.st).mono ?_
            intro e w6 he
            cases hv : Qy.signT last 61 s5 with
            | bad x1 x2 =>
              rw [hv] at he
              have hR2 := Qy.go_bad HR.out hv
              obtain ⟨he, hfr⟩ := he
              unfold FailAt at he
              subst he
              exact ⟨rfl, by rw [hR2]; exact ⟨rfl, L.out.fr.trans hfr⟩⟩
            | ok u s6 =>
              rw [hv] at he
              replace HR := Lib.hid (Qy.go_ok HR.out hv)
              obtain ⟨he, hs2, hfr⟩ := he
              replace L := Lib.hid (L.out.step hfr hs2)
              replace G := Lib.hid (G.out.trans (Qy.need_grow last G.out.nm hv))
              clear hv hs2 hfr
              unfold uV at he
              subst he
              go_wp2_with fail
              refine (lArgument g B mb last s6 _ L.out.st).mono ?_
              intro e w7 he
              cases hv : Qy.argument last s6 with
              | bad x1 x2 =>
                rw [hv] at he
                have hR2 := Qy.go_bad HR.out hv
                obtain ⟨he, hfr⟩ := he
                unfold FailAt at he
                subst he
                exact ⟨rfl, by rw [hR2]; exact ⟨rfl, L.out.fr.trans hfr⟩⟩
              | ok z s7 =>
                rw [hv] at he
                replace HR := Lib.hid (Qy.go_ok HR.out hv)
                obtain ⟨he, hs2, hfr⟩ := he
                replace L := Lib.hid (L.out.step hfr hs2)
                replace G := Lib.hid (G.out.trans (Qy.arg_grow last G.out.nm hv).1)
                clear hv hs2 hfr
                unfold aV at he
                subst he
                have xf5 := L.out.blk.free 5; have xf6 := L.out.blk.free 6; have x5 := L.out.blk.cell 5; have x6 := L.out.blk.cell 6
                simp at x5 x6
                replace L : Hid (Loc g B mb last s7 w.heap.size 43 #[.int .i64 k, .bool x.var, .int .i64 x.n, .bool y.var, .int .i64 y.n, .bool z.var, .int .i64 z.n, .int .i64 0, .int .i64 0] w _) := Lib.hid (by have := (L.out.set 5 (.bool z.var)).set 6 (.int .i64 z.n); simpa using this)
                go_wp2_with fail
                refine (lWordAt g B mb last s7 _ L.out.st).mono ?_
                intro e w8 he
                cases hv : Qy.word last Qy.wAt s7 with
                | bad x1 x2 =>
                  rw [hv] at he
                  have hR2 := Qy.go_bad HR.out hv
                  obtain ⟨he, hfr⟩ := he
                  unfold FailAt at he
                  subst he
                  exact ⟨rfl, by rw [hR2]; exact ⟨rfl, L.out.fr.trans hfr⟩⟩
                | ok u s8 =>
                  rw [hv] at he
                  replace HR := Lib.hid (Qy.go_ok HR.out hv)
                  obtain ⟨he, hs2, hfr⟩ := he
                  replace L := Lib.hid (L.out.step hfr hs2)
                  replace G := Lib.hid (G.out.trans (Qy.need_grow last G.out.nm hv))
                  clear hv hs2 hfr
                  unfold uV at he
                  subst he
                  go_wp2_with fail
                  refine (lNumber g B mb last 1023 s8 _ L.out.st).mono ?_
                  intro e w9 he
                  cases hv : Qy.number last 1023 s8 with
                  | bad x1 x2 =>
                    rw [hv] at he
                    have hR2 := Qy.go_bad HR.out hv
                    obtain ⟨he, hfr⟩ := he
                    unfold FailAt at he
                    subst he
                    exact ⟨rfl, by rw [hR2]; exact ⟨rfl, L.out.fr.trans hfr⟩⟩
                  | ok t s9 =>
                    rw [hv] at he
                    replace HR := Lib.hid (Qy.go_ok HR.out hv)
                    obtain ⟨he, hs2, hfr⟩ := he
                    replace L := Lib.hid (L.out.step hfr hs2)
                    replace G := Lib.hid (G.out.trans (Qy.number_grow last G.out.nm hv).1)
                    clear hv hs2 hfr
                    unfold iV at he
                    subst he
                    have xf7 := L.out.blk.free 7; have x7 := L.out.blk.cell 7
                    simp at x7
                    replace L : Hid (Loc g B mb last s9 w.heap.size 43 #[.int .i64 k, .bool x.var, .int .i64 x.n, .bool y.var, .int .i64 y.n, .bool z.var, .int .i64 z.n, .int .i64 t, .int .i64 0] w _) := Lib.hid (by have := L.out.set 7 (.int .i64 t); simpa using this)
                    go_wp2_with fail
                    refine (lWordKnown g B mb last s9 _ L.out.st).mono ?_
                    intro e w10 he
                    cases hv : Qy.word last Qy.wKnown s9 with
                    | bad x1 x2 =>
                      rw [hv] at he
                      have hR2 := Qy.go_bad HR.out hv
                      obtain ⟨he, hfr⟩ := he
                      unfold FailAt at he
                      subst he
                      exact ⟨rfl, by rw [hR2]; exact ⟨rfl, L.out.fr.trans hfr⟩⟩
                    | ok u s10 =>
                      rw [hv] at he
                      replace HR := Lib.hid (Qy.go_ok HR.out hv)
                      obtain ⟨he, hs2, hfr⟩ := he
                      replace L := Lib.hid (L.out.step hfr hs2)
                      replace G := Lib.hid (G.out.trans (Qy.need_grow last G.out.nm hv))
                      clear hv hs2 hfr
                      unfold uV at he
                      subst he
                      go_wp2_with fail
                      refine (lNumber g B mb last 16777216 s10 _ L.out.st).mono ?_
                      intro e w11 he
                      cases hv : Qy.number last 16777216 s10 with
                      | bad x1 x2 =>
                        rw [hv] at he
                        have hR2 := Qy.go_bad HR.out hv
                        obtain ⟨he, hfr⟩ := he
                        unfold FailAt at he
                        subst he
                        exact ⟨rfl, by rw [hR2]; exact ⟨rfl, L.out.fr.trans hfr⟩⟩
                      | ok kn s11 =>
                        rw [hv] at he
                        replace HR := Lib.hid (Qy.go_ok HR.out hv)
                        obtain ⟨he, hs2, hfr⟩ := he
                        replace L := Lib.hid (L.out.step hfr hs2)
                        replace G := Lib.hid (G.out.trans (Qy.number_grow last G.out.nm hv).1)
                        clear hv hs2 hfr
                        unfold iV at he
                        subst he
                        have xf8 := L.out.blk.free 8; have x8 := L.out.blk.cell 8
                        simp at x8
                        replace L : Hid (Loc g B mb last s11 w.heap.size 43 #[.int .i64 k, .bool x.var, .int .i64 x.n, .bool y.var, .int .i64 y.n, .bool z.var, .int .i64 z.n, .int .i64 t, .int .i64 kn] w _) := Lib.hid (by have := L.out.set 8 (.int .i64 kn); simpa using this)
                        go_wp2_with fail
                        obtain ⟨W, hW⟩ : ∃ W, W = w11.setCell ⟨w.heap.size, 8, none⟩ (.int .i64 kn) := ⟨_, rfl⟩
                        rw [← hW]
                        have L1 := L.out
                        rw [← hW] at L1
                        have hfewN : s11.atoms.length ≤ 100 := by rw [G.out.atoms]; exact Hfew.out
                        have hsz : w.heap.size + 1 ≤ W.heap.size := by have := L1.blk.lt; omega
                        have xb0 := L1.blk.cell 0; have xb1 := L1.blk.cell 1; have xb2 := L1.blk.cell 2; have xb3 := L1.blk.cell 3; have xb4 := L1.blk.cell 4; have xb5 := L1.blk.cell 5; have xb6 := L1.blk.cell 6; have xb7 := L1.blk.cell 7; have xb8 := L1.blk.cell 8
                        simp at xb0 xb1 xb2 xb3 xb4 xb5 xb6 xb7 xb8
                        obtain ⟨⟨A, c, vN, vS, vA, vT, hb, hT, hcap, ho⟩, hk, hm, hB, hf, htx⟩ := L1.st
                        have y6 := hb.cell 6; have f6 := hb.free 6
                        have y6' := (hb.alloc (.cells #[.int .i64 k, .bool x.var, .int .i64 x.n, .bool y.var, .int .i64 y.n, .bool z.var, .int .i64 z.n, .int .i64 t, .int .i64 kn] 43)).cell 6
                        simp at y6 y6'
                        have Hfr := Lib.hid L1.fr
                        have Hown := Lib.hid ho.a
                        have HQ := Lib.hid (fun (w3 : World) gg cap hgrow hat hown => pst_atom (w2 := w3) (gg := gg) (cap := cap) (x := ⟨k, x, y, z, t, kn⟩) hb hT hcap ho hk hm hB hf htx (((Below.refl _ _).alloc (Nat.le_refl _) (.cells #[.int .i64 k, .bool x.var, .int .i64 x.n, .bool y.var, .int .i64 y.n, .bool z.var, .int .i64 z.n, .int .i64 t, .int .i64 kn] 43)).drew) hgrow hat hown)
                        replace HR : Hid (R = .ok () { s11 with atoms := s11.atoms ++ [⟨k, x, y, z, t, kn⟩] }) := Lib.hid HR.out
                        clear L hW L1 hb hT hcap ho hk hm hB hf htx
                        clear x1 xf1 x2 xf2 x3 xf3 x4 xf4 x5 xf5 x6 xf6 x7 xf7 x8 xf8
                        go_region_law (refine step_append_lies _ rfl _ _ _ rfl g 43 i0 _ 9 72 Tryd.underlying24 hi0 hz0 hz1 hz2 rfl (by omega) vA s11.atoms.length _ rfl ((Hown.out.alloc _).drew) ⟨W.heap.size, 0, none⟩ 1 1 [.int .i64 k, .bool x.var, .int .i64 x.n, .bool y.var, .int .i64 y.n, .bool z.var, .int .i64 z.n, .int .i64 t, .int .i64 kn] rfl rfl (World.news_of_block (cs := #[.int .i64 k, .bool x.var, .int .i64 x.n, .bool y.var, .int .i64 y.n, .bool z.var, .int .i64 z.n, .int .i64 t, .int .i64 kn]) (t := 43) (fr := (0, 0)) (heap_alloc_new W _)) (by simp [Value.oneCell']) (by omega) (by unfold maxLen; omega) (by omega) (by simp; omega) (W.heap.size + 1) (by simp) ?_; intro gg cap w3 hown3 hgrow3 hat3 hlt3; have hQ := HQ.out w3 gg cap hgrow3 (hat3.imp id (fun h => by omega)) hown3; have d6 := hQ.1.cell 6; have df6 := hQ.1.free 6; simp at d6; have HP := Lib.hid hQ.2; clear hQ hown3 hgrow3 hat3)
                        all_goals go_wp2
                        all_goals go_end0
                        all_goals (rw [HR.out]; exact ⟨rfl, HP.out.1, Hfr.out.trans HP.out.2⟩)
end Go.Proofs.YtjonaidancomgaaDoor

namespace Go.Proofs.YtjonaidancomgaaDoor
open Go.RowKit Go.Maps Go.WideMaps

theorem Tryd.infoTest : (Tryd.prog.info? 45).map (fun i => (i.zero, i.size, i.bytes)) = some (some (.agg #[.int .i64 0, .bool false, .int .i64 0, .bool false, .int .i64 0]), 5, 40) := by kernel_rfl
theorem lSkipC (g B mb : Nat) (last : Int) (c : UInt8) (s : Qy.St) (w : World) (h : PSt g B mb last s w) :
    Calls Tryd.prog 44 #[.pointer (some ⟨g, 0, none⟩), .int .i64 3, .string ⟨#[c]⟩] w fun e w' => e = .returned (.bool (Qy.skip 3 [c] s).1) ∧ PSt g B mb last (Qy.skip 3 [c] s).2 w' ∧ Fr g w w' := lSkip g B mb last 3 ⟨#[c]⟩ s w h

set_option maxRecDepth 20000 in
set_option maxHeartbeats 4000000 in
theorem lTest (g B mb : Nat) (last : Int) (s : Qy.St) (w : World) (h : PSt g B mb last s w) (hN : Qy.Nm s) (hfew : s.tests.length ≤ 100) :
    Calls Tryd.prog 47 #[.pointer (some ⟨g, 0, none⟩)] w (Par g B mb last w uV (Qy.test last s)) := by
  obtain ⟨i0, hi0, hz0, hz1, hz2⟩ := info_parts Tryd.infoTest
  obtain ⟨R, HR⟩ : ∃ R, Hid (R = Qy.test last s) := ⟨_, Lib.hid rfl⟩
  rw [← HR.out]
  have Hfew : Hid (s.tests.length ≤ 100) := Lib.hid hfew
  clear hfew
  have H := Lib.hid h
  have G := Lib.hid (Qy.grow_refl hN)
  clear h hN
  go_enter Tryd.func47, Tryd.ntmps47
  go_wp2_with fail
  refine (lArgument g B mb last s _ H.out).mono ?_
  intro e w1 he
  cases hv : Qy.argument last s with
  | bad x1 x2 =>
    rw [hv] at he
    have hR2 := Qy.go_bad HR.out hv
    obtain ⟨he, hfr⟩ := he
    unfold FailAt at he
    subst he
    exact ⟨rfl, by rw [hR2]; exact ⟨rfl, hfr⟩⟩
  | ok x s1 =>
    rw [hv] at he
    replace HR := Lib.hid (Qy.go_ok HR.out hv)
    obtain ⟨he, hs2, hfr⟩ := he
    unfold aV at he
    subst he
    have L : Hid (Loc g B mb last s1 w1.heap.size 45 #[.int .i64 0, .bool x.var, .int .i64 x.n, .bool false, .int .i64 0] w1 (w1.alloc (.cells #[.int .i64 0, .bool x.var, .int .i64 x.n, .bool false, .int .i64 0] 45))) := Lib.hid (Loc.new hs2 _ _)
    replace G := Lib.hid (G.out.trans (Qy.arg_grow last G.out.nm hv).1)
    have Hfr0 := Lib.hid hfr
    have hlt := hs2.lt
    have hpg : w1.heap.size ≠ g := by omega
    clear hv hs2 hfr H
    go_wp2_with fail
    refine (lSkipC g B mb last 60 s1 _ L.out.st).mono ?_
    rintro e w2 ⟨he, hs2, hfr⟩
    have hG := Qy.skip_grow (k := 3) (t := [60]) G.out.nm
    have hO60 : Hid (Qy.skip 3 [60] s1 = ((Qy.skip 3 [60] s1).1, (Qy.skip 3 [60] s1).2)) := Lib.hid rfl
    obtain ⟨s2, hqs2⟩ : ∃ s2, s2 = (Qy.skip 3 [60] s1).2 := ⟨_, rfl⟩
    rw [← hqs2] at hG hO60 hs2
    clear hqs2
    replace G := Lib.hid (G.out.trans hG)
    replace L := Lib.hid (L.out.step hfr hs2)
    clear hs2 hfr hG
    cases hb : (Qy.skip 3 [60] s1).1
    · rw [hb] at he hO60
      subst he
      clear hb
      go_wp2_with fail
      refine (lSkipC g B mb last 33 s2 _ L.out.st).mono ?_
      rintro e w3 ⟨he, hs2, hfr⟩
      have hG := Qy.skip_grow (k := 3) (t := [33]) G.out.nm
      have hO33 : Hid (Qy.skip 3 [33] s2 = ((Qy.skip 3 [33] s2).1, (Qy.skip 3 [33] s2).2)) := Lib.hid rfl
      obtain ⟨s3, hqs3⟩ : ∃ s3, s3 = (Qy.skip 3 [33] s2).2 := ⟨_, rfl⟩
      rw [← hqs3] at hG hO33 hs2
      clear hqs3
      replace G := Lib.hid (G.out.trans hG)
      replace L := Lib.hid (L.out.step hfr hs2)
      clear hs2 hfr hG
      cases hb : (Qy.skip 3 [33] s2).1
      · rw [hb] at he hO33
        subst he
        clear hb
        go_wp2_with fail
        refine (lSignC g B mb last 61 s3 _ L.out.st).mono ?_
        intro e w4 he
        cases hv : Qy.signT last 61 s3 with
        | bad x1 x2 =>
          rw [hv] at he
          have hop : Qy.oper last s1 = .bad x1 x2 := by unfold Qy.oper; rw [hO60.out]; simp only; rw [hO33.out]; simp only; rw [hv]; rfl
          have hR2 := Qy.go_bad HR.out hop
          obtain ⟨he, hfr⟩ := he
          unfold FailAt at he
          subst he
          exact ⟨rfl, by rw [hR2]; exact ⟨rfl, Hfr0.out.trans (L.out.fr.trans hfr)⟩⟩
        | ok u s4 =>
          rw [hv] at he
          have hop0 : Qy.oper last s1 = .ok (0) s4 := by unfold Qy.oper; rw [hO60.out]; simp only; rw [hO33.out]; simp only; rw [hv]; rfl
          have Hop := Lib.hid hop0
          obtain ⟨he, hs2, hfr⟩ := he
          replace L := Lib.hid (L.out.step hfr hs2)
          replace G := Lib.hid (G.out.trans (Qy.need_grow last G.out.nm hv))
          clear hv hs2 hfr hop0
          unfold uV at he
          subst he
          go_wp2_with fail
          have hop : Qy.oper last s1 = .ok (0) s4 := Hop.out
          replace HR := Lib.hid (Qy.go_ok HR.out hop)
          clear hop
          refine (lArgument g B mb last s4 _ L.out.st).mono ?_
          intro e w9 he
          cases hv : Qy.argument last s4 with
          | bad x1 x2 =>
            rw [hv] at he
            have hR2 := Qy.go_bad HR.out hv
            obtain ⟨he, hfr⟩ := he
            unfold FailAt at he
            subst he
            exact ⟨rfl, by rw [hR2]; exact ⟨rfl, Hfr0.out.trans (L.out.fr.trans hfr)⟩⟩
          | ok y s9 =>
            rw [hv] at he
            replace HR := Lib.hid (Qy.go_ok HR.out hv)
            obtain ⟨he, hs2, hfr⟩ := he
            replace L := Lib.hid (L.out.step hfr hs2)
            replace G := Lib.hid (G.out.trans (Qy.arg_grow last G.out.nm hv).1)
            clear hv hs2 hfr
            unfold aV at he
            subst he
            have xf3 := L.out.blk.free 3; have xf4 := L.out.blk.free 4; have x3 := L.out.blk.cell 3; have x4 := L.out.blk.cell 4
            simp at x3 x4
            replace L : Hid (Loc g B mb last s9 w1.heap.size 45 #[.int .i64 0, .bool x.var, .int .i64 x.n, .bool y.var, .int .i64 y.n] w1 _) := Lib.hid (by have := (L.out.set 3 (.bool y.var)).set 4 (.int .i64 y.n); simpa using this)
            go_wp2_with fail
            obtain ⟨W, hW⟩ : ∃ W, W = (w9.setCell ⟨w1.heap.size, 3, none⟩ (.bool y.var)).setCell ⟨w1.heap.size, 4, none⟩ (.int .i64 y.n) := ⟨_, rfl⟩
            rw [← hW]
            have L1 := L.out
            rw [← hW] at L1
            have hfewN : s9.tests.length ≤ 100 := by rw [G.out.tests]; exact Hfew.out
            have hsz : w1.heap.size + 1 ≤ W.heap.size := by have := L1.blk.lt; omega
            have xb0 := L1.blk.cell 0; have xb1 := L1.blk.cell 1; have xb2 := L1.blk.cell 2; have xb3 := L1.blk.cell 3; have xb4 := L1.blk.cell 4
            simp at xb0 xb1 xb2 xb3 xb4
            obtain ⟨⟨A, c, vN, vS, vA, vT, hb, hT, hcap, ho⟩, hk, hm, hB, hf, htx⟩ := L1.st
            have y7 := hb.cell 7; have f7 := hb.free 7
            have y7' := (hb.alloc (.cells #[.int .i64 0, .bool x.var, .int .i64 x.n, .bool y.var, .int .i64 y.n] 45)).cell 7
            simp at y7 y7'
            have Hfr := Lib.hid L1.fr
            have Hown := Lib.hid ho.t
            have HQ := Lib.hid (fun (w3 : World) gg cap hgrow hat hown => pst_test (w2 := w3) (gg := gg) (cap := cap) (x := ⟨0, x, y⟩) hb hT hcap ho hk hm hB hf htx (((Below.refl _ _).alloc (Nat.le_refl _) (.cells #[.int .i64 0, .bool x.var, .int .i64 x.n, .bool y.var, .int .i64 y.n] 45)).drew) hgrow hat hown)
            replace HR : Hid (R = .ok () { s9 with tests := s9.tests ++ [⟨0, x, y⟩] }) := Lib.hid HR.out
            clear L hW L1 hb hT hcap ho hk hm hB hf htx
            clear x3 x4 xf3 xf4
            go_region_law (refine step_append_lies _ rfl _ _ _ rfl g 45 i0 _ 5 40 Tryd.underlying25 hi0 hz0 hz1 hz2 rfl (by omega) vT s9.tests.length _ rfl ((Hown.out.alloc _).drew) ⟨W.heap.size, 0, none⟩ 1 1 [.int .i64 0, .bool x.var, .int .i64 x.n, .bool y.var, .int .i64 y.n] rfl rfl (World.news_of_block (cs := #[.int .i64 0, .bool x.var, .int .i64 x.n, .bool y.var, .int .i64 y.n]) (t := 45) (fr := (0, 0)) (heap_alloc_new W _)) (by simp [Value.oneCell']) (by omega) (by unfold maxLen; omega) (by omega) (by simp; omega) (W.heap.size + 1) (by simp) ?_; intro gg cap w3 hown3 hgrow3 hat3 hlt3; have hQ := HQ.out w3 gg cap hgrow3 (hat3.imp id (fun h => by omega)) hown3; have d7 := hQ.1.cell 7; have df7 := hQ.1.free 7; simp at d7; have HP := Lib.hid hQ.2; clear hQ hown3 hgrow3 hat3)
            all_goals go_wp2
            all_goals go_end0
            all_goals (rw [HR.out]; exact ⟨rfl, HP.out.1, Hfr0.out.trans (Hfr.out.trans HP.out.2)⟩)
      · rw [hb] at he hO33
        subst he
        clear hb
        have xf0 := L.out.blk.free 0; have x0 := L.out.blk.cell 0
        simp at x0
        replace L : Hid (Loc g B mb last s3 w1.heap.size 45 #[.int .i64 1, .bool x.var, .int .i64 x.n, .bool false, .int .i64 0] w1 _) := Lib.hid (by have := L.out.set 0 (.int .i64 1); simpa using this)
        go_wp2_with fail
        clear xf0 x0
        refine (lSignC g B mb last 61 s3 _ L.out.st).mono ?_
        intro e w4 he
        cases hv : Qy.signT last 61 s3 with
        | bad x1 x2 =>
          rw [hv] at he
          have hop : Qy.oper last s1 = .bad x1 x2 := by unfold Qy.oper; rw [hO60.out]; simp only; rw [hO33.out]; simp only; rw [hv]; rfl
          have hR2 := Qy.go_bad HR.out hop
          obtain ⟨he, hfr⟩ := he
          unfold FailAt at he
          subst he
          exact ⟨rfl, by rw [hR2]; exact ⟨rfl, Hfr0.out.trans (L.out.fr.trans hfr)⟩⟩
        | ok u s4 =>
          rw [hv] at he
          have hop0 : Qy.oper last s1 = .ok (1) s4 := by unfold Qy.oper; rw [hO60.out]; simp only; rw [hO33.out]; simp only; rw [hv]; rfl
          have Hop := Lib.hid hop0
          obtain ⟨he, hs2, hfr⟩ := he
          replace L := Lib.hid (L.out.step hfr hs2)
          replace G := Lib.hid (G.out.trans (Qy.need_grow last G.out.nm hv))
          clear hv hs2 hfr hop0
          unfold uV at he
          subst he
          go_wp2_with fail
          have hop : Qy.oper last s1 = .ok (1) s4 := Hop.out
          replace HR := Lib.hid (Qy.go_ok HR.out hop)
          clear hop
          refine (lArgument g B mb last s4 _ L.out.st).mono ?_
          intro e w9 he
          cases hv : Qy.argument last s4 with
          | bad x1 x2 =>
            rw [hv] at he
            have hR2 := Qy.go_bad HR.out hv
            obtain ⟨he, hfr⟩ := he
            unfold FailAt at he
            subst he
            exact ⟨rfl, by rw [hR2]; exact ⟨rfl, Hfr0.out.trans (L.out.fr.trans hfr)⟩⟩
          | ok y s9 =>
            rw [hv] at he
            replace HR := Lib.hid (Qy.go_ok HR.out hv)
            obtain ⟨he, hs2, hfr⟩ := he
            replace L := Lib.hid (L.out.step hfr hs2)
            replace G := Lib.hid (G.out.trans (Qy.arg_grow last G.out.nm hv).1)
            clear hv hs2 hfr
            unfold aV at he
            subst he
            have xf3 := L.out.blk.free 3; have xf4 := L.out.blk.free 4; have x3 := L.out.blk.cell 3; have x4 := L.out.blk.cell 4
            simp at x3 x4
            replace L : Hid (Loc g B mb last s9 w1.heap.size 45 #[.int .i64 1, .bool x.var, .int .i64 x.n, .bool y.var, .int .i64 y.n] w1 _) := Lib.hid (by have := (L.out.set 3 (.bool y.var)).set 4 (.int .i64 y.n); simpa using this)
            go_wp2_with fail
            obtain ⟨W, hW⟩ : ∃ W, W = (w9.setCell ⟨w1.heap.size, 3, none⟩ (.bool y.var)).setCell ⟨w1.heap.size, 4, none⟩ (.int .i64 y.n) := ⟨_, rfl⟩
            rw [← hW]
            have L1 := L.out
            rw [← hW] at L1
            have hfewN : s9.tests.length ≤ 100 := by rw [G.out.tests]; exact Hfew.out
            have hsz : w1.heap.size + 1 ≤ W.heap.size := by have := L1.blk.lt; omega
            have xb0 := L1.blk.cell 0; have xb1 := L1.blk.cell 1; have xb2 := L1.blk.cell 2; have xb3 := L1.blk.cell 3; have xb4 := L1.blk.cell 4
            simp at xb0 xb1 xb2 xb3 xb4
            obtain ⟨⟨A, c, vN, vS, vA, vT, hb, hT, hcap, ho⟩, hk, hm, hB, hf, htx⟩ := L1.st
            have y7 := hb.cell 7; have f7 := hb.free 7
            have y7' := (hb.alloc (.cells #[.int .i64 1, .bool x.var, .int .i64 x.n, .bool y.var, .int .i64 y.n] 45)).cell 7
            simp at y7 y7'
            have Hfr := Lib.hid L1.fr
            have Hown := Lib.hid ho.t
            have HQ := Lib.hid (fun (w3 : World) gg cap hgrow hat hown => pst_test (w2 := w3) (gg := gg) (cap := cap) (x := ⟨1, x, y⟩) hb hT hcap ho hk hm hB hf htx (((Below.refl _ _).alloc (Nat.le_refl _) (.cells #[.int .i64 1, .bool x.var, .int .i64 x.n, .bool y.var, .int .i64 y.n] 45)).drew) hgrow hat hown)
            replace HR : Hid (R = .ok () { s9 with tests := s9.tests ++ [⟨1, x, y⟩] }) := Lib.hid HR.out
            clear L hW L1 hb hT hcap ho hk hm hB hf htx
            clear x3 x4 xf3 xf4
            go_region_law (refine step_append_lies _ rfl _ _ _ rfl g 45 i0 _ 5 40 Tryd.underlying25 hi0 hz0 hz1 hz2 rfl (by omega) vT s9.tests.length _ rfl ((Hown.out.alloc _).drew) ⟨W.heap.size, 0, none⟩ 1 1 [.int .i64 1, .bool x.var, .int .i64 x.n, .bool y.var, .int .i64 y.n] rfl rfl (World.news_of_block (cs := #[.int .i64 1, .bool x.var, .int .i64 x.n, .bool y.var, .int .i64 y.n]) (t := 45) (fr := (0, 0)) (heap_alloc_new W _)) (by simp [Value.oneCell']) (by omega) (by unfold maxLen; omega) (by omega) (by simp; omega) (W.heap.size + 1) (by simp) ?_; intro gg cap w3 hown3 hgrow3 hat3 hlt3; have hQ := HQ.out w3 gg cap hgrow3 (hat3.imp id (fun h => by omega)) hown3; have d7 := hQ.1.cell 7; have df7 := hQ.1.free 7; simp at d7; have HP := Lib.hid hQ.2; clear hQ hown3 hgrow3 hat3)
            all_goals go_wp2
            all_goals go_end0
            all_goals (rw [HR.out]; exact ⟨rfl, HP.out.1, Hfr0.out.trans (Hfr.out.trans HP.out.2)⟩)
    · rw [hb] at he hO60
      subst he
      clear hb
      have xf0 := L.out.blk.free 0; have x0 := L.out.blk.cell 0
      simp at x0
      replace L : Hid (Loc g B mb last s2 w1.heap.size 45 #[.int .i64 (-2), .bool x.var, .int .i64 x.n, .bool false, .int .i64 0] w1 _) := Lib.hid (by have := L.out.set 0 (.int .i64 (-2)); simpa using this)
      go_wp2_with fail
      clear xf0 x0
      refine (lSkipC g B mb last 61 s2 _ L.out.st).mono ?_
      rintro e w3 ⟨he, hs2, hfr⟩
      have hG := Qy.skip_grow (k := 3) (t := [61]) G.out.nm
      have hO61 : Hid (Qy.skip 3 [61] s2 = ((Qy.skip 3 [61] s2).1, (Qy.skip 3 [61] s2).2)) := Lib.hid rfl
      obtain ⟨s3, hqs3⟩ : ∃ s3, s3 = (Qy.skip 3 [61] s2).2 := ⟨_, rfl⟩
      rw [← hqs3] at hG hO61 hs2
      clear hqs3
      replace G := Lib.hid (G.out.trans hG)
      replace L := Lib.hid (L.out.step hfr hs2)
      clear hs2 hfr hG
      cases hb : (Qy.skip 3 [61] s2).1
      · rw [hb] at he hO61
        subst he
        clear hb
        go_wp2_with fail
        have hop : Qy.oper last s1 = .ok (-2) s3 := by unfold Qy.oper; rw [hO60.out]; simp only; rw [hO61.out]
        replace HR := Lib.hid (Qy.go_ok HR.out hop)
        clear hop
        refine (lArgument g B mb last s3 _ L.out.st).mono ?_
        intro e w9 he
        cases hv : Qy.argument last s3 with
        | bad x1 x2 =>
          rw [hv] at he
          have hR2 := Qy.go_bad HR.out hv
          obtain ⟨he, hfr⟩ := he
          unfold FailAt at he
          subst he
          exact ⟨rfl, by rw [hR2]; exact ⟨rfl, Hfr0.out.trans (L.out.fr.trans hfr)⟩⟩
        | ok y s9 =>
          rw [hv] at he
          replace HR := Lib.hid (Qy.go_ok HR.out hv)
          obtain ⟨he, hs2, hfr⟩ := he
          replace L := Lib.hid (L.out.step hfr hs2)
          replace G := Lib.hid (G.out.trans (Qy.arg_grow last G.out.nm hv).1)
          clear hv hs2 hfr
          unfold aV at he
          subst he
          have xf3 := L.out.blk.free 3; have xf4 := L.out.blk.free 4; have x3 := L.out.blk.cell 3; have x4 := L.out.blk.cell 4
          simp at x3 x4
          replace L : Hid (Loc g B mb last s9 w1.heap.size 45 #[.int .i64 (-2), .bool x.var, .int .i64 x.n, .bool y.var, .int .i64 y.n] w1 _) := Lib.hid (by have := (L.out.set 3 (.bool y.var)).set 4 (.int .i64 y.n); simpa using this)
          go_wp2_with fail
          obtain ⟨W, hW⟩ : ∃ W, W = (w9.setCell ⟨w1.heap.size, 3, none⟩ (.bool y.var)).setCell ⟨w1.heap.size, 4, none⟩ (.int .i64 y.n) := ⟨_, rfl⟩
          rw [← hW]
          have L1 := L.out
          rw [← hW] at L1
          have hfewN : s9.tests.length ≤ 100 := by rw [G.out.tests]; exact Hfew.out
          have hsz : w1.heap.size + 1 ≤ W.heap.size := by have := L1.blk.lt; omega
          have xb0 := L1.blk.cell 0; have xb1 := L1.blk.cell 1; have xb2 := L1.blk.cell 2; have xb3 := L1.blk.cell 3; have xb4 := L1.blk.cell 4
          simp at xb0 xb1 xb2 xb3 xb4
          obtain ⟨⟨A, c, vN, vS, vA, vT, hb, hT, hcap, ho⟩, hk, hm, hB, hf, htx⟩ := L1.st
          have y7 := hb.cell 7; have f7 := hb.free 7
          have y7' := (hb.alloc (.cells #[.int .i64 (-2), .bool x.var, .int .i64 x.n, .bool y.var, .int .i64 y.n] 45)).cell 7
          simp at y7 y7'
          have Hfr := Lib.hid L1.fr
          have Hown := Lib.hid ho.t
          have HQ := Lib.hid (fun (w3 : World) gg cap hgrow hat hown => pst_test (w2 := w3) (gg := gg) (cap := cap) (x := ⟨-2, x, y⟩) hb hT hcap ho hk hm hB hf htx (((Below.refl _ _).alloc (Nat.le_refl _) (.cells #[.int .i64 (-2), .bool x.var, .int .i64 x.n, .bool y.var, .int .i64 y.n] 45)).drew) hgrow hat hown)
          replace HR : Hid (R = .ok () { s9 with tests := s9.tests ++ [⟨-2, x, y⟩] }) := Lib.hid HR.out
          clear L hW L1 hb hT hcap ho hk hm hB hf htx
          clear x3 x4 xf3 xf4
          go_region_law (refine step_append_lies _ rfl _ _ _ rfl g 45 i0 _ 5 40 Tryd.underlying25 hi0 hz0 hz1 hz2 rfl (by omega) vT s9.tests.length _ rfl ((Hown.out.alloc _).drew) ⟨W.heap.size, 0, none⟩ 1 1 [.int .i64 (-2), .bool x.var, .int .i64 x.n, .bool y.var, .int .i64 y.n] rfl rfl (World.news_of_block (cs := #[.int .i64 (-2), .bool x.var, .int .i64 x.n, .bool y.var, .int .i64 y.n]) (t := 45) (fr := (0, 0)) (heap_alloc_new W _)) (by simp [Value.oneCell']) (by omega) (by unfold maxLen; omega) (by omega) (by simp; omega) (W.heap.size + 1) (by simp) ?_; intro gg cap w3 hown3 hgrow3 hat3 hlt3; have hQ := HQ.out w3 gg cap hgrow3 (hat3.imp id (fun h => by omega)) hown3; have d7 := hQ.1.cell 7; have df7 := hQ.1.free 7; simp at d7; have HP := Lib.hid hQ.2; clear hQ hown3 hgrow3 hat3)
          all_goals go_wp2
          all_goals go_end0
          all_goals (rw [HR.out]; exact ⟨rfl, HP.out.1, Hfr0.out.trans (Hfr.out.trans HP.out.2)⟩)
      · rw [hb] at he hO61
        subst he
        clear hb
        have xf0 := L.out.blk.free 0; have x0 := L.out.blk.cell 0
        simp at x0
        replace L : Hid (Loc g B mb last s3 w1.heap.size 45 #[.int .i64 (-1), .bool x.var, .int .i64 x.n, .bool false, .int .i64 0] w1 _) := Lib.hid (by have := L.out.set 0 (.int .i64 (-1)); simpa using this)
        go_wp2_with fail
        clear xf0 x0
        have hop : Qy.oper last s1 = .ok (-1) s3 := by unfold Qy.oper; rw [hO60.out]; simp only; rw [hO61.out]
        replace HR := Lib.hid (Qy.go_ok HR.out hop)
        clear hop
        refine (lArgument g B mb last s3 _ L.out.st).mono ?_
        intro e w9 he
        cases hv : Qy.argument last s3 with
        | bad x1 x2 =>
          rw [hv] at he
          have hR2 := Qy.go_bad HR.out hv
          obtain ⟨he, hfr⟩ := he
          unfold FailAt at he
          subst he
          exact ⟨rfl, by rw [hR2]; exact ⟨rfl, Hfr0.out.trans (L.out.fr.trans hfr)⟩⟩
        | ok y s9 =>
          rw [hv] at he
          replace HR := Lib.hid (Qy.go_ok HR.out hv)
          obtain ⟨he, hs2, hfr⟩ := he
          replace L := Lib.hid (L.out.step hfr hs2)
          replace G := Lib.hid (G.out.trans (Qy.arg_grow last G.out.nm hv).1)
          clear hv hs2 hfr
          unfold aV at he
          subst he
          have xf3 := L.out.blk.free 3; have xf4 := L.out.blk.free 4; have x3 := L.out.blk.cell 3; have x4 := L.out.blk.cell 4
          simp at x3 x4
          replace L : Hid (Loc g B mb last s9 w1.heap.size 45 #[.int .i64 (-1), .bool x.var, .int .i64 x.n, .bool y.var, .int .i64 y.n] w1 _) := Lib.hid (by have := (L.out.set 3 (.bool y.var)).set 4 (.int .i64 y.n); simpa using this)
          go_wp2_with fail
          obtain ⟨W, hW⟩ : ∃ W, W = (w9.setCell ⟨w1.heap.size, 3, none⟩ (.bool y.var)).setCell ⟨w1.heap.size, 4, none⟩ (.int .i64 y.n) := ⟨_, rfl⟩
          rw [← hW]
          have L1 := L.out
          rw [← hW] at L1
          have hfewN : s9.tests.length ≤ 100 := by rw [G.out.tests]; exact Hfew.out
          have hsz : w1.heap.size + 1 ≤ W.heap.size := by have := L1.blk.lt; omega
          have xb0 := L1.blk.cell 0; have xb1 := L1.blk.cell 1; have xb2 := L1.blk.cell 2; have xb3 := L1.blk.cell 3; have xb4 := L1.blk.cell 4
          simp at xb0 xb1 xb2 xb3 xb4
          obtain ⟨⟨A, c, vN, vS, vA, vT, hb, hT, hcap, ho⟩, hk, hm, hB, hf, htx⟩ := L1.st
          have y7 := hb.cell 7; have f7 := hb.free 7
          have y7' := (hb.alloc (.cells #[.int .i64 (-1), .bool x.var, .int .i64 x.n, .bool y.var, .int .i64 y.n] 45)).cell 7
          simp at y7 y7'
          have Hfr := Lib.hid L1.fr
          have Hown := Lib.hid ho.t
          have HQ := Lib.hid (fun (w3 : World) gg cap hgrow hat hown => pst_test (w2 := w3) (gg := gg) (cap := cap) (x := ⟨-1, x, y⟩) hb hT hcap ho hk hm hB hf htx (((Below.refl _ _).alloc (Nat.le_refl _) (.cells #[.int .i64 (-1), .bool x.var, .int .i64 x.n, .bool y.var, .int .i64 y.n] 45)).drew) hgrow hat hown)
          replace HR : Hid (R = .ok () { s9 with tests := s9.tests ++ [⟨-1, x, y⟩] }) := Lib.hid HR.out
          clear L hW L1 hb hT hcap ho hk hm hB hf htx
          clear x3 x4 xf3 xf4
          go_region_law (refine step_append_lies _ rfl _ _ _ rfl g 45 i0 _ 5 40 Tryd.underlying25 hi0 hz0 hz1 hz2 rfl (by omega) vT s9.tests.length _ rfl ((Hown.out.alloc _).drew) ⟨W.heap.size, 0, none⟩ 1 1 [.int .i64 (-1), .bool x.var, .int .i64 x.n, .bool y.var, .int .i64 y.n] rfl rfl (World.news_of_block (cs := #[.int .i64 (-1), .bool x.var, .int .i64 x.n, .bool y.var, .int .i64 y.n]) (t := 45) (fr := (0, 0)) (heap_alloc_new W _)) (by simp [Value.oneCell']) (by omega) (by unfold maxLen; omega) (by omega) (by simp; omega) (W.heap.size + 1) (by simp) ?_; intro gg cap w3 hown3 hgrow3 hat3 hlt3; have hQ := HQ.out w3 gg cap hgrow3 (hat3.imp id (fun h => by omega)) hown3; have d7 := hQ.1.cell 7; have df7 := hQ.1.free 7; simp at d7; have HP := Lib.hid hQ.2; clear hQ hown3 hgrow3 hat3)
          all_goals go_wp2
          all_goals go_end0
          all_goals (rw [HR.out]; exact ⟨rfl, HP.out.1, Hfr0.out.trans (Hfr.out.trans HP.out.2)⟩)
end Go.Proofs.YtjonaidancomgaaDoor
