/- Parts of the proof, joined into one text: QyCheck. -/
import Derived.Test.YtjonaidancomgaaDoorZQyFin
import Derived.Test.YtjonaidancomgaaDoorZQyStartB
import Derived.StillTailTactics

namespace Go.Proofs.YtjonaidancomgaaDoor
open Go.RowKit Go.Maps Go.WideMaps
attribute [local go_sem] Oper.semAt_some

def CheckPost (q : Qy.Query) (w : World) (e : Ending) (w' : World) : Prop := e = .returned (.int .i64 (if Qy.valid q then 0 else 500)) ∧ Below w.heap.size w w'
theorem check_end (q : Qy.Query) (w W : World) (r : Int) (tmps : Array Value) (h2 : tmps[2]? = some (.pointer (some ⟨w.heap.size + 1, 0, none⟩))) (hb : Blk W (w.heap.size + 1) 31 #[.int .i64 r]) (hbel : Below w.heap.size w W) (hr : r = if Qy.valid q then 0 else 500) :
    bodyPostM Fence.wide 3 Tryd.prog Tryd.f6 (CheckPost q w) .ret { tmps := tmps, defers := [] } W := by
  have d := hb.cell 0
  simp at d
  refine ⟨.int .i64 r, ?_, by rw [hr], hbel⟩
  simp [results, Tryd.results6, go_sem, h2, d]
theorem check_bad (q : Qy.Query) (w W : World) (x : Value) (n : Nat) (tmps : Array Value) (h2 : tmps[2]? = some (.pointer (some ⟨w.heap.size + 1, 0, none⟩))) (hb : Blk W (w.heap.size + 1) 31 #[x]) (hbel : Below w.heap.size w W) (hr : Qy.valid q = false) :
    bodyPostM Fence.wide 3 Tryd.prog Tryd.f6 (CheckPost q w) .ret { tmps := tmps, defers := [] } ((W.drewN n).setCell ⟨w.heap.size + 1, 0, none⟩ (.int .i64 500)) := by
  refine check_end q w _ 500 tmps h2 (by have := (Blk.drewN hb n).set 0 (.int .i64 500); simpa using this) ((bel_drewN hbel n).setCell (p := ⟨w.heap.size + 1, 0, none⟩) (show w.heap.size ≤ w.heap.size + 1 by omega) _) (by rw [hr]; rfl)

theorem kt_drewN (T : TypeId) (W : World) (n : Nat) : KT T W (W.drewN n) := ⟨Nat.le_refl _, fun _ _ _ h => h, fun _ _ h => h⟩
theorem keeps_drewN {W W' : World} (n : Nat) (h : KeepsOthers (W.drewN n) W') : KeepsOthers W W' := ⟨h.size, h.same⟩
theorem check_done (q : Qy.Query) (w W : World) (r : Int) (D : Nat) (tmps : Array Value) (h2 : tmps[2]? = some (.pointer (some ⟨w.heap.size + 1, 0, none⟩))) (hb : Blk W (w.heap.size + 1) 31 #[.int .i64 r]) (hbel : Below w.heap.size w W) (hr : r = if Qy.valid q then 0 else 500)
    (hdef : W.heap[D]? = some (.deferred (some []))) (hD : w.heap.size ≤ D) :
    bodyPostM Fence.wide 3 Tryd.prog Tryd.f6 (CheckPost q w) .ret { tmps := tmps, defers := [{ target := .collected D, args := #[] }] } W := by
  have hb2 := blk_put hb hdef (.deferred none)
  have hbel2 := below_put hbel hD (.deferred none)
  refine ⟨by simp, .inl ⟨D, _, rfl, run_takeDeferred hdef, ?_⟩⟩
  have d := hb2.cell 0
  simp at d
  refine ⟨.int .i64 r, ?_, by rw [hr], hbel2⟩
  simp [results, Tryd.results6, go_sem, h2, d]
theorem check_done2 (q : Qy.Query) (w W : World) (r : Int) (D E : Nat) (tmps : Array Value) (h2 : tmps[2]? = some (.pointer (some ⟨w.heap.size + 1, 0, none⟩))) (hb : Blk W (w.heap.size + 1) 31 #[.int .i64 r]) (hbel : Below w.heap.size w W) (hr : r = if Qy.valid q then 0 else 500)
    (hdef : W.heap[D]? = some (.deferred (some []))) (hD : w.heap.size ≤ D) (hdefE : W.heap[E]? = some (.deferred (some []))) (hE : w.heap.size ≤ E) (hne : E ≠ D) :
    bodyPostM Fence.wide 3 Tryd.prog Tryd.f6 (CheckPost q w) .ret { tmps := tmps, defers := [{ target := .collected E, args := #[] }, { target := .collected D, args := #[] }] } W := by
  have hb1 := blk_put hb hdefE (.deferred none)
  have hbel1 := below_put hbel hE (.deferred none)
  have hdef1 : (W.putObj E (.deferred none)).heap[D]? = some (.deferred (some [])) := (World.putObj_heap_other hne.symm).trans hdef
  refine ⟨by simp, .inl ⟨E, _, rfl, run_takeDeferred hdefE, ?_⟩⟩
  have hb2 := blk_put hb1 hdef1 (.deferred none)
  have hbel2 := below_put hbel1 hD (.deferred none)
  refine ⟨by simp, .inl ⟨D, _, rfl, run_takeDeferred hdef1, ?_⟩⟩
  have d := hb2.cell 0
  simp at d
  refine ⟨.int .i64 r, ?_, by rw [hr], hbel2⟩
  simp [results, Tryd.results6, go_sem, h2, d]

set_option maxRecDepth 20000 in
set_option maxHeartbeats 4000000 in
theorem lCheck (v : Value) (q : Qy.Query) (w : World) (he : EnvQ w) (h : QAt w w.heap.size v q) : Calls Tryd.prog 6 #[v] w (CheckPost q w) := by
  obtain ⟨⟨A0, c0, A1, c1, A2, c2, A3, c3, rfl, h0, h1, h2, h3⟩, htx⟩ := h
  have z0 := h0.len; have z1 := h1.len; have z2 := h2.len; have z3 := h3.len
  rw [List.length_map] at z0 z1 z2 z3
  have H0 := Lib.hid h0; have H1 := Lib.hid h1; have H2 := Lib.hid h2; have H3 := Lib.hid h3; have Htx := Lib.hid htx; have He := Lib.hid he
  clear h0 h1 h2 h3 htx he
  obtain ⟨n0, hn0⟩ : ∃ n0, n0 = q.names.length := ⟨_, rfl⟩
  obtain ⟨n1, hn1⟩ : ∃ n1, n1 = q.shown.length := ⟨_, rfl⟩
  obtain ⟨n2, hn2⟩ : ∃ n2, n2 = q.atoms.length := ⟨_, rfl⟩
  obtain ⟨n3, hn3⟩ : ∃ n3, n3 = q.tests.length := ⟨_, rfl⟩
  rw [← hn0] at z0 ⊢
  rw [← hn1] at z1 ⊢
  rw [← hn2] at z2 ⊢
  rw [← hn3] at z3 ⊢
  have Hn0 := Lib.hid hn0; have Hn1 := Lib.hid hn1; have Hn2 := Lib.hid hn2; have Hn3 := Lib.hid hn3
  clear hn0 hn1 hn2 hn3
  refine (callsIn_wide (n := 3)).1 ?_
  refine callsIn_of_wp_marks Tryd.func6 rfl trivial ?_ rfl
  refine wpIn_wide.2 ?_
  simp only [Tryd.ntmps6, List.size_toArray, List.length_cons, List.length_nil, Nat.reduceAdd, Nat.reduceSub, Array.replicate_succ, Array.replicate_zero, List.push_toArray, List.append_toArray, List.nil_append, List.cons_append]
  by_cases g0 : n0 ≤ 8
  case neg =>
    have Hbad : Hid (Qy.valid q = false) := Lib.hid (Qy.not_valid fun hv => g0 (by have := hv.n8; have := Hn0.out; omega))
    go_wp2_with fail
    exact check_end q w _ 500 _ rfl (Blk.new_at _ _ (by simp)) (((Below.refl _ _).alloc (Nat.le_refl _) _).alloc (by simp) _) (by rw [Hbad.out]; rfl)
  by_cases g1 : 1 ≤ (n1 : Int) ∧ (n1 : Int) ≤ 8
  case neg =>
    have Hbad : Hid (Qy.valid q = false) := Lib.hid (Qy.not_valid fun hv => g1 (by have := hv.sh; have := Hn1.out; omega))
    have hin := fun W => lInF n1 1 8 W g1
    have Hin := Lib.hid hin
    clear hin g1
    go_wp2_with fail
    refine (Hin.out _).mono ?_
    rintro e w2 ⟨rfl, rfl⟩
    go_wp2_with fail
    exact check_end q w _ 500 _ rfl (Blk.new_at _ _ (by simp)) (((Below.refl _ _).alloc (Nat.le_refl _) _).alloc (by simp) _) (by rw [Hbad.out]; rfl)
  have hin1 := fun W => lInT n1 1 8 W g1
  have Hin1 := Lib.hid hin1
  have Hg1 := Lib.hid g1
  have hn18 : n1 ≤ 8 := by omega
  clear hin1 g1
  by_cases g2 : 1 ≤ ((n2 + n3 : Nat) : Int) ∧ ((n2 + n3 : Nat) : Int) ≤ 16
  case neg =>
    have Hbad : Hid (Qy.valid q = false) := Lib.hid (Qy.not_valid fun hv => g2 (by have := hv.cs; have := Hn2.out; have := Hn3.out; omega))
    have hin := fun W => lInF ((n2 + n3 : Nat) : Int) 1 16 W g2
    have Hin := Lib.hid hin
    clear hin g2
    go_wp2_with fail
    refine (Hin1.out _).mono ?_
    rintro e w2 ⟨rfl, rfl⟩
    go_wp2_with fail
    refine (lConditions A0 A1 A2 A3 n0 n1 n2 n3 c0 c1 c2 c3 _ z2 z3).mono ?_
    rintro e w2 ⟨rfl, hb2⟩
    have B1 := (Blk.new_at (t := 31) (cs := #[.int .i64 0]) (w.alloc (.cells #[.slice A0 n0 c0, .slice A1 n1 c1, .slice A2 n2 c2, .slice A3 n3 c3] 27)) (w.heap.size + 1) (by simp)).below hb2 (by simp)
    have hbel := ((((Below.refl _ w).alloc (Nat.le_refl _) _).alloc (by simp) _).trans (hb2.mono (by simp; omega)))
    have HB1 := Lib.hid B1; have Hbel := Lib.hid hbel
    have d1 := B1.cell 0; have f1 := B1.free 0
    simp at d1
    clear B1 hbel hb2
    go_wp2_with fail
    refine (Hin.out _).mono ?_
    rintro e w3 ⟨rfl, rfl⟩
    go_wp2_with fail
    exact check_end q w _ 500 _ rfl (by have := HB1.out.set 0 (.int .i64 500); simpa using this) (Hbel.out.setCell (p := ⟨w.heap.size + 1, 0, none⟩) (show w.heap.size ≤ w.heap.size + 1 by omega) _) (by rw [Hbad.out]; rfl)
  have hin2 := fun W => lInT ((n2 + n3 : Nat) : Int) 1 16 W g2
  have hn23 : n2 + n3 ≤ 16 := by omega
  have Hin2 := Lib.hid hin2
  have Hg2 := Lib.hid g2
  clear hin2 g2
  go_wp2_with fail
  refine (Hin1.out _).mono ?_
  rintro e w2 ⟨rfl, rfl⟩
  go_wp2_with fail
  refine (lConditions A0 A1 A2 A3 n0 n1 n2 n3 c0 c1 c2 c3 _ z2 z3).mono ?_
  rintro e w2 ⟨rfl, hb2⟩
  have B0 := ((Blk.new_at (t := 27) (cs := #[.slice A0 n0 c0, .slice A1 n1 c1, .slice A2 n2 c2, .slice A3 n3 c3]) w w.heap.size rfl).alloc (.cells #[.int .i64 0] 31)).below hb2 (by simp; omega)
  have B1 := (Blk.new_at (t := 31) (cs := #[.int .i64 0]) (w.alloc (.cells #[.slice A0 n0 c0, .slice A1 n1 c1, .slice A2 n2 c2, .slice A3 n3 c3] 27)) (w.heap.size + 1) (by simp)).below hb2 (by simp)
  have hbel := ((((Below.refl _ w).alloc (Nat.le_refl _) _).alloc (by simp) _).trans (hb2.mono (by simp; omega)))
  have hE2 := He.out.next hbel
  go_wp2_with fail
  refine (Hin2.out _).mono ?_
  rintro e w3 ⟨rfl, rfl⟩
  have hs2 := hb2.size
  simp at hs2
  clear hb2
  go_wp2_with fail
  refine (lKinds w2 hE2).mono ?_
  rintro e w3 ⟨mb, rfl, hmb, hk3, hb3⟩
  have hs3 := hb3.size
  replace B0 := B0.below hb3 (by omega)
  replace B1 := B1.below hb3 (by omega)
  replace hbel := hbel.trans (hb3.mono (by omega))
  clear hb3 hE2
  have q0 := B0.cell 0; have q1 := B0.cell 1; have q2 := B0.cell 2; have q3 := B0.cell 3
  have d1 := B1.cell 0; have f1 := B1.free 0
  simp at q0 q1 q2 q3 d1
  have HB0 := Lib.hid B0; have HB1 := Lib.hid B1; have Hbel := Lib.hid hbel; have Hk3 := Lib.hid hk3
  clear B0 B1 hbel hk3
  go_wp2_with fail
  go_loop [36] (fun v36 => ∃ k : Nat, k ≤ n0 ∧ v36 = .int .i64 k ∧ Hid (∀ (j : Nat) (t : List UInt8), j < k → q.names[j]? = some t → (Lx.isName t = true ∧ Qy.kindOf t = 0) ∧ q.names.findIdx? (· == t) = some j)) (fun v36 => n0 - (intOf v36).toNat)
  case atStart => exact ⟨0, by omega, rfl, Lib.hid (fun j t hj => absurd hj (by omega))⟩
  case round =>
    obtain ⟨k, hk, rfl, hall⟩ := hrel
    by_cases hlt : k < n0
    · obtain ⟨t, ht⟩ : ∃ t, q.names[k]? = some t := ⟨_, List.getElem?_eq_getElem (by have := Hn0.out; omega)⟩
      have htl := Htx.out t (List.mem_of_getElem? ht)
      have hLn := H0.out.below Hbel.out (Nat.le_refl _)
      obtain ⟨b, o, rfl, hb, hc⟩ := hLn.at_ k (strC t) (by rw [List.getElem?_map, ht]; rfl)
      have hc1 := hc 0 _ rfl
      rw [Nat.mul_one, Nat.add_zero] at hc1
      have hls := Lx.bs_size t
      have hnm := fun W => lName (Lx.bs t) W (by rw [Lx.bs_size]; unfold maxLen; omega)
      have hlk := Hk3.out.look (Lx.bs t) (by rw [Lx.bs_size]; unfold maxLen; omega)
      have hix := lIndexStr (some ⟨b, o, none⟩) w.heap.size c0 q.names t w3 hLn
      rw [Lx.bs_list] at hlk
      rw [← Hn0.out] at hix
      have Ht := Lib.hid ht; have Hix := Lib.hid hix; have Hlk := Lib.hid hlk
      clear hc ht hLn hix hlk hls
      cases hN : Lx.isName t with
      | false =>
        have Hbad : Hid (Qy.valid q = false) := Lib.hid (Qy.not_valid fun hv => by have := (hv.names t (List.mem_of_getElem? Ht.out)).1; rw [hN] at this; cases this)
        rw [Lx.bs_list, hN] at hnm
        have Hnm := Lib.hid hnm
        clear hnm hN
        go_wp2_with fail
        refine (Hnm.out _).mono ?_
        rintro e w4 ⟨rfl, rfl⟩
        go_wp2_with fail
        exact check_end q w _ 500 _ rfl (by have := HB1.out.set 0 (.int .i64 500); simpa using this) (Hbel.out.setCell (p := ⟨w.heap.size + 1, 0, none⟩) (show w.heap.size ≤ w.heap.size + 1 by omega) _) (by rw [Hbad.out]; rfl)
      | true =>
        rw [Lx.bs_list, hN] at hnm
        have Hnm := Lib.hid hnm; have HN := Lib.hid hN
        clear hnm hN
        cases hK : ((Qy.kindOf t : Nat) : Int) != 0 with
        | true =>
          have Hbad : Hid (Qy.valid q = false) := Lib.hid (Qy.not_valid fun hv => by have := (hv.names t (List.mem_of_getElem? Ht.out)).2; rw [this] at hK; simp at hK)
          go_wp2_with fail
          refine (Hnm.out _).mono ?_
          rintro e w4 ⟨rfl, rfl⟩
          have hlk := Hlk.out
          go_wp2_with fail
          exact check_end q w _ 500 _ rfl (by have := HB1.out.set 0 (.int .i64 500); simpa using this) (Hbel.out.setCell (p := ⟨w.heap.size + 1, 0, none⟩) (show w.heap.size ≤ w.heap.size + 1 by omega) _) (by rw [Hbad.out]; rfl)
        | false =>
          have HK : Hid (Qy.kindOf t = 0) := Lib.hid (by have : ((Qy.kindOf t : Nat) : Int) = 0 := by simpa using hK
                                                         omega)
          cases hI : Qy.idx q.names t != (k : Int) with
          | true =>
            have Hbad : Hid (Qy.valid q = false) := Lib.hid (Qy.not_valid fun hv => Qy.idx_bad Ht.out hI hv.nodup)
            go_wp2_with fail
            refine (Hnm.out _).mono ?_
            rintro e w4 ⟨rfl, rfl⟩
            have hlk := Hlk.out
            go_wp2_with fail
            clear hlk
            refine Hix.out.mono ?_
            rintro e w4 ⟨rfl, rfl⟩
            go_wp2_with fail
            exact check_end q w _ 500 _ rfl (by have := HB1.out.set 0 (.int .i64 500); simpa using this) (Hbel.out.setCell (p := ⟨w.heap.size + 1, 0, none⟩) (show w.heap.size ≤ w.heap.size + 1 by omega) _) (by rw [Hbad.out]; rfl)
          | false =>
            have HI : Hid (q.names.findIdx? (· == t) = some k) := Lib.hid (Qy.idx_ne hI)
            go_wp2_with fail
            refine (Hnm.out _).mono ?_
            rintro e w4 ⟨rfl, rfl⟩
            have hlk := Hlk.out
            go_wp2_with fail
            clear hlk
            refine Hix.out.mono ?_
            rintro e w4 ⟨rfl, rfl⟩
            go_wp2_with fail
            go_round
            case rel => exact ⟨k + 1, by omega, by go_num, Lib.hid (fun j t' hj ht' => by
              rcases Nat.lt_or_ge j k with h1 | h1
              · exact hall.out j t' h1 ht'
              · obtain rfl : j = k := by omega
                rw [Ht.out] at ht'
                injection ht' with ht'
                subst ht'
                exact ⟨⟨HN.out, HK.out⟩, HI.out⟩)⟩
            case measure => simp [intOf]; omega
    · obtain rfl : n0 = k := by omega
      clear hk hlt
      have Hall := hall
      clear hall
      go_wp2_with fail
      clear q0
      go_loop [62] (fun v62 => ∃ k : Nat, k ≤ n1 ∧ v62 = .int .i64 k ∧ Hid (∀ (j : Nat) (t : Int), j < k → q.shown[j]? = some t → q.shown.findIdx? (· == t) = some j)) (fun v62 => n1 - (intOf v62).toNat)
      case atStart => exact ⟨0, by omega, rfl, Lib.hid (fun j t hj => absurd hj (by omega))⟩
      case round =>
        obtain ⟨i, hi, rfl, hall2⟩ := hrel
        by_cases hlt : i < n1
        · obtain ⟨t, ht⟩ : ∃ t, q.shown[i]? = some t := ⟨_, List.getElem?_eq_getElem (by have := Hn1.out; omega)⟩
          have hLn := H1.out.below Hbel.out (Nat.le_refl _)
          obtain ⟨b, o, rfl, hb, hc⟩ := hLn.at_ i (intC t) (by rw [List.getElem?_map, ht]; rfl)
          have hc1 := hc 0 _ rfl
          rw [Nat.mul_one, Nat.add_zero] at hc1
          have hix := lIndexInt (some ⟨b, o, none⟩) w.heap.size c1 q.shown t w3 hLn
          rw [← Hn1.out] at hix
          have Ht := Lib.hid ht; have Hix := Lib.hid hix
          clear hc ht hLn hix
          cases hI : Qy.idx q.shown t != (i : Int) with
          | true =>
            have Hbad : Hid (Qy.valid q = false) := Lib.hid (Qy.not_valid fun hv => Qy.idx_bad Ht.out hI hv.shown)
            go_wp2_with fail
            refine Hix.out.mono ?_
            rintro e w4 ⟨rfl, rfl⟩
            go_wp2_with fail
            exact check_end q w _ 500 _ rfl (by have := HB1.out.set 0 (.int .i64 500); simpa using this) (Hbel.out.setCell (p := ⟨w.heap.size + 1, 0, none⟩) (show w.heap.size ≤ w.heap.size + 1 by omega) _) (by rw [Hbad.out]; rfl)
          | false =>
            have HI : Hid (q.shown.findIdx? (· == t) = some i) := Lib.hid (Qy.idx_ne hI)
            go_wp2_with fail
            refine Hix.out.mono ?_
            rintro e w4 ⟨rfl, rfl⟩
            go_wp2_with fail
            go_round
            case rel => exact ⟨i + 1, by omega, by go_num, Lib.hid (fun j t' hj ht' => by
              rcases Nat.lt_or_ge j i with h1 | h1
              · exact hall2.out j t' h1 ht'
              · obtain rfl : j = i := by omega
                rw [Ht.out] at ht'
                injection ht' with ht'
                subst ht'
                exact HI.out)⟩
            case measure => simp [intOf]; omega
        · obtain rfl : n1 = i := by omega
          clear hi hlt
          have Hall2 := hall2
          clear hall2 q1
          go_wp2_with fail
          have hsz3 : w.heap.size + 1 < w3.heap.size := by omega
          go_loopw [77] (fun v77 wr => ∃ k : Nat, k ≤ n2 ∧ v77 = .int .i64 k ∧ Hid (∀ (j : Nat) (t : Qy.Atom), j < k → q.atoms[j]? = some t → Qy.KindsOk t) ∧ Below w3.heap.size w3 wr) (fun v77 _ => n2 - (intOf v77).toNat)
          case atStart => exact ⟨0, by omega, rfl, Lib.hid (fun j t hj => absurd hj (by omega)), Below.refl _ _⟩
          case round =>
            obtain ⟨k, hk, rfl, hall3, hbr⟩ := hrel
            by_cases hlt : k < n2
            · obtain ⟨t, ht⟩ : ∃ t, q.atoms[k]? = some t := ⟨_, List.getElem?_eq_getElem (by have := Hn2.out; omega)⟩
              have hLn := (H2.out.below Hbel.out (Nat.le_refl _)).below hbr (by omega)
              obtain ⟨b, o, rfl, hb, hc⟩ := hLn.at_ k (atomC t) (by rw [List.getElem?_map, ht]; rfl)
              have k0 := hc 0 _ rfl; have k1 := hc 1 _ rfl; have k2 := hc 2 _ rfl; have k3 := hc 3 _ rfl; have k4 := hc 4 _ rfl; have k5 := hc 5 _ rfl; have k6 := hc 6 _ rfl; have k7 := hc 7 _ rfl; have k8 := hc 8 _ rfl
              have hB1r := HB1.out.below hbr (by omega)
              have d1' := hB1r.cell 0; have f1' := hB1r.free 0
              simp at d1'
              have hszr := hbr.size
              have hNr : w.heap.size + 1 < wr.heap.size := by omega
              have HB1r := Lib.hid hB1r; have Hbr := Lib.hid hbr; have Ht := Lib.hid ht
              clear hB1r hbr ht hc hLn
              simp only [Nat.add_zero] at k0
              obtain ⟨tk, ts, tb, tv, tt, tn⟩ := t
              simp only at k0 k1 k2 k3 k4 k5 k6 k7 k8
              by_cases e1 : 1 ≤ tk ∧ tk ≤ 12
              case neg =>
                have Hbad : Hid (Qy.valid q = false) := Lib.hid (Qy.not_valid fun hv => e1 (hv.atoms _ (List.mem_of_getElem? Ht.out)).1)
                have hin := fun W => lInF tk 1 12 W e1
                have Hin := Lib.hid hin
                clear hin e1
                go_wp2_with fail
                refine (Hin.out _).mono ?_
                rintro e w4 ⟨rfl, rfl⟩
                go_wp2_with fail
                exact check_end q w _ 500 _ rfl (by have := (HB1r.out.set 0 (.int .i64 500)).alloc (.cells #[.int .i64 tk, .bool ts.var, .int .i64 ts.n, .bool tb.var, .int .i64 tb.n, .bool tv.var, .int .i64 tv.n, .int .i64 tt, .int .i64 tn] 43); simpa using this) (((Hbel.out.trans (Hbr.out.mono (by omega))).setCell (p := ⟨w.heap.size + 1, 0, none⟩) (show w.heap.size ≤ w.heap.size + 1 by omega) _).alloc (by simp; omega) _) (by rw [Hbad.out]; rfl)
              have hi1 := fun W => lInT tk 1 12 W e1
              have Hi1 := Lib.hid hi1
              have E1 := Lib.hid e1
              clear hi1 e1
              by_cases e2 : 0 ≤ tt ∧ tt ≤ 1023
              case neg =>
                have Hbad : Hid (Qy.valid q = false) := Lib.hid (Qy.not_valid fun hv => e2 (hv.atoms _ (List.mem_of_getElem? Ht.out)).2.1)
                have hin := fun W => lInF tt 0 1023 W e2
                have Hin := Lib.hid hin
                clear hin e2
                go_wp2_with fail
                refine (Hi1.out _).mono ?_
                rintro e w4 ⟨rfl, rfl⟩
                go_wp2_with fail
                refine (Hin.out _).mono ?_
                rintro e w4 ⟨rfl, rfl⟩
                go_wp2_with fail
                exact check_end q w _ 500 _ rfl (by have := (HB1r.out.set 0 (.int .i64 500)).alloc (.cells #[.int .i64 tk, .bool ts.var, .int .i64 ts.n, .bool tb.var, .int .i64 tb.n, .bool tv.var, .int .i64 tv.n, .int .i64 tt, .int .i64 tn] 43); simpa using this) (((Hbel.out.trans (Hbr.out.mono (by omega))).setCell (p := ⟨w.heap.size + 1, 0, none⟩) (show w.heap.size ≤ w.heap.size + 1 by omega) _).alloc (by simp; omega) _) (by rw [Hbad.out]; rfl)
              have hi2 := fun W => lInT tt 0 1023 W e2
              have Hi2 := Lib.hid hi2
              have E2 := Lib.hid e2
              clear hi2 e2
              by_cases e3 : 0 ≤ tn ∧ tn ≤ 16777216
              case neg =>
                have Hbad : Hid (Qy.valid q = false) := Lib.hid (Qy.not_valid fun hv => e3 (hv.atoms _ (List.mem_of_getElem? Ht.out)).2.2)
                have hin := fun W => lInF tn 0 16777216 W e3
                have Hin := Lib.hid hin
                clear hin e3
                go_wp2_with fail
                refine (Hi1.out _).mono ?_
                rintro e w4 ⟨rfl, rfl⟩
                go_wp2_with fail
                refine (Hi2.out _).mono ?_
                rintro e w4 ⟨rfl, rfl⟩
                go_wp2_with fail
                refine (Hin.out _).mono ?_
                rintro e w4 ⟨rfl, rfl⟩
                go_wp2_with fail
                exact check_end q w _ 500 _ rfl (by have := (HB1r.out.set 0 (.int .i64 500)).alloc (.cells #[.int .i64 tk, .bool ts.var, .int .i64 ts.n, .bool tb.var, .int .i64 tb.n, .bool tv.var, .int .i64 tv.n, .int .i64 tt, .int .i64 tn] 43); simpa using this) (((Hbel.out.trans (Hbr.out.mono (by omega))).setCell (p := ⟨w.heap.size + 1, 0, none⟩) (show w.heap.size ≤ w.heap.size + 1 by omega) _).alloc (by simp; omega) _) (by rw [Hbad.out]; rfl)
              have hi3 := fun W => lInT tn 0 16777216 W e3
              have Hi3 := Lib.hid hi3
              have E3 := Lib.hid e3
              clear hi3 e3
              go_wp2_with fail
              refine (Hi1.out _).mono ?_
              rintro e w4 ⟨rfl, rfl⟩
              go_wp2_with fail
              refine (Hi2.out _).mono ?_
              rintro e w4 ⟨rfl, rfl⟩
              go_wp2_with fail
              refine (Hi3.out _).mono ?_
              rintro e w4 ⟨rfl, rfl⟩
              go_wp2_with fail
              go_roundw
              case rel => exact ⟨k + 1, by omega, by go_num, Lib.hid (fun j t' hj ht' => by
                rcases Nat.lt_or_ge j k with h1 | h1
                · exact hall3.out j t' h1 ht'
                · obtain rfl : j = k := by omega
                  rw [Ht.out] at ht'
                  injection ht' with ht'
                  subst ht'
                  exact ⟨E1.out, E2.out, E3.out⟩), Hbr.out.alloc hszr _⟩
              case measure => simp [intOf]; omega
            · obtain rfl : n2 = k := by omega
              clear hk hlt
              have Hall3 := hall3
              have q3' := (hbr.cell (p := ⟨w.heap.size, 3, none⟩) (show w.heap.size < w3.heap.size by omega)).trans q3
              have HB := Lib.hid hbr
              clear hall3 q2 q3 hbr
              go_wp2_with fail
              go_loopw [101] (fun v101 wr => ∃ k : Nat, k ≤ n3 ∧ v101 = .int .i64 k ∧ Hid (∀ (j : Nat) (t : Qy.Test), j < k → q.tests[j]? = some t → -2 ≤ t.op ∧ t.op ≤ 1) ∧ Below w3.heap.size w3 wr) (fun v101 _ => n3 - (intOf v101).toNat)
              case atStart => exact ⟨0, by omega, rfl, Lib.hid (fun j t hj => absurd hj (by omega)), HB.out⟩
              case round =>
                obtain ⟨j3, hk, rfl, hall4, hbr⟩ := hrel
                by_cases hlt : j3 < n3
                · obtain ⟨t, ht⟩ : ∃ t, q.tests[j3]? = some t := ⟨_, List.getElem?_eq_getElem (by have := Hn3.out; omega)⟩
                  have hLn := (H3.out.below Hbel.out (Nat.le_refl _)).below hbr (by omega)
                  obtain ⟨b, o, rfl, hb, hc⟩ := hLn.at_ j3 (testC t) (by rw [List.getElem?_map, ht]; rfl)
                  have k0 := hc 0 _ rfl; have k1 := hc 1 _ rfl; have k2 := hc 2 _ rfl; have k3 := hc 3 _ rfl; have k4 := hc 4 _ rfl
                  have hB1r := HB1.out.below hbr (by omega)
                  have d1' := hB1r.cell 0; have f1' := hB1r.free 0
                  simp at d1'
                  have hszr := hbr.size
                  have hNr : w.heap.size + 1 < wr.heap.size := by omega
                  have HB1r := Lib.hid hB1r; have Hbr := Lib.hid hbr; have Ht := Lib.hid ht
                  clear hB1r hbr ht hc hLn
                  simp only [Nat.add_zero] at k0
                  obtain ⟨tk, ts, tb⟩ := t
                  simp only at k0 k1 k2 k3 k4
                  by_cases e1 : -2 ≤ tk ∧ tk ≤ 1
                  case neg =>
                    have Hbad : Hid (Qy.valid q = false) := Lib.hid (Qy.not_valid fun hv => e1 (hv.tests _ (List.mem_of_getElem? Ht.out)))
                    have hin := fun W => lInF tk (-2) 1 W e1
                    have Hin := Lib.hid hin
                    clear hin e1
                    go_wp2_with fail
                    refine (Hin.out _).mono ?_
                    rintro e w4 ⟨rfl, rfl⟩
                    go_wp2_with fail
                    exact check_end q w _ 500 _ rfl (by have := (HB1r.out.set 0 (.int .i64 500)).alloc (.cells #[.int .i64 tk, .bool ts.var, .int .i64 ts.n, .bool tb.var, .int .i64 tb.n] 45); simpa using this) (((Hbel.out.trans (Hbr.out.mono (by omega))).setCell (p := ⟨w.heap.size + 1, 0, none⟩) (show w.heap.size ≤ w.heap.size + 1 by omega) _).alloc (by simp; omega) _) (by rw [Hbad.out]; rfl)
                  have hi1 := fun W => lInT tk (-2) 1 W e1
                  have Hi1 := Lib.hid hi1
                  have E1 := Lib.hid e1
                  clear hi1 e1
                  go_wp2_with fail
                  refine (Hi1.out _).mono ?_
                  rintro e w4 ⟨rfl, rfl⟩
                  go_wp2_with fail
                  go_roundw
                  case rel => exact ⟨j3 + 1, by omega, by go_num, Lib.hid (fun j t' hj ht' => by
                    rcases Nat.lt_or_ge j j3 with h1 | h1
                    · exact hall4.out j t' h1 ht'
                    · obtain rfl : j = j3 := by omega
                      rw [Ht.out] at ht'
                      injection ht' with ht'
                      subst ht'
                      exact E1.out), Hbr.out.alloc hszr _⟩
                  case measure => simp [intOf]; omega
                · obtain rfl : n3 = j3 := by omega
                  clear hk hlt
                  have Hall4 := hall4; have HB4 := Lib.hid hbr
                  clear hall4 hbr
                  go_wp2_with fail
                  refine (lArguments _ _).mono ?_
                  rintro e w5 ⟨rfl, rfl⟩
                  go_wp2_with fail
                  obtain ⟨W0, hW0⟩ : ∃ W0, W0 = wr.alloc (.cells #[.pointer (some ⟨w.heap.size, 0, none⟩)] 58) := ⟨_, rfl⟩
                  rw [← hW0]
                  have hb4 := HB4.out
                  have hszr := hb4.size
                  have hbr0 : Below wr.heap.size wr W0 := by rw [hW0]; exact (Below.refl _ _).alloc (Nat.le_refl _) _
                  have hszW : W0.heap.size = wr.heap.size + 1 := by rw [hW0]; simp
                  have hbox : Blk W0 wr.heap.size 58 #[.pointer (some ⟨w.heap.size, 0, none⟩)] := by rw [hW0]; exact Blk.new _ _ _
                  have hQ0 := (HB0.out.below hb4 (by omega)).below hbr0 (by omega)
                  have hE0 := (HB1.out.below hb4 (by omega)).below hbr0 (by omega)
                  have hbw0 := (Hbel.out.trans (hb4.mono (by omega))).trans (hbr0.mono (by omega))
                  have hLS := H1.out.below hbw0 (Nat.le_refl _)
                  have hLA := H2.out.below hbw0 (Nat.le_refl _)
                  have hLT := H3.out.below hbw0 (Nat.le_refl _)
                  have HQ0 := Lib.hid hQ0; have HE0 := Lib.hid hE0; have Hbw0 := Lib.hid hbw0; have HLS := Lib.hid hLS; have HLA := Lib.hid hLA; have HLT := Lib.hid hLT; have Hbox := Lib.hid hbox
                  clear hW0 hb4 hbr0 hQ0 hE0 hbw0 hLS hLA hLT hbox q3'
                  have ha2 : 0 < n2 → ∃ b o, A2 = some ⟨b, o, none⟩ := fun h => by
                    obtain ⟨b, o, e, _⟩ := HLA.out.at_ 0 _ (by rw [List.getElem?_map, List.getElem?_eq_getElem (by have := Hn2.out; omega)]; rfl)
                    exact ⟨b, o, e⟩
                  have ha3 : 0 < n3 → ∃ b o, A3 = some ⟨b, o, none⟩ := fun h => by
                    obtain ⟨b, o, e, _⟩ := HLT.out.at_ 0 _ (by rw [List.getElem?_map, List.getElem?_eq_getElem (by have := Hn3.out; omega)]; rfl)
                    exact ⟨b, o, e⟩
                  obtain ⟨gs, hgs⟩ : ∃ gs, gs = Qy.allArgs q.atoms q.tests := ⟨_, rfl⟩
                  have hargs := fun (Y : World) (hY : Below W0.heap.size W0 Y) => Qy.arg_cells (HLA.out.below hY (by omega)) (HLT.out.below hY (by omega))
                  rw [← hgs, ← Hn2.out, ← Hn3.out] at hargs
                  obtain ⟨xs, hxs⟩ : ∃ xs, xs = Qy.argsAt A2 A3 n2 n3 := ⟨_, rfl⟩
                  rw [← hxs] at hargs
                  have hpre : ∀ Y, Below W0.heap.size W0 Y → ArgsPre wr.heap.size w.heap.size n2 n3 c2 c3 A2 A3 Y := fun Y hY => by
                    have hq := HQ0.out.below hY (by omega)
                    have q2 := hq.cell 2; have q3 := hq.cell 3
                    simp at q2 q3
                    exact ⟨Hbox.out.below hY (by omega), q2, q3, hq.lt⟩
                  have hseq := argsSeq 2 wr.heap.size w.heap.size n2 n3 c2 c3 A2 A3 (by omega) (by omega) ha2 ha3
                  rw [← hxs] at hseq
                  have hgl : gs.length = xs.length := by
                    have h1 := Qy.args_len_eq (atoms := q.atoms) (tests := q.tests) (A2 := A2) (A3 := A3) (by rw [← Hn2.out]; exact ha2) (by rw [← Hn3.out]; exact ha3)
                    rw [← Hn2.out, ← Hn3.out, ← hgs, ← hxs] at h1
                    exact h1
                  have Hargs := Lib.hid hargs; have Hpre := Lib.hid hpre; have Hseq := Lib.hid hseq; have Hgs := Lib.hid hgs; have Hxs := Lib.hid hxs; have Hgl := Lib.hid hgl
                  clear hargs hpre hseq hgs hxs hgl
                  refine (wpIn_wide (n := 3)).1 ?_
                  refine wpIn_rangeB (F := Fence.wide) (n := 3) rfl (fun h => (by cases h)) (gf := 34) (lb := #[.pointer (some ⟨wr.heap.size, 0, none⟩)]) rfl trivial (enters_of Tryd.func34 (by kernel_rfl) rfl)
                    Hseq.out Hpre.out (fun h k => KT.trans h k) (fun W l r r' _ h => KT.put W l r r' h) (fun _ => rfl)
                    (fun pre W => Below W0.heap.size W0 W ∧ Hid (∀ (j : Nat) (y : Qy.Arg), j < pre.length → gs[j]? = some y → Qy.NumOk y))
                    (fun c _ W => c = Code.ret ∧ Qy.valid q = false ∧ Blk W (w.heap.size + 1) 31 #[.int .i64 500] ∧ Below w.heap.size w W)
                    (fun pre W W' row hs hg hr => ⟨hs.1.grown hg hs.1.size (fun k e => (hr k e).1), hs.2⟩)
                    (fun c pre W W' row hs hg hr => ⟨hs.1, hs.2.1, blk_grown hs.2.2.1 hg (fun r e => (hr r e).2), hs.2.2.2.grown hg hs.2.2.2.size (fun k e => by have := (hr k e).1; omega)⟩)
                    (fun Y hY => ⟨hY, Lib.hid (fun j y hj => absurd hj (Nat.not_lt_zero j))⟩) ?a1 ?assign ?body ?done ?stop
                  case assign =>
                    intro lr x W K hK
                    gi_wp2
                    exact hK
                  case body =>
                    rintro lr pre x W ⟨hb, hall⟩ hpx
                    have hj : xs[pre.length]? = some x := by
                      obtain ⟨tl, htl⟩ := hpx
                      rw [← htl]; simp
                    obtain ⟨y, hy⟩ : ∃ y, gs[pre.length]? = some y := ⟨_, List.getElem?_eq_getElem (by rw [Hgl.out]; exact (List.getElem?_eq_some_iff.1 hj).1)⟩
                    obtain ⟨b, o, rfl, hblt, k1, k2⟩ := Hargs.out W hb _ _ _ hj hy
                    have Hb := Lib.hid hb; have Hy := Lib.hid hy
                    have hE := HE0.out.below hb (by omega)
                    have e0 := hE.cell 0; have ef := hE.free 0
                    simp at e0
                    have hszb := hb.size
                    have HE := Lib.hid hE
                    clear hb hy hj hpx hE
                    obtain ⟨yv, yn⟩ := y
                    simp only at k1 k2
                    cases yv with
                    | true =>
                      gi_wp2
                      refine ⟨trivial, ?_⟩
                      gi_wp2
                      refine ⟨KeepsFrom.refl _ _, KT.refl _ _, Hb.out, Lib.hid (fun j y hj hyj => ?_)⟩
                      rw [List.length_append, List.length_singleton] at hj
                      rcases Nat.lt_or_ge j pre.length with h1 | h1
                      · exact hall.out j y h1 hyj
                      · obtain rfl : j = pre.length := by omega
                        rw [Hy.out] at hyj
                        injection hyj with hyj
                        subst hyj
                        intro h
                        cases h
                    | false =>
                      by_cases hin : 0 ≤ yn ∧ yn ≤ 1099511627776
                      · have hi1 := fun W => lInT yn 0 1099511627776 W hin
                        have Hi1 := Lib.hid hi1; have Hin := Lib.hid hin
                        clear hi1 hin
                        gi_wp2
                        refine ⟨trivial, ?_⟩
                        refine (CallsIn.inRound lr (callsIn_wide.2 (Hi1.out _))).mono ?_
                        rintro e w' ⟨rfl, rfl⟩
                        gi_wp2
                        refine ⟨KeepsFrom.refl _ _, KT.refl _ _, Hb.out, Lib.hid (fun j y hj hyj => ?_)⟩
                        rw [List.length_append, List.length_singleton] at hj
                        rcases Nat.lt_or_ge j pre.length with h1 | h1
                        · exact hall.out j y h1 hyj
                        · obtain rfl : j = pre.length := by omega
                          rw [Hy.out] at hyj
                          injection hyj with hyj
                          subst hyj
                          intro _
                          exact Hin.out
                      · have hi1 := fun W => lInF yn 0 1099511627776 W hin
                        have Hbad : Qy.valid q = false := Qy.not_valid fun hv => hin (hv.args _ (by rw [← Hgs.out]; exact List.mem_of_getElem? Hy.out) rfl)
                        have HBad := Lib.hid Hbad
                        have Hi1 := Lib.hid hi1; have Hin := Lib.hid hin
                        clear hi1 hin Hbad
                        gi_wp2
                        refine ⟨trivial, ?_⟩
                        refine (CallsIn.inRound lr (callsIn_wide.2 (Hi1.out _))).mono ?_
                        rintro e w' ⟨rfl, rfl⟩
                        gi_wp2
                        exact ⟨(KeepsOthers.setCell _ _ _).from _, rfl, HBad.out, by have := HE.out.set 0 (.int .i64 500); simpa using this, (Hbw0.out.trans (Hb.out.mono (by omega))).setCell (p := ⟨w.heap.size + 1, 0, none⟩) (show w.heap.size ≤ w.heap.size + 1 by omega) _⟩
                  case done =>
                    rintro D W hD ⟨hb, hall⟩ hdef
                    go_wp2_with fail
                    refine (lVariables _ _).mono ?_
                    rintro e w6 ⟨rfl, rfl⟩
                    go_wp2_with fail
                    have hDlt : D < W.heap.size := (Array.getElem?_eq_some_iff.1 hdef).1
                    obtain ⟨W1, hW1⟩ : ∃ W1, W1 = (W.alloc (.cells #[.int .i64 0] 3)).alloc (.cells #[.pointer (some ⟨w.heap.size, 0, none⟩)] 58) := ⟨_, rfl⟩
                    rw [← hW1]
                    have hbW : Below W.heap.size W W1 := by rw [hW1]; exact ((Below.refl _ _).alloc (Nat.le_refl _) _).alloc (by simp) _
                    have hszW1 : W1.heap.size = W.heap.size + 2 := by rw [hW1]; simp
                    have hnx : Blk W1 W.heap.size 3 #[.int .i64 0] := by rw [hW1]; exact (Blk.new_at W _ rfl).alloc _
                    have hbx : Blk W1 (W.heap.size + 1) 58 #[.pointer (some ⟨w.heap.size, 0, none⟩)] := by rw [hW1]; exact Blk.new_at _ _ (by simp)
                    have hszb := hb.size
                    have hQW := HQ0.out.below hb (by omega)
                    have hEW := HE0.out.below hb (by omega)
                    have hbwW := Hbw0.out.trans (hb.mono (by omega))
                    have hLSW := HLS.out.below hb (by omega)
                    have hLAW := HLA.out.below hb (by omega)
                    have hLTW := HLT.out.below hb (by omega)
                    have HQW := Lib.hid hQW; have HEW := Lib.hid hEW; have HbwW := Lib.hid hbwW; have HLSW := Lib.hid hLSW; have HLAW := Lib.hid hLAW; have HLTW := Lib.hid hLTW; have Hbx := Lib.hid hbx; have HbW := Lib.hid hbW; have Hnx := Lib.hid hnx; have Hdef := Lib.hid hdef
                    have Hall5 : Hid (∀ a ∈ Qy.allArgs q.atoms q.tests, Qy.NumOk a) := Lib.hid (fun a ha => by
                      rw [← Hgs.out] at ha
                      obtain ⟨j, hj⟩ := List.getElem?_of_mem ha
                      exact hall.out j a (by rw [← Hgl.out]; exact (List.getElem?_eq_some_iff.1 hj).1) hj)
                    clear hW1 hb hall hdef hQW hEW hbwW hLSW hLAW hLTW hbx hbW hnx HQ0 HE0 Hbw0 HLS HLA HLT Hargs Hpre Hseq Hbox HB0 HB1 Hbel Hk3
                    have ha1 : 0 < n1 → ∃ b o, A1 = some ⟨b, o, none⟩ := fun h => by
                      obtain ⟨b, o, e, _⟩ := HLSW.out.at_ 0 _ (by rw [List.getElem?_map, List.getElem?_eq_getElem (by have := Hn1.out; omega)]; rfl)
                      exact ⟨b, o, e⟩
                    obtain ⟨V, hV⟩ : ∃ V, V = Qy.allVars q.shown (Qy.allArgs q.atoms q.tests) := ⟨_, rfl⟩
                    obtain ⟨ys, hys⟩ : ∃ ys, ys = Qy.varsAt A1 A2 A3 n1 n2 n3 gs := ⟨_, rfl⟩
                    have hvc := fun (Y : World) (hY : Below W.heap.size W Y) => Qy.var_cells (HLSW.out.below hY (by omega)) (HLAW.out.below hY (by omega)) (HLTW.out.below hY (by omega))
                    rw [← Hgs.out, ← Hn1.out, ← Hn2.out, ← Hn3.out, ← hys] at hvc
                    rw [← Hgs.out] at hV
                    rw [← hV] at hvc
                    have hpre : ∀ Y, Below W1.heap.size W1 Y → VarsPre (W.heap.size + 1) w.heap.size n1 n2 n3 c1 c2 c3 A1 A2 A3 gs Y := fun Y hY => by
                      have hY2 := HbW.out.trans (hY.mono (by omega))
                      have hq := HQW.out.below hY2 (by omega)
                      have q1 := hq.cell 1; have q2 := hq.cell 2; have q3 := hq.cell 3
                      simp at q1 q2 q3
                      refine ⟨Hbx.out.below hY (by omega), q1, q2, q3, hq.lt, by rw [Hgl.out, Hxs.out], fun i a x ha hx => ?_⟩
                      rw [Hgs.out] at hx
                      rw [Hn2.out, Hn3.out] at ha
                      obtain ⟨b, o, e, hlt, k1, _⟩ := Qy.arg_cells (HLAW.out.below hY2 (by omega)) (HLTW.out.below hY2 (by omega)) i a x ha hx
                      exact ⟨b, o, e, by have := hY2.size; omega, k1⟩
                    have hseq := varsSeq 2 (W.heap.size + 1) w.heap.size n1 n2 n3 c1 c2 c3 A1 A2 A3 gs (by omega) (by omega) (by omega) ha1 ha2 ha3
                    rw [← hys] at hseq
                    have Hvc := Lib.hid hvc; have Hpre := Lib.hid hpre; have Hseq := Lib.hid hseq; have HV := Lib.hid hV; have Hys := Lib.hid hys
                    clear hvc hpre hseq hV hys
                    refine (wpIn_wide (n := 3)).1 ?_
                    refine wpIn_rangeB (F := Fence.wide) (n := 3) rfl (fun h => (by cases h)) (gf := 35) (lb := #[.pointer (some ⟨W.heap.size + 1, 0, none⟩)]) rfl trivial (enters_of Tryd.func35 (by kernel_rfl) rfl)
                      Hseq.out Hpre.out (fun h k => KT.trans h k) (fun W l r r' _ h => KT.put W l r r' h) (fun _ => rfl)
                      (fun pre X => Below W.heap.size W X ∧ W1.heap.size ≤ X.heap.size ∧ ∃ nx : Nat, Blk X W.heap.size 3 #[.int .i64 nx] ∧ Hid (Qy.order n0 0 (V.take pre.length) = some (nx : Int)))
                      (fun c _ X => c = Code.ret ∧ Qy.valid q = false ∧ Blk X (w.heap.size + 1) 31 #[.int .i64 500] ∧ Below w.heap.size w X ∧ X.heap[D]? = some (.deferred (some [])))
                      (fun pre X X' row hs hg hr => ⟨hs.1.grown hg hs.1.size (fun k e => by have := (hr k e).1; omega), Nat.le_trans hs.2.1 hg.size, by
                        obtain ⟨nx, h1, h2⟩ := hs.2.2
                        exact ⟨nx, blk_grown h1 hg (fun r e => (hr r e).2), h2⟩⟩)
                      (fun c pre X X' row hs hg hr => ⟨hs.1, hs.2.1, blk_grown hs.2.2.1 hg (fun r e => (hr r e).2), hs.2.2.2.1.grown hg hs.2.2.2.1.size (fun k e => by have := (hr k e).1; omega), (hg.block D (Array.getElem?_eq_some_iff.1 hs.2.2.2.2).1 (fun e => by have := (hr D e.symm).1; omega)).trans hs.2.2.2.2⟩)
                      (fun Y hY => ⟨HbW.out.trans (hY.mono (by omega)), hY.size, 0, Hnx.out.below hY (by omega), Lib.hid rfl⟩) ?b1 ?assign2 ?body2 ?done2 ?stop2
                    case assign2 =>
                      intro lr x X K hK
                      gi_wp2
                      exact hK
                    case body2 =>
                      rintro lr pre x X ⟨hb, hszX, nx, hnx, hord⟩ hpx
                      have hj : ys[pre.length]? = some x := by
                        obtain ⟨tl, htl⟩ := hpx
                        rw [← htl]; simp
                      obtain ⟨hvl, hvat⟩ := Hvc.out X hb
                      obtain ⟨n, hn⟩ : ∃ n, V[pre.length]? = some n := ⟨_, List.getElem?_eq_getElem (by rw [← hvl]; exact (List.getElem?_eq_some_iff.1 hj).1)⟩
                      obtain ⟨b, o, rfl, hblt, k1⟩ := hvat _ _ _ hj hn
                      have hle := Qy.order_le n0 _ 0 _ (by omega) (by omega) hord.out
                      have hQ := HQW.out.below hb (by omega)
                      have q0 := hQ.cell 0
                      simp at q0
                      have hE := HEW.out.below hb (by omega)
                      have e0 := hE.cell 0; have ef := hE.free 0
                      have x0 := hnx.cell 0; have xf := hnx.free 0
                      simp at e0 x0
                      have hszb := hb.size
                      have Hb := Lib.hid hb; have Hn := Lib.hid hn; have HE := Lib.hid hE; have Hnx := Lib.hid hnx
                      clear hb hj hpx hvl hvat hn hQ hE hnx
                      have Hdx : Hid (X.heap[D]? = some (.deferred (some []))) := Lib.hid ((Hb.out.block D hDlt).trans Hdef.out)
                      by_cases h1 : n < 0
                      case pos =>
                        have Hbad : Hid (Qy.valid q = false) := Lib.hid (Qy.not_valid fun hv => by
                          have h1 := Qy.order_bad n0 Hn.out hord.out (show Qy.ordStep n0 nx n = none by unfold Qy.ordStep; rw [if_pos (by omega)])
                          have h2 := hv.order
                          rw [← Hgs.out, ← HV.out, ← Hn0.out, h1] at h2
                          cases h2)
                        gi_wp2
                        refine wpIn_region_quiet_round (F := Fence.wide) rfl (by kernel_rfl) (by kernel_rfl) (by kernel_rfl) ?_
                        repeat (quiet_step_in (fail))
                        refine wpQuietIn_nil ?_
                        intro _ hw'
                        obtain ⟨nq, hw''⟩ := hw'
                        subst hw''
                        gi_wp2
                        exact ⟨(keeps_drewN nq (KeepsOthers.setCell _ _ _)).from _, rfl, Hbad.out, by have := (Blk.drewN HE.out nq).set 0 (.int .i64 500); simpa using this, (bel_drewN (HbwW.out.trans (Hb.out.mono (by omega))) nq).setCell (p := ⟨w.heap.size + 1, 0, none⟩) (show w.heap.size ≤ w.heap.size + 1 by omega) _, (keeps_drewN nq (KeepsOthers.setCell _ _ _)).same D _ Hdx.out rfl⟩
                      by_cases h2 : (nx : Int) < n
                      case pos =>
                        have Hbad : Hid (Qy.valid q = false) := Lib.hid (Qy.not_valid fun hv => by
                          have h1 := Qy.order_bad n0 Hn.out hord.out (show Qy.ordStep n0 nx n = none by unfold Qy.ordStep; rw [if_pos (by omega)])
                          have h2 := hv.order
                          rw [← Hgs.out, ← HV.out, ← Hn0.out, h1] at h2
                          cases h2)
                        gi_wp2
                        refine wpIn_region_quiet_round (F := Fence.wide) rfl (by kernel_rfl) (by kernel_rfl) (by kernel_rfl) ?_
                        repeat (quiet_step_in (fail))
                        refine wpQuietIn_nil ?_
                        intro _ hw'
                        obtain ⟨nq, hw''⟩ := hw'
                        subst hw''
                        gi_wp2
                        exact ⟨(keeps_drewN nq (KeepsOthers.setCell _ _ _)).from _, rfl, Hbad.out, by have := (Blk.drewN HE.out nq).set 0 (.int .i64 500); simpa using this, (bel_drewN (HbwW.out.trans (Hb.out.mono (by omega))) nq).setCell (p := ⟨w.heap.size + 1, 0, none⟩) (show w.heap.size ≤ w.heap.size + 1 by omega) _, (keeps_drewN nq (KeepsOthers.setCell _ _ _)).same D _ Hdx.out rfl⟩
                      by_cases h3 : (n0 : Int) ≤ n
                      case pos =>
                        have Hbad : Hid (Qy.valid q = false) := Lib.hid (Qy.not_valid fun hv => by
                          have h1 := Qy.order_bad n0 Hn.out hord.out (show Qy.ordStep n0 nx n = none by unfold Qy.ordStep; rw [if_pos (by omega)])
                          have h2 := hv.order
                          rw [← Hgs.out, ← HV.out, ← Hn0.out, h1] at h2
                          cases h2)
                        gi_wp2
                        refine wpIn_region_quiet_round (F := Fence.wide) rfl (by kernel_rfl) (by kernel_rfl) (by kernel_rfl) ?_
                        repeat (quiet_step_in (fail))
                        refine wpQuietIn_nil ?_
                        intro _ hw'
                        obtain ⟨nq, hw''⟩ := hw'
                        subst hw''
                        gi_wp2
                        exact ⟨(keeps_drewN nq (KeepsOthers.setCell _ _ _)).from _, rfl, Hbad.out, by have := (Blk.drewN HE.out nq).set 0 (.int .i64 500); simpa using this, (bel_drewN (HbwW.out.trans (Hb.out.mono (by omega))) nq).setCell (p := ⟨w.heap.size + 1, 0, none⟩) (show w.heap.size ≤ w.heap.size + 1 by omega) _, (keeps_drewN nq (KeepsOthers.setCell _ _ _)).same D _ Hdx.out rfl⟩
                      by_cases h4 : n = nx
                      · have hst := Qy.order_next n0 Hn.out hord.out (show Qy.ordStep n0 nx n = some ((nx : Int) + 1) by unfold Qy.ordStep; rw [if_neg (by omega), if_pos h4])
                        have Hst := Lib.hid hst
                        have h5 : (n == (nx : Int)) = true := by simp [h4]
                        clear hst h4
                        gi_wp2
                        refine wpIn_region_quiet_round (F := Fence.wide) rfl (by kernel_rfl) (by kernel_rfl) (by kernel_rfl) ?_
                        repeat (quiet_step_in (fail))
                        refine wpQuietIn_nil ?_
                        intro _ hw'
                        obtain ⟨nq, hw''⟩ := hw'
                        subst hw''
                        gi_wp2
                        refine wpIn_region_quiet_round (F := Fence.wide) rfl (by kernel_rfl) (by kernel_rfl) (by kernel_rfl) ?_
                        repeat (quiet_step_in (fail))
                        refine wpQuietIn_nil ?_
                        intro _ hw'
                        obtain ⟨nr, hw''⟩ := hw'
                        subst hw''
                        gi_wp2
                        refine ⟨(keeps_drewN _ (KeepsOthers.setCell _ _ _)).from _, KT.set (Blk.drewN Hnx.out _) (by decide) (kt_drewN _ _ _) 0 _, (bel_drewN Hb.out _).setCell (p := ⟨W.heap.size, 0, none⟩) (Nat.le_refl _) _, by simpa [World.setCell] using hszX, nx + 1, ?_, Lib.hid ?_⟩
                        · have := (Blk.drewN Hnx.out (nq + nr)).set 0 (.int .i64 (((nx + 1 : Nat)) : Int))
                          simpa using this
                        · rw [List.length_append, List.length_singleton]
                          exact Hst.out
                      · have hst := Qy.order_next n0 Hn.out hord.out (show Qy.ordStep n0 nx n = some (nx : Int) by unfold Qy.ordStep; rw [if_neg (by omega), if_neg h4])
                        have Hst := Lib.hid hst
                        have h5 : (n == (nx : Int)) = false := by simp [h4]
                        clear hst h4
                        gi_wp2
                        refine wpIn_region_quiet_round (F := Fence.wide) rfl (by kernel_rfl) (by kernel_rfl) (by kernel_rfl) ?_
                        repeat (quiet_step_in (fail))
                        refine wpQuietIn_nil ?_
                        intro _ hw'
                        obtain ⟨nq, hw''⟩ := hw'
                        subst hw''
                        gi_wp2
                        refine wpIn_region_quiet_round (F := Fence.wide) rfl (by kernel_rfl) (by kernel_rfl) (by kernel_rfl) ?_
                        repeat (quiet_step_in (fail))
                        refine wpQuietIn_nil ?_
                        intro _ hw'
                        obtain ⟨nr, hw''⟩ := hw'
                        subst hw''
                        gi_wp2
                        rw [World.drewN_drewN]
                        refine ⟨(keeps_drewN _ (KeepsOthers.refl _)).from _, kt_drewN _ _ _, bel_drewN Hb.out _, hszX, nx, Blk.drewN Hnx.out _, Lib.hid ?_⟩
                        rw [List.length_append, List.length_singleton]
                        exact Hst.out
                    case done2 =>
                      rintro E X hE ⟨hb, hszX, nx, hnx, hord⟩ hdefE
                      have hyl := (Hvc.out X hb).1
                      have hfull : V.take ys.length = V := List.take_of_length_le (by omega)
                      rw [hfull] at hord
                      have hQ := HQW.out.below hb (by omega)
                      have q0 := hQ.cell 0
                      simp at q0
                      have hE2 := HEW.out.below hb (by omega)
                      have e0 := hE2.cell 0; have ef := hE2.free 0
                      have x0 := hnx.cell 0
                      simp at e0 x0
                      have Hb := Lib.hid hb; have HE2 := Lib.hid hE2; have HdefE := Lib.hid hdefE
                      have Hdx : Hid (X.heap[D]? = some (.deferred (some []))) := Lib.hid ((Hb.out.block D hDlt).trans Hdef.out)
                      clear hb hyl hfull hQ hE2 hnx hdefE
                      cases hne : (nx : Int) != (n0 : Int) with
                      | true =>
                        have hbad : Qy.valid q = false := Qy.not_valid fun hv => by
                          have h2 := hv.order
                          rw [← Hgs.out, ← HV.out, ← Hn0.out, hord.out] at h2
                          injection h2 with h2
                          rw [h2] at hne
                          simp at hne
                        have Hbad := Lib.hid hbad
                        clear hbad
                        go_wp2_with fail
                        exact check_done2 q w _ 500 D E _ rfl (by have := HE2.out.set 0 (.int .i64 500); simpa using this) ((HbwW.out.trans (Hb.out.mono (by omega))).setCell (p := ⟨w.heap.size + 1, 0, none⟩) (show w.heap.size ≤ w.heap.size + 1 by omega) _) (by rw [Hbad.out]; rfl) ((KeepsOthers.setCell _ _ _).same D _ Hdx.out rfl) (by omega) ((KeepsOthers.setCell _ _ _).same E _ HdefE.out rfl) (by omega) (by omega)
                      | false =>
                        have hgood : Qy.valid q = true := (Qy.valid_iff q).2 ⟨by rw [← Hn0.out]; exact g0, by have := Hg1.out; have := Hn1.out; omega, by have := Hg2.out; have := Hn2.out; have := Hn3.out; omega,
                          fun t ht => by
                            obtain ⟨j, hj⟩ := List.getElem?_of_mem ht
                            exact (Hall.out j t (by have := (List.getElem?_eq_some_iff.1 hj).1; have := Hn0.out; omega) hj).1,
                          Qy.nodup_of_idx fun j t hj => (Hall.out j t (by have := (List.getElem?_eq_some_iff.1 hj).1; have := Hn0.out; omega) hj).2,
                          Qy.nodup_of_idx fun j t hj => Hall2.out j t (by have := (List.getElem?_eq_some_iff.1 hj).1; have := Hn1.out; omega) hj,
                          fun t ht => by
                            obtain ⟨j, hj⟩ := List.getElem?_of_mem ht
                            exact Hall3.out j t (by have := (List.getElem?_eq_some_iff.1 hj).1; have := Hn2.out; omega) hj,
                          fun t ht => by
                            obtain ⟨j, hj⟩ := List.getElem?_of_mem ht
                            exact Hall4.out j t (by have := (List.getElem?_eq_some_iff.1 hj).1; have := Hn3.out; omega) hj,
                          Hall5.out, by
                            rw [← Hgs.out, ← HV.out, ← Hn0.out, hord.out]
                            have : (nx : Int) = (n0 : Int) := by simpa using hne
                            rw [this]⟩
                        have Hgood := Lib.hid hgood
                        clear hgood
                        go_wp2_with fail
                        exact check_done2 q w _ 0 D E _ rfl (by have := HE2.out.set 0 (.int .i64 0); simpa using this) ((HbwW.out.trans (Hb.out.mono (by omega))).setCell (p := ⟨w.heap.size + 1, 0, none⟩) (show w.heap.size ≤ w.heap.size + 1 by omega) _) (by rw [Hgood.out]; rfl) ((KeepsOthers.setCell _ _ _).same D _ Hdx.out rfl) (by omega) ((KeepsOthers.setCell _ _ _).same E _ HdefE.out rfl) (by omega) (by omega)
                    case stop2 =>
                      rintro E c pre X hE _ ⟨rfl, hv, hEr, hbel, hdD⟩ hdefE
                      refine wpIn_ret ?_
                      exact check_done2 q w X 500 D E _ rfl hEr hbel (by rw [hv]; rfl) hdD (by omega) hdefE (by omega) (by omega)
                  case stop =>
                    rintro D c pre W hD _ ⟨rfl, hv, hE, hbel⟩ hdef
                    refine wpIn_ret ?_
                    exact check_done q w W 500 D _ rfl hE hbel (by rw [hv]; rfl) hdef (by omega)
end Go.Proofs.YtjonaidancomgaaDoor
