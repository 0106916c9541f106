/- Parts of the proof, joined into one text: QySame, QyEqual, QyMet. -/
import Derived.Test.YtjonaidancomgaaDoorZQyAgnP
import Derived.Test.YtjonaidancomgaaDoorZQyFin

namespace Go.Proofs.YtjonaidancomgaaDoor
open Go.RowKit

def SameR (a b : Qy.Query) (w : World) (e : Ending) (w' : World) : Prop := e = .returned (.bool (decide (a = b))) ∧ Below w.heap.size w w'
theorem agree_next {α : Type} {a b : List α} {k : Nat} (h : ∀ j, j < k → a[j]? = b[j]?) (hk : a[k]? = b[k]?) : ∀ j, j < k + 1 → a[j]? = b[j]? := fun j hj => by
  rcases Nat.lt_or_ge j k with h1 | h1
  · exact h j h1
  · rw [show j = k by omega]; exact hk
theorem agree_all {α : Type} {a b : List α} {k : Nat} (h : ∀ j, j < k → a[j]? = b[j]?) (ha : k = a.length) (hb : k = b.length) : a = b :=
  List.ext_getElem? fun j => by
    rcases Nat.lt_or_ge j k with h1 | h1
    · exact h j h1
    · rw [List.getElem?_eq_none (by omega), List.getElem?_eq_none (by omega)]

set_option maxRecDepth 20000 in
set_option maxHeartbeats 4000000 in
theorem rQSame (va vb : Value) (a b : Qy.Query) (w : World) (h : QAt w w.heap.size va a) (h' : QAt w w.heap.size vb b) : Calls Tryd.prog 9 #[va, vb] w (SameR a b w) := by
  obtain ⟨⟨A0, c0, A1, c1, A2, c2, A3, c3, rfl, h0, h1, h2, h3⟩, htx⟩ := h
  obtain ⟨⟨B0, e0, B1, e1, B2, e2, B3, e3, rfl, g0, g1, g2, g3⟩, gtx⟩ := h'
  have z0 := h0.len; have z1 := h1.len; have z2 := h2.len; have z3 := h3.len
  have y0 := g0.len; have y1 := g1.len; have y2 := g2.len; have y3 := g3.len
  rw [List.length_map] at z0 z1 z2 z3 y0 y1 y2 y3
  obtain ⟨n0, hn0⟩ : ∃ n0, n0 = a.names.length := ⟨_, rfl⟩
  obtain ⟨n1, hn1⟩ : ∃ n1, n1 = a.shown.length := ⟨_, rfl⟩
  obtain ⟨n2, hn2⟩ : ∃ n2, n2 = a.atoms.length := ⟨_, rfl⟩
  obtain ⟨n3, hn3⟩ : ∃ n3, n3 = a.tests.length := ⟨_, rfl⟩
  obtain ⟨m0, hm0⟩ : ∃ m0, m0 = b.names.length := ⟨_, rfl⟩
  obtain ⟨m1, hm1⟩ : ∃ m1, m1 = b.shown.length := ⟨_, rfl⟩
  obtain ⟨m2, hm2⟩ : ∃ m2, m2 = b.atoms.length := ⟨_, rfl⟩
  obtain ⟨m3, hm3⟩ : ∃ m3, m3 = b.tests.length := ⟨_, rfl⟩
  rw [← hn0] at z0 ⊢
  rw [← hn1] at z1 ⊢
  rw [← hn2] at z2 ⊢
  rw [← hn3] at z3 ⊢
  rw [← hm0] at y0 ⊢
  rw [← hm1] at y1 ⊢
  rw [← hm2] at y2 ⊢
  rw [← hm3] at y3 ⊢
  have HA0 := Lib.hid h0; have HA1 := Lib.hid h1; have HA2 := Lib.hid h2; have HA3 := Lib.hid h3; have HB0 := Lib.hid g0; have HB1 := Lib.hid g1; have HB2 := Lib.hid g2; have HB3 := Lib.hid g3
  have Hn0 := Lib.hid hn0; have Hn1 := Lib.hid hn1; have Hn2 := Lib.hid hn2; have Hn3 := Lib.hid hn3; have Hm0 := Lib.hid hm0; have Hm1 := Lib.hid hm1; have Hm2 := Lib.hid hm2; have Hm3 := Lib.hid hm3
  have Htx := Lib.hid htx; have Gtx := Lib.hid gtx
  clear h0 h1 h2 h3 g0 g1 g2 g3 hn0 hn1 hn2 hn3 hm0 hm1 hm2 hm3 htx gtx
  cases q0 : ((n0 : Int) != (m0 : Int)) with
  | true =>
    have hne : decide (a = b) = false := decide_eq_false fun e => by
      have hh : n0 = m0 := by rw [Hn0.out, Hm0.out, e]
      rw [hh] at q0; simp at q0
    have Hne := Lib.hid hne
    clear hne
    go_enter Tryd.func9, Tryd.ntmps9
    go_wp2_with fail
    go_ret
    exact ⟨ret_bool Hne.out.symm, ((Below.refl _ _).alloc (Nat.le_refl _) _).alloc (by simp) _⟩
  | false =>
  cases q1 : ((n1 : Int) != (m1 : Int)) with
  | true =>
    have hne : decide (a = b) = false := decide_eq_false fun e => by
      have hh : n1 = m1 := by rw [Hn1.out, Hm1.out, e]
      rw [hh] at q1; simp at q1
    have Hne := Lib.hid hne
    clear hne
    go_enter Tryd.func9, Tryd.ntmps9
    go_wp2_with fail
    go_ret
    exact ⟨ret_bool Hne.out.symm, ((Below.refl _ _).alloc (Nat.le_refl _) _).alloc (by simp) _⟩
  | false =>
  cases q2 : ((n2 : Int) != (m2 : Int)) with
  | true =>
    have hne : decide (a = b) = false := decide_eq_false fun e => by
      have hh : n2 = m2 := by rw [Hn2.out, Hm2.out, e]
      rw [hh] at q2; simp at q2
    have Hne := Lib.hid hne
    clear hne
    go_enter Tryd.func9, Tryd.ntmps9
    go_wp2_with fail
    go_ret
    exact ⟨ret_bool Hne.out.symm, ((Below.refl _ _).alloc (Nat.le_refl _) _).alloc (by simp) _⟩
  | false =>
  cases q3 : ((n3 : Int) != (m3 : Int)) with
  | true =>
    have hne : decide (a = b) = false := decide_eq_false fun e => by
      have hh : n3 = m3 := by rw [Hn3.out, Hm3.out, e]
      rw [hh] at q3; simp at q3
    have Hne := Lib.hid hne
    clear hne
    go_enter Tryd.func9, Tryd.ntmps9
    go_wp2_with fail
    go_ret
    exact ⟨ret_bool Hne.out.symm, ((Below.refl _ _).alloc (Nat.le_refl _) _).alloc (by simp) _⟩
  | false =>
  have u0 : n0 = m0 := by have : (n0 : Int) = (m0 : Int) := by simpa using q0
                          omega
  have u1 : n1 = m1 := by have : (n1 : Int) = (m1 : Int) := by simpa using q1
                          omega
  have u2 : n2 = m2 := by have : (n2 : Int) = (m2 : Int) := by simpa using q2
                          omega
  have u3 : n3 = m3 := by have : (n3 : Int) = (m3 : Int) := by simpa using q3
                          omega
  subst u0; subst u1; subst u2; subst u3
  go_enter Tryd.func9, Tryd.ntmps9
  go_wp2_with fail
  clear q0 q1 q2 q3
  obtain ⟨W, hW⟩ : ∃ W, W = (w.alloc (.cells #[.slice A0 n0 c0, .slice A1 n1 c1, .slice A2 n2 c2, .slice A3 n3 c3] 27)).alloc (.cells #[.slice B0 n0 e0, .slice B1 n1 e1, .slice B2 n2 e2, .slice B3 n3 e3] 27) := ⟨_, rfl⟩
  rw [← hW]
  have hb : Below w.heap.size w W := by rw [hW]; exact ((Below.refl _ _).alloc (Nat.le_refl _) _).alloc (by simp) _
  have k0 : Blk W w.heap.size 27 #[.slice A0 n0 c0, .slice A1 n1 c1, .slice A2 n2 c2, .slice A3 n3 c3] := by rw [hW]; exact (Blk.new_at w _ rfl).alloc _
  have k1 : Blk W (w.heap.size + 1) 27 #[.slice B0 n0 e0, .slice B1 n1 e1, .slice B2 n2 e2, .slice B3 n3 e3] := by rw [hW]; exact Blk.new_at _ _ (by simp)
  have a0 := k0.cell 0; have a1 := k0.cell 1; have a2 := k0.cell 2; have a3 := k0.cell 3; have b0 := k1.cell 0; have b1 := k1.cell 1; have b2 := k1.cell 2; have b3 := k1.cell 3
  simp at a0 a1 a2 a3 b0 b1 b2 b3
  have Hb := Lib.hid hb
  clear hW hb k0 k1
  go_loopw [5] (fun v5 wr => ∃ i nn : Nat, i ≤ n0 ∧ v5 = .int .i64 i ∧ wr = W.drewN nn ∧ Hid (∀ j, j < i → a.names[j]? = b.names[j]?)) (fun v5 _ => n0 - (intOf v5).toNat)
  case atStart => exact ⟨0, 0, by omega, rfl, rfl, Lib.hid (fun j hj => absurd hj (Nat.not_lt_zero j))⟩
  case round =>
    obtain ⟨i, nn, hi, rfl, rfl, hag0⟩ := hrel
    by_cases hlt : i < n0
    · obtain ⟨x, hx⟩ : ∃ x, a.names[i]? = some x := ⟨_, List.getElem?_eq_getElem (by have := Hn0.out; omega)⟩
      obtain ⟨y, hy⟩ : ∃ y, b.names[i]? = some y := ⟨_, List.getElem?_eq_getElem (by have := Hm0.out; omega)⟩
      obtain ⟨bx, ox, rfl, _, hcx⟩ := (HA0.out.below Hb.out (Nat.le_refl _)).at_ i (strC x) (by rw [List.getElem?_map, hx]; rfl)
      obtain ⟨by_, oy, rfl, _, hcy⟩ := (HB0.out.below Hb.out (Nat.le_refl _)).at_ i (strC y) (by rw [List.getElem?_map, hy]; rfl)
      have x0 := hcx 0 _ rfl; have y0 := hcy 0 _ rfl
      rw [Nat.mul_one, Nat.add_zero] at x0 y0
      have Hx := Lib.hid hx; have Hy := Lib.hid hy
      clear hcx hcy hx hy
      cases hq : (Lx.bs x).toList == (Lx.bs y).toList with
      | false =>
        have hne : decide (a = b) = false := decide_eq_false fun e0 => by
          have hxy : x ≠ y := fun e => by rw [Lx.bs_beq] at hq; simp [e] at hq
          have h1 := Hx.out
          rw [e0, Hy.out] at h1
          injection h1 with h1
          exact hxy h1.symm
        have Hne := Lib.hid hne
        clear hne
        skip
        go_wp2_with fail
        go_quiet (fail)
        go_wp2_with fail
        go_ret
        exact ⟨ret_bool Hne.out.symm, bel_drewN (bel_drewN Hb.out _) _⟩
      | true =>
        have hnx := agree_next hag0.out (by have e : x = y := (by rw [Lx.bs_beq] at hq; simpa using hq); rw [Hx.out, Hy.out, e])
        have Hnx := Lib.hid hnx
        clear hnx
        skip
        go_wp2_with fail
        go_quiet (fail)
        go_wp2_with fail
        go_roundw
        case rel => exact ⟨i + 1, nn + nq, by omega, by go_num, (by first | rfl | exact World.drewN_drewN _ _ _), Lib.hid Hnx.out⟩
        case measure => simp [intOf]; omega
    · obtain rfl : n0 = i := by omega
      have Hag0 := Lib.hid (agree_all hag0.out Hn0.out Hm0.out)
      clear hag0 hi hlt
      go_wp2_with fail
      go_loopw [6] (fun v6 wr => ∃ i nn : Nat, i ≤ n1 ∧ v6 = .int .i64 i ∧ wr = W.drewN nn ∧ Hid (∀ j, j < i → a.shown[j]? = b.shown[j]?)) (fun v6 _ => n1 - (intOf v6).toNat)
      case atStart => exact ⟨0, nn, by omega, rfl, rfl, Lib.hid (fun j hj => absurd hj (Nat.not_lt_zero j))⟩
      case round =>
        obtain ⟨i, nn, hi, rfl, rfl, hag1⟩ := hrel
        by_cases hlt : i < n1
        · obtain ⟨x, hx⟩ : ∃ x, a.shown[i]? = some x := ⟨_, List.getElem?_eq_getElem (by have := Hn1.out; omega)⟩
          obtain ⟨y, hy⟩ : ∃ y, b.shown[i]? = some y := ⟨_, List.getElem?_eq_getElem (by have := Hm1.out; omega)⟩
          obtain ⟨bx, ox, rfl, _, hcx⟩ := (HA1.out.below Hb.out (Nat.le_refl _)).at_ i (intC x) (by rw [List.getElem?_map, hx]; rfl)
          obtain ⟨by_, oy, rfl, _, hcy⟩ := (HB1.out.below Hb.out (Nat.le_refl _)).at_ i (intC y) (by rw [List.getElem?_map, hy]; rfl)
          have x0 := hcx 0 _ rfl; have y0 := hcy 0 _ rfl
          rw [Nat.mul_one, Nat.add_zero] at x0 y0
          have Hx := Lib.hid hx; have Hy := Lib.hid hy
          clear hcx hcy hx hy
          cases hq : x != y with
          | true =>
            have hne : decide (a = b) = false := decide_eq_false fun e0 => by
              have hxy : x ≠ y := fun e => by simp [e] at hq
              have h1 := Hx.out
              rw [e0, Hy.out] at h1
              injection h1 with h1
              exact hxy h1.symm
            have Hne := Lib.hid hne
            clear hne
            skip
            go_wp2_with fail
            go_quiet (fail)
            go_wp2_with fail
            go_ret
            exact ⟨ret_bool Hne.out.symm, bel_drewN (bel_drewN Hb.out _) _⟩
          | false =>
            have hnx := agree_next hag1.out (by have e : x = y := (by simpa using hq); rw [Hx.out, Hy.out, e])
            have Hnx := Lib.hid hnx
            clear hnx
            skip
            go_wp2_with fail
            go_quiet (fail)
            go_wp2_with fail
            go_roundw
            case rel => exact ⟨i + 1, nn + nq, by omega, by go_num, (by first | rfl | exact World.drewN_drewN _ _ _), Lib.hid Hnx.out⟩
            case measure => simp [intOf]; omega
        · obtain rfl : n1 = i := by omega
          have Hag1 := Lib.hid (agree_all hag1.out Hn1.out Hm1.out)
          clear hag1 hi hlt
          go_wp2_with fail
          go_loopw [7] (fun v7 wr => ∃ i nn : Nat, i ≤ n2 ∧ v7 = .int .i64 i ∧ wr = W.drewN nn ∧ Hid (∀ j, j < i → a.atoms[j]? = b.atoms[j]?)) (fun v7 _ => n2 - (intOf v7).toNat)
          case atStart => exact ⟨0, nn, by omega, rfl, rfl, Lib.hid (fun j hj => absurd hj (Nat.not_lt_zero j))⟩
          case round =>
            obtain ⟨i, nn, hi, rfl, rfl, hag2⟩ := hrel
            by_cases hlt : i < n2
            · obtain ⟨x, hx⟩ : ∃ x, a.atoms[i]? = some x := ⟨_, List.getElem?_eq_getElem (by have := Hn2.out; omega)⟩
              obtain ⟨y, hy⟩ : ∃ y, b.atoms[i]? = some y := ⟨_, List.getElem?_eq_getElem (by have := Hm2.out; omega)⟩
              obtain ⟨bx, ox, rfl, _, hcx⟩ := (HA2.out.below Hb.out (Nat.le_refl _)).at_ i (atomC x) (by rw [List.getElem?_map, hx]; rfl)
              obtain ⟨by_, oy, rfl, _, hcy⟩ := (HB2.out.below Hb.out (Nat.le_refl _)).at_ i (atomC y) (by rw [List.getElem?_map, hy]; rfl)
              have x0 := hcx 0 _ rfl; have y0 := hcy 0 _ rfl
              have x1 := hcx 1 _ rfl; have y1 := hcy 1 _ rfl
              have x2 := hcx 2 _ rfl; have y2 := hcy 2 _ rfl
              have x3 := hcx 3 _ rfl; have y3 := hcy 3 _ rfl
              have x4 := hcx 4 _ rfl; have y4 := hcy 4 _ rfl
              have x5 := hcx 5 _ rfl; have y5 := hcy 5 _ rfl
              have x6 := hcx 6 _ rfl; have y6 := hcy 6 _ rfl
              have x7 := hcx 7 _ rfl; have y7 := hcy 7 _ rfl
              have x8 := hcx 8 _ rfl; have y8 := hcy 8 _ rfl
              simp only [Nat.add_zero] at x0 y0
              have Hx := Lib.hid hx; have Hy := Lib.hid hy
              clear hcx hcy hx hy
              have hneq := neqAtom x y
              unfold atomV at hneq
              cases hq : decide (x = y) with
              | false =>
                have hne : decide (a = b) = false := decide_eq_false fun e0 => by
                  have hxy : x ≠ y := fun e => by simp [e] at hq
                  have h1 := Hx.out
                  rw [e0, Hy.out] at h1
                  injection h1 with h1
                  exact hxy h1.symm
                have Hne := Lib.hid hne
                rw [hq] at hneq
                clear hne
                clear hq
                go_wp2_with fail
                go_quiet (fail)
                go_wp2_with fail
                go_ret
                exact ⟨ret_bool Hne.out.symm, bel_drewN (bel_drewN Hb.out _) _⟩
              | true =>
                have hnx := agree_next hag2.out (by have e : x = y := (by simpa using hq); rw [Hx.out, Hy.out, e])
                have Hnx := Lib.hid hnx
                rw [hq] at hneq
                clear hnx
                clear hq
                go_wp2_with fail
                go_quiet (fail)
                go_wp2_with fail
                go_roundw
                case rel => exact ⟨i + 1, nn + nq, by omega, by go_num, (by first | rfl | exact World.drewN_drewN _ _ _), Lib.hid Hnx.out⟩
                case measure => simp [intOf]; omega
            · obtain rfl : n2 = i := by omega
              have Hag2 := Lib.hid (agree_all hag2.out Hn2.out Hm2.out)
              clear hag2 hi hlt
              go_wp2_with fail
              go_loopw [8] (fun v8 wr => ∃ i nn : Nat, i ≤ n3 ∧ v8 = .int .i64 i ∧ wr = W.drewN nn ∧ Hid (∀ j, j < i → a.tests[j]? = b.tests[j]?)) (fun v8 _ => n3 - (intOf v8).toNat)
              case atStart => exact ⟨0, nn, by omega, rfl, rfl, Lib.hid (fun j hj => absurd hj (Nat.not_lt_zero j))⟩
              case round =>
                obtain ⟨i, nn, hi, rfl, rfl, hag3⟩ := hrel
                by_cases hlt : i < n3
                · obtain ⟨x, hx⟩ : ∃ x, a.tests[i]? = some x := ⟨_, List.getElem?_eq_getElem (by have := Hn3.out; omega)⟩
                  obtain ⟨y, hy⟩ : ∃ y, b.tests[i]? = some y := ⟨_, List.getElem?_eq_getElem (by have := Hm3.out; omega)⟩
                  obtain ⟨bx, ox, rfl, _, hcx⟩ := (HA3.out.below Hb.out (Nat.le_refl _)).at_ i (testC x) (by rw [List.getElem?_map, hx]; rfl)
                  obtain ⟨by_, oy, rfl, _, hcy⟩ := (HB3.out.below Hb.out (Nat.le_refl _)).at_ i (testC y) (by rw [List.getElem?_map, hy]; rfl)
                  have x0 := hcx 0 _ rfl; have y0 := hcy 0 _ rfl
                  have x1 := hcx 1 _ rfl; have y1 := hcy 1 _ rfl
                  have x2 := hcx 2 _ rfl; have y2 := hcy 2 _ rfl
                  have x3 := hcx 3 _ rfl; have y3 := hcy 3 _ rfl
                  have x4 := hcx 4 _ rfl; have y4 := hcy 4 _ rfl
                  simp only [Nat.add_zero] at x0 y0
                  have Hx := Lib.hid hx; have Hy := Lib.hid hy
                  clear hcx hcy hx hy
                  have hneq := neqTest x y
                  unfold testV at hneq
                  cases hq : decide (x = y) with
                  | false =>
                    have hne : decide (a = b) = false := decide_eq_false fun e0 => by
                      have hxy : x ≠ y := fun e => by simp [e] at hq
                      have h1 := Hx.out
                      rw [e0, Hy.out] at h1
                      injection h1 with h1
                      exact hxy h1.symm
                    have Hne := Lib.hid hne
                    rw [hq] at hneq
                    clear hne
                    clear hq
                    go_wp2_with fail
                    go_quiet (fail)
                    go_wp2_with fail
                    go_ret
                    exact ⟨ret_bool Hne.out.symm, bel_drewN (bel_drewN Hb.out _) _⟩
                  | true =>
                    have hnx := agree_next hag3.out (by have e : x = y := (by simpa using hq); rw [Hx.out, Hy.out, e])
                    have Hnx := Lib.hid hnx
                    rw [hq] at hneq
                    clear hnx
                    clear hq
                    go_wp2_with fail
                    go_quiet (fail)
                    go_wp2_with fail
                    go_roundw
                    case rel => exact ⟨i + 1, nn + nq, by omega, by go_num, (by first | rfl | exact World.drewN_drewN _ _ _), Lib.hid Hnx.out⟩
                    case measure => simp [intOf]; omega
                · obtain rfl : n3 = i := by omega
                  have Hag3 := Lib.hid (agree_all hag3.out Hn3.out Hm3.out)
                  clear hag3 hi hlt
                  go_wp2_with fail
                  go_ret
                  refine ⟨ret_bool (decide_eq_true ?_).symm, bel_drewN Hb.out _⟩
                  obtain ⟨p0, p1, p2, p3⟩ := a
                  obtain ⟨r0, r1, r2, r3⟩ := b
                  have t0 := Hag0.out; have t1 := Hag1.out; have t2 := Hag2.out; have t3 := Hag3.out
                  simp only at t0 t1 t2 t3
                  rw [t0, t1, t2, t3]
end Go.Proofs.YtjonaidancomgaaDoor

namespace Go.Proofs.YtjonaidancomgaaDoor
open Go.RowKit

def EqR (r : Bool) (w : World) (e : Ending) (w' : World) : Prop := e = .returned (.bool r) ∧ ∃ n, w' = w.drewN n

set_option maxHeartbeats 1000000 in
theorem lEqNames (A B : Option Addr) (Ba Bb c e0 : Nat) (la lb : List (List UInt8)) (w : World) (h : Lies w Ba A 1 (la.map strC)) (h' : Lies w Bb B 1 (lb.map strC)) :
    Calls Tryd.prog 29 #[.slice A la.length c, .slice B lb.length e0] w (EqR (decide (la = lb)) w) := by
  have z := h.len; have y' := h'.len
  rw [List.length_map] at z y'
  obtain ⟨n, hn⟩ : ∃ n, n = la.length := ⟨_, rfl⟩
  obtain ⟨m, hm⟩ : ∃ m, m = lb.length := ⟨_, rfl⟩
  rw [← hn] at z ⊢
  rw [← hm] at y' ⊢
  have HA := Lib.hid h; have HB := Lib.hid h'; have Hn := Lib.hid hn; have Hm := Lib.hid hm
  clear h h' hn hm
  cases q : ((n : Int) != (m : Int)) with
  | true =>
    have hne : decide (la = lb) = false := decide_eq_false fun e => by
      have hh : n = m := by rw [Hn.out, Hm.out, e]
      rw [hh] at q; simp at q
    have Hne := Lib.hid hne
    clear hne
    go_enter Tryd.func29, Tryd.ntmps29
    go_wp2_with fail
    go_ret
    exact ⟨ret_bool Hne.out.symm, 0, rfl⟩
  | false =>
    have u : n = m := by have : (n : Int) = (m : Int) := by simpa using q
                         omega
    subst u
    go_enter Tryd.func29, Tryd.ntmps29
    go_wp2_with fail
    clear q
    go_loopw [13] (fun v13 wr => ∃ i nn : Nat, i ≤ n ∧ v13 = .int .i64 i ∧ wr = w.drewN nn ∧ Hid (∀ j, j < i → la[j]? = lb[j]?)) (fun v13 _ => n - (intOf v13).toNat)
    case atStart => exact ⟨0, 0, by omega, rfl, rfl, Lib.hid (fun j hj => absurd hj (Nat.not_lt_zero j))⟩
    case round =>
      obtain ⟨i, nn, hi, rfl, rfl, hag⟩ := hrel
      by_cases hlt : i < n
      · obtain ⟨x, hx⟩ : ∃ x, la[i]? = some x := ⟨_, List.getElem?_eq_getElem (by have := Hn.out; omega)⟩
        obtain ⟨y, hy⟩ : ∃ y, lb[i]? = some y := ⟨_, List.getElem?_eq_getElem (by have := Hm.out; omega)⟩
        obtain ⟨bx, ox, rfl, _, hcx⟩ := HA.out.at_ i (strC x) (by rw [List.getElem?_map, hx]; rfl)
        obtain ⟨by_, oy, rfl, _, hcy⟩ := HB.out.at_ i (strC y) (by rw [List.getElem?_map, hy]; rfl)
        have x0 := hcx 0 _ rfl; have y0 := hcy 0 _ rfl
        rw [Nat.mul_one, Nat.add_zero] at x0 y0
        have Hx := Lib.hid hx; have Hy := Lib.hid hy
        clear hcx hcy hx hy
        cases hq : (Lx.bs x).toList == (Lx.bs y).toList with
        | false =>
          have hne : decide (la = lb) = false := decide_eq_false fun e1 => by
            have hxy : x ≠ y := fun e => by rw [Lx.bs_beq] at hq; simp [e] at hq
            have h1 := Hx.out
            rw [e1, Hy.out] at h1
            injection h1 with h1
            exact hxy h1.symm
          have Hne := Lib.hid hne
          clear hne
          skip
          skip
          go_wp2_with fail
          go_quiet (fail)
          go_wp2_with fail
          go_ret
          exact ⟨ret_bool Hne.out.symm, nn + nq, (by first | rfl | exact World.drewN_drewN _ _ _)⟩
        | true =>
          have hnx := agree_next hag.out (by have e : x = y := (by rw [Lx.bs_beq] at hq; simpa using hq); rw [Hx.out, Hy.out, e])
          have Hnx := Lib.hid hnx
          clear hnx
          skip
          skip
          go_wp2_with fail
          go_quiet (fail)
          go_wp2_with fail
          go_roundw
          case rel => exact ⟨i + 1, nn + nq, by omega, by go_num, (by first | rfl | exact World.drewN_drewN _ _ _), Lib.hid Hnx.out⟩
          case measure => simp [intOf]; omega
      · obtain rfl : n = i := by omega
        have Hag := Lib.hid (agree_all hag.out Hn.out Hm.out)
        clear hag hi hlt
        go_wp2_with fail
        go_ret
        exact ⟨ret_bool (decide_eq_true Hag.out).symm, nn, rfl⟩

set_option maxHeartbeats 1000000 in
theorem lEqShown (A B : Option Addr) (Ba Bb c e0 : Nat) (la lb : List (Int)) (w : World) (h : Lies w Ba A 1 (la.map intC)) (h' : Lies w Bb B 1 (lb.map intC)) :
    Calls Tryd.prog 30 #[.slice A la.length c, .slice B lb.length e0] w (EqR (decide (la = lb)) w) := by
  have z := h.len; have y' := h'.len
  rw [List.length_map] at z y'
  obtain ⟨n, hn⟩ : ∃ n, n = la.length := ⟨_, rfl⟩
  obtain ⟨m, hm⟩ : ∃ m, m = lb.length := ⟨_, rfl⟩
  rw [← hn] at z ⊢
  rw [← hm] at y' ⊢
  have HA := Lib.hid h; have HB := Lib.hid h'; have Hn := Lib.hid hn; have Hm := Lib.hid hm
  clear h h' hn hm
  cases q : ((n : Int) != (m : Int)) with
  | true =>
    have hne : decide (la = lb) = false := decide_eq_false fun e => by
      have hh : n = m := by rw [Hn.out, Hm.out, e]
      rw [hh] at q; simp at q
    have Hne := Lib.hid hne
    clear hne
    go_enter Tryd.func30, Tryd.ntmps30
    go_wp2_with fail
    go_ret
    exact ⟨ret_bool Hne.out.symm, 0, rfl⟩
  | false =>
    have u : n = m := by have : (n : Int) = (m : Int) := by simpa using q
                         omega
    subst u
    go_enter Tryd.func30, Tryd.ntmps30
    go_wp2_with fail
    clear q
    go_loopw [13] (fun v13 wr => ∃ i nn : Nat, i ≤ n ∧ v13 = .int .i64 i ∧ wr = w.drewN nn ∧ Hid (∀ j, j < i → la[j]? = lb[j]?)) (fun v13 _ => n - (intOf v13).toNat)
    case atStart => exact ⟨0, 0, by omega, rfl, rfl, Lib.hid (fun j hj => absurd hj (Nat.not_lt_zero j))⟩
    case round =>
      obtain ⟨i, nn, hi, rfl, rfl, hag⟩ := hrel
      by_cases hlt : i < n
      · obtain ⟨x, hx⟩ : ∃ x, la[i]? = some x := ⟨_, List.getElem?_eq_getElem (by have := Hn.out; omega)⟩
        obtain ⟨y, hy⟩ : ∃ y, lb[i]? = some y := ⟨_, List.getElem?_eq_getElem (by have := Hm.out; omega)⟩
        obtain ⟨bx, ox, rfl, _, hcx⟩ := HA.out.at_ i (intC x) (by rw [List.getElem?_map, hx]; rfl)
        obtain ⟨by_, oy, rfl, _, hcy⟩ := HB.out.at_ i (intC y) (by rw [List.getElem?_map, hy]; rfl)
        have x0 := hcx 0 _ rfl; have y0 := hcy 0 _ rfl
        rw [Nat.mul_one, Nat.add_zero] at x0 y0
        have Hx := Lib.hid hx; have Hy := Lib.hid hy
        clear hcx hcy hx hy
        cases hq : x != y with
        | true =>
          have hne : decide (la = lb) = false := decide_eq_false fun e1 => by
            have hxy : x ≠ y := fun e => by simp [e] at hq
            have h1 := Hx.out
            rw [e1, Hy.out] at h1
            injection h1 with h1
            exact hxy h1.symm
          have Hne := Lib.hid hne
          clear hne
          skip
          skip
          go_wp2_with fail
          go_quiet (fail)
          go_wp2_with fail
          go_ret
          exact ⟨ret_bool Hne.out.symm, nn + nq, (by first | rfl | exact World.drewN_drewN _ _ _)⟩
        | false =>
          have hnx := agree_next hag.out (by have e : x = y := (by simpa using hq); rw [Hx.out, Hy.out, e])
          have Hnx := Lib.hid hnx
          clear hnx
          skip
          skip
          go_wp2_with fail
          go_quiet (fail)
          go_wp2_with fail
          go_roundw
          case rel => exact ⟨i + 1, nn + nq, by omega, by go_num, (by first | rfl | exact World.drewN_drewN _ _ _), Lib.hid Hnx.out⟩
          case measure => simp [intOf]; omega
      · obtain rfl : n = i := by omega
        have Hag := Lib.hid (agree_all hag.out Hn.out Hm.out)
        clear hag hi hlt
        go_wp2_with fail
        go_ret
        exact ⟨ret_bool (decide_eq_true Hag.out).symm, nn, rfl⟩

set_option maxHeartbeats 1000000 in
theorem lEqAtoms (A B : Option Addr) (Ba Bb c e0 : Nat) (la lb : List (Qy.Atom)) (w : World) (h : Lies w Ba A 9 (la.map atomC)) (h' : Lies w Bb B 9 (lb.map atomC)) :
    Calls Tryd.prog 31 #[.slice A la.length c, .slice B lb.length e0] w (EqR (decide (la = lb)) w) := by
  have z := h.len; have y' := h'.len
  rw [List.length_map] at z y'
  obtain ⟨n, hn⟩ : ∃ n, n = la.length := ⟨_, rfl⟩
  obtain ⟨m, hm⟩ : ∃ m, m = lb.length := ⟨_, rfl⟩
  rw [← hn] at z ⊢
  rw [← hm] at y' ⊢
  have HA := Lib.hid h; have HB := Lib.hid h'; have Hn := Lib.hid hn; have Hm := Lib.hid hm
  clear h h' hn hm
  cases q : ((n : Int) != (m : Int)) with
  | true =>
    have hne : decide (la = lb) = false := decide_eq_false fun e => by
      have hh : n = m := by rw [Hn.out, Hm.out, e]
      rw [hh] at q; simp at q
    have Hne := Lib.hid hne
    clear hne
    go_enter Tryd.func31, Tryd.ntmps31
    go_wp2_with fail
    go_ret
    exact ⟨ret_bool Hne.out.symm, 0, rfl⟩
  | false =>
    have u : n = m := by have : (n : Int) = (m : Int) := by simpa using q
                         omega
    subst u
    go_enter Tryd.func31, Tryd.ntmps31
    go_wp2_with fail
    clear q
    go_loopw [13] (fun v13 wr => ∃ i nn : Nat, i ≤ n ∧ v13 = .int .i64 i ∧ wr = w.drewN nn ∧ Hid (∀ j, j < i → la[j]? = lb[j]?)) (fun v13 _ => n - (intOf v13).toNat)
    case atStart => exact ⟨0, 0, by omega, rfl, rfl, Lib.hid (fun j hj => absurd hj (Nat.not_lt_zero j))⟩
    case round =>
      obtain ⟨i, nn, hi, rfl, rfl, hag⟩ := hrel
      by_cases hlt : i < n
      · obtain ⟨x, hx⟩ : ∃ x, la[i]? = some x := ⟨_, List.getElem?_eq_getElem (by have := Hn.out; omega)⟩
        obtain ⟨y, hy⟩ : ∃ y, lb[i]? = some y := ⟨_, List.getElem?_eq_getElem (by have := Hm.out; omega)⟩
        obtain ⟨bx, ox, rfl, _, hcx⟩ := HA.out.at_ i (atomC x) (by rw [List.getElem?_map, hx]; rfl)
        obtain ⟨by_, oy, rfl, _, hcy⟩ := HB.out.at_ i (atomC y) (by rw [List.getElem?_map, hy]; rfl)
        have x0 := hcx 0 _ rfl; have y0 := hcy 0 _ rfl
        have x1 := hcx 1 _ rfl; have y1 := hcy 1 _ rfl
        have x2 := hcx 2 _ rfl; have y2 := hcy 2 _ rfl
        have x3 := hcx 3 _ rfl; have y3 := hcy 3 _ rfl
        have x4 := hcx 4 _ rfl; have y4 := hcy 4 _ rfl
        have x5 := hcx 5 _ rfl; have y5 := hcy 5 _ rfl
        have x6 := hcx 6 _ rfl; have y6 := hcy 6 _ rfl
        have x7 := hcx 7 _ rfl; have y7 := hcy 7 _ rfl
        have x8 := hcx 8 _ rfl; have y8 := hcy 8 _ rfl
        simp only [Nat.add_zero] at x0 y0
        have Hx := Lib.hid hx; have Hy := Lib.hid hy
        clear hcx hcy hx hy
        have hneq := neqAtom x y
        unfold atomV at hneq
        cases hq : decide (x = y) with
        | false =>
          have hne : decide (la = lb) = false := decide_eq_false fun e1 => by
            have hxy : x ≠ y := fun e => by simp [e] at hq
            have h1 := Hx.out
            rw [e1, Hy.out] at h1
            injection h1 with h1
            exact hxy h1.symm
          have Hne := Lib.hid hne
          clear hne
          rw [hq] at hneq
          clear hq
          go_wp2_with fail
          go_quiet (fail)
          go_wp2_with fail
          go_ret
          exact ⟨ret_bool Hne.out.symm, nn + nq, (by first | rfl | exact World.drewN_drewN _ _ _)⟩
        | true =>
          have hnx := agree_next hag.out (by have e : x = y := (by simpa using hq); rw [Hx.out, Hy.out, e])
          have Hnx := Lib.hid hnx
          clear hnx
          rw [hq] at hneq
          clear hq
          go_wp2_with fail
          go_quiet (fail)
          go_wp2_with fail
          go_roundw
          case rel => exact ⟨i + 1, nn + nq, by omega, by go_num, (by first | rfl | exact World.drewN_drewN _ _ _), Lib.hid Hnx.out⟩
          case measure => simp [intOf]; omega
      · obtain rfl : n = i := by omega
        have Hag := Lib.hid (agree_all hag.out Hn.out Hm.out)
        clear hag hi hlt
        go_wp2_with fail
        go_ret
        exact ⟨ret_bool (decide_eq_true Hag.out).symm, nn, rfl⟩

set_option maxHeartbeats 1000000 in
theorem lEqTests (A B : Option Addr) (Ba Bb c e0 : Nat) (la lb : List (Qy.Test)) (w : World) (h : Lies w Ba A 5 (la.map testC)) (h' : Lies w Bb B 5 (lb.map testC)) :
    Calls Tryd.prog 32 #[.slice A la.length c, .slice B lb.length e0] w (EqR (decide (la = lb)) w) := by
  have z := h.len; have y' := h'.len
  rw [List.length_map] at z y'
  obtain ⟨n, hn⟩ : ∃ n, n = la.length := ⟨_, rfl⟩
  obtain ⟨m, hm⟩ : ∃ m, m = lb.length := ⟨_, rfl⟩
  rw [← hn] at z ⊢
  rw [← hm] at y' ⊢
  have HA := Lib.hid h; have HB := Lib.hid h'; have Hn := Lib.hid hn; have Hm := Lib.hid hm
  clear h h' hn hm
  cases q : ((n : Int) != (m : Int)) with
  | true =>
    have hne : decide (la = lb) = false := decide_eq_false fun e => by
      have hh : n = m := by rw [Hn.out, Hm.out, e]
      rw [hh] at q; simp at q
    have Hne := Lib.hid hne
    clear hne
    go_enter Tryd.func32, Tryd.ntmps32
    go_wp2_with fail
    go_ret
    exact ⟨ret_bool Hne.out.symm, 0, rfl⟩
  | false =>
    have u : n = m := by have : (n : Int) = (m : Int) := by simpa using q
                         omega
    subst u
    go_enter Tryd.func32, Tryd.ntmps32
    go_wp2_with fail
    clear q
    go_loopw [13] (fun v13 wr => ∃ i nn : Nat, i ≤ n ∧ v13 = .int .i64 i ∧ wr = w.drewN nn ∧ Hid (∀ j, j < i → la[j]? = lb[j]?)) (fun v13 _ => n - (intOf v13).toNat)
    case atStart => exact ⟨0, 0, by omega, rfl, rfl, Lib.hid (fun j hj => absurd hj (Nat.not_lt_zero j))⟩
    case round =>
      obtain ⟨i, nn, hi, rfl, rfl, hag⟩ := hrel
      by_cases hlt : i < n
      · obtain ⟨x, hx⟩ : ∃ x, la[i]? = some x := ⟨_, List.getElem?_eq_getElem (by have := Hn.out; omega)⟩
        obtain ⟨y, hy⟩ : ∃ y, lb[i]? = some y := ⟨_, List.getElem?_eq_getElem (by have := Hm.out; omega)⟩
        obtain ⟨bx, ox, rfl, _, hcx⟩ := HA.out.at_ i (testC x) (by rw [List.getElem?_map, hx]; rfl)
        obtain ⟨by_, oy, rfl, _, hcy⟩ := HB.out.at_ i (testC y) (by rw [List.getElem?_map, hy]; rfl)
        have x0 := hcx 0 _ rfl; have y0 := hcy 0 _ rfl
        have x1 := hcx 1 _ rfl; have y1 := hcy 1 _ rfl
        have x2 := hcx 2 _ rfl; have y2 := hcy 2 _ rfl
        have x3 := hcx 3 _ rfl; have y3 := hcy 3 _ rfl
        have x4 := hcx 4 _ rfl; have y4 := hcy 4 _ rfl
        simp only [Nat.add_zero] at x0 y0
        have Hx := Lib.hid hx; have Hy := Lib.hid hy
        clear hcx hcy hx hy
        have hneq := neqTest x y
        unfold testV at hneq
        cases hq : decide (x = y) with
        | false =>
          have hne : decide (la = lb) = false := decide_eq_false fun e1 => by
            have hxy : x ≠ y := fun e => by simp [e] at hq
            have h1 := Hx.out
            rw [e1, Hy.out] at h1
            injection h1 with h1
            exact hxy h1.symm
          have Hne := Lib.hid hne
          clear hne
          rw [hq] at hneq
          clear hq
          go_wp2_with fail
          go_quiet (fail)
          go_wp2_with fail
          go_ret
          exact ⟨ret_bool Hne.out.symm, nn + nq, (by first | rfl | exact World.drewN_drewN _ _ _)⟩
        | true =>
          have hnx := agree_next hag.out (by have e : x = y := (by simpa using hq); rw [Hx.out, Hy.out, e])
          have Hnx := Lib.hid hnx
          clear hnx
          rw [hq] at hneq
          clear hq
          go_wp2_with fail
          go_quiet (fail)
          go_wp2_with fail
          go_roundw
          case rel => exact ⟨i + 1, nn + nq, by omega, by go_num, (by first | rfl | exact World.drewN_drewN _ _ _), Lib.hid Hnx.out⟩
          case measure => simp [intOf]; omega
      · obtain rfl : n = i := by omega
        have Hag := Lib.hid (agree_all hag.out Hn.out Hm.out)
        clear hag hi hlt
        go_wp2_with fail
        go_ret
        exact ⟨ret_bool (decide_eq_true Hag.out).symm, nn, rfl⟩

set_option maxHeartbeats 2000000 in
theorem lSameQ (va vb : Value) (a b : Qy.Query) (w : World) (h : QAt w w.heap.size va a) (h' : QAt w w.heap.size vb b) : Calls Tryd.prog 12 #[va, vb] w (SameR a b w) := by
  obtain ⟨⟨A0, c0, A1, c1, A2, c2, A3, c3, rfl, h0, h1, h2, h3⟩, _⟩ := h
  obtain ⟨⟨B0, e0, B1, e1, B2, e2, B3, e3, rfl, g0, g1, g2, g3⟩, _⟩ := h'
  obtain ⟨n0, hn0⟩ : ∃ n0, n0 = a.names.length := ⟨_, rfl⟩
  obtain ⟨n1, hn1⟩ : ∃ n1, n1 = a.shown.length := ⟨_, rfl⟩
  obtain ⟨n2, hn2⟩ : ∃ n2, n2 = a.atoms.length := ⟨_, rfl⟩
  obtain ⟨n3, hn3⟩ : ∃ n3, n3 = a.tests.length := ⟨_, rfl⟩
  obtain ⟨m0, hm0⟩ : ∃ m0, m0 = b.names.length := ⟨_, rfl⟩
  obtain ⟨m1, hm1⟩ : ∃ m1, m1 = b.shown.length := ⟨_, rfl⟩
  obtain ⟨m2, hm2⟩ : ∃ m2, m2 = b.atoms.length := ⟨_, rfl⟩
  obtain ⟨m3, hm3⟩ : ∃ m3, m3 = b.tests.length := ⟨_, rfl⟩
  have hb2 : ∀ (o1 o2 : Obj) (n : Nat), Below w.heap.size w (((w.alloc o1).alloc o2).drewN n) := fun o1 o2 n => bel_drewN (((Below.refl _ _).alloc (Nat.le_refl _) _).alloc (by simp) _) n
  have k0 := fun o1 o2 n => lEqNames A0 B0 w.heap.size w.heap.size c0 e0 a.names b.names (((w.alloc o1).alloc o2).drewN n) (h0.below (hb2 o1 o2 n) (Nat.le_refl _)) (g0.below (hb2 o1 o2 n) (Nat.le_refl _))
  have k1 := fun o1 o2 n => lEqShown A1 B1 w.heap.size w.heap.size c1 e1 a.shown b.shown (((w.alloc o1).alloc o2).drewN n) (h1.below (hb2 o1 o2 n) (Nat.le_refl _)) (g1.below (hb2 o1 o2 n) (Nat.le_refl _))
  have k2 := fun o1 o2 n => lEqAtoms A2 B2 w.heap.size w.heap.size c2 e2 a.atoms b.atoms (((w.alloc o1).alloc o2).drewN n) (h2.below (hb2 o1 o2 n) (Nat.le_refl _)) (g2.below (hb2 o1 o2 n) (Nat.le_refl _))
  have k3 := fun o1 o2 n => lEqTests A3 B3 w.heap.size w.heap.size c3 e3 a.tests b.tests (((w.alloc o1).alloc o2).drewN n) (h3.below (hb2 o1 o2 n) (Nat.le_refl _)) (g3.below (hb2 o1 o2 n) (Nat.le_refl _))
  rw [← hn0, ← hm0] at k0
  rw [← hn1, ← hm1] at k1
  rw [← hn2, ← hm2] at k2
  rw [← hn3, ← hm3] at k3
  rw [← hn0, ← hn1, ← hn2, ← hn3, ← hm0, ← hm1, ← hm2, ← hm3]
  have hdec : decide (a = b) = (decide (a.names = b.names) && (decide (a.shown = b.shown) && (decide (a.atoms = b.atoms) && decide (a.tests = b.tests)))) := by
    obtain ⟨p0, p1, p2, p3⟩ := a
    obtain ⟨r0, r1, r2, r3⟩ := b
    rw [Bool.eq_iff_iff]
    simp
  obtain ⟨d, hd⟩ : ∃ d, d = decide (a = b) := ⟨_, rfl⟩
  have HR : ∀ e w', e = .returned (.bool d) ∧ Below w.heap.size w w' → SameR a b w e w' := fun e w' hh => by unfold SameR; rw [← hd]; exact hh
  rw [← hd] at hdec
  clear hd h0 h1 h2 h3 g0 g1 g2 g3 hn0 hn1 hn2 hn3 hm0 hm1 hm2 hm3
  generalize decide (a.names = b.names) = d0 at k0 hdec
  generalize decide (a.shown = b.shown) = d1 at k1 hdec
  generalize decide (a.atoms = b.atoms) = d2 at k2 hdec
  generalize decide (a.tests = b.tests) = d3 at k3 hdec
  refine Calls.mono ?_ HR
  have K0 := Lib.hid k0; have K1 := Lib.hid k1; have K2 := Lib.hid k2; have K3 := Lib.hid k3; have HB := Lib.hid hb2
  clear k0 k1 k2 k3 HR hb2
  cases d0 with
  | false =>
    simp only [Bool.false_and] at hdec
    subst hdec
    go_enter Tryd.func12, Tryd.ntmps12
    go_wp2_with (first | (go_at_call 29; refine (K0.out _ _ 0).mono ?_; rintro e w0 ⟨rfl, k0', rfl⟩))
    go_ret
    exact ⟨rfl, by first | exact HB.out _ _ _ | (simp only [World.drewN_drewN]; exact HB.out _ _ _)⟩
  | true =>
    simp only [Bool.true_and] at hdec
    cases d1 with
    | false =>
      simp only [Bool.false_and] at hdec
      subst hdec
      go_enter Tryd.func12, Tryd.ntmps12
      go_wp2_with (first | (go_at_call 29; refine (K0.out _ _ 0).mono ?_; rintro e w0 ⟨rfl, k0', rfl⟩) | (go_at_call 30; refine (K1.out _ _ _).mono ?_; rintro e w0 ⟨rfl, k1', rfl⟩))
      go_ret
      exact ⟨rfl, by first | exact HB.out _ _ _ | (simp only [World.drewN_drewN]; exact HB.out _ _ _)⟩
    | true =>
      simp only [Bool.true_and] at hdec
      cases d2 with
      | false =>
        simp only [Bool.false_and] at hdec
        subst hdec
        go_enter Tryd.func12, Tryd.ntmps12
        go_wp2_with (first | (go_at_call 29; refine (K0.out _ _ 0).mono ?_; rintro e w0 ⟨rfl, k0', rfl⟩) | (go_at_call 30; refine (K1.out _ _ _).mono ?_; rintro e w0 ⟨rfl, k1', rfl⟩) | (go_at_call 31; refine (K2.out _ _ _).mono ?_; rintro e w0 ⟨rfl, k2', rfl⟩))
        go_ret
        exact ⟨rfl, by first | exact HB.out _ _ _ | (simp only [World.drewN_drewN]; exact HB.out _ _ _)⟩
      | true =>
        simp only [Bool.true_and] at hdec
        subst hdec
        go_enter Tryd.func12, Tryd.ntmps12
        go_wp2_with (first | (go_at_call 29; refine (K0.out _ _ 0).mono ?_; rintro e w0 ⟨rfl, k0', rfl⟩) | (go_at_call 30; refine (K1.out _ _ _).mono ?_; rintro e w0 ⟨rfl, k1', rfl⟩) | (go_at_call 31; refine (K2.out _ _ _).mono ?_; rintro e w0 ⟨rfl, k2', rfl⟩) | (go_at_call 32; refine (K3.out _ _ _).mono ?_; rintro e w0 ⟨rfl, k3', rfl⟩))
        go_ret
        exact ⟨rfl, by first | exact HB.out _ _ _ | (simp only [World.drewN_drewN]; exact HB.out _ _ _)⟩
end Go.Proofs.YtjonaidancomgaaDoor

namespace Go.Proofs.YtjonaidancomgaaDoor
open Go.RowKit Go.Maps Go.WideMaps

/-- An append, by its run. -/
theorem upon_append_run {P : Program} {F : Fence} {n : Nat} {w w3 : World} {o : Oper} {a : Act} {K : Act → World → Prop} {Q : Exit → Act → World → Prop} (s x : Operand) (t : TypeId)
    (ho : o.op = .call { callee := .builtin .append, args := #[s, x], argTypes := #[t, t] }) {v u r : Value} (hs : a.eval s = v) (hx : a.eval x = u)
    (hr : (Builtin.append_ #[t, t] o.type #[v, u]).run P w = .ok r w3) (h : K (a.put o.dst r) w3) : o.uponIn F n P a K Q ((o.semAt F.round a.eval).run P w) := by
  rw [Oper.semAt_eq _ _ _ (by intro c; rw [ho]; exact fun h => nomatch h)]
  unfold execOp
  simp only [ho, resolve, invoke, builtin, Sem.run_bind, Sem.run_pure, Result.andThen_ok, List.map_toArray, List.map_cons, List.map_nil, hs, hx, hr]
  exact h
theorem KT.map {T : TypeId} {A B C : World} {b : Nat} {es : Array MapEntry} {clock : Nat} (h : KT T A B) (hm : B.heap[b]? = some (.map es clock)) (hg : B.grownBy C (some b)) : KT T A C :=
  ⟨Nat.le_trans h.size hg.size, fun k cs fr hk => by
    have h1 := h.rows k cs fr hk
    refine (hg.block k (Array.getElem?_eq_some_iff.1 h1).1 (fun e1 => ?_)).trans h1
    injection e1 with e1
    rw [← e1, h1] at hm
    exact absurd hm (by simp), fun k ds hk => by
    have h1 := h.defs k ds hk
    refine (hg.block k (Array.getElem?_eq_some_iff.1 h1).1 (fun e1 => ?_)).trans h1
    injection e1 with e1
    rw [← e1, h1] at hm
    exact absurd hm (by simp)⟩
section
variable {N g p ixb mb : Nat} {w W0 : World} {psr : Array Value} {vPN vS vA vT : Value} {names : List (List UInt8)} {xs : List Addr} {rb : List Nat} {m vals : List Int} {W w1 w3 : World}
theorem PIx.named (F : PFix N g p ixb mb w W0 psr vPN xs rb) (h : PIx N g p ixb mb w W0 psr vPN vS vA vT names xs rb m vals W) {nn : Nat} {nm : List UInt8} {vN : Value} (hN : Blk W N 27 #[vN, vS, vA, vT]) (hown : W.ownsRow W0.heap.size 9 1 vN m.length ((m.map fun i => names.getD i.toNat []).flatMap strC)) (hW0 : W0.heap.size ≤ W.heap.size)
    (hmap : w1.ownsMap Tryd.prog 3 (plainElem Tryd.prog 3) mb (m.length + 1) ((Qy.mapD m).put (.int .i64 nn) (.lit (.int .i64 (m.length : Nat))))) (hg1 : W.drew.drew.grownBy w1 (some mb)) (hgd : names.getD nn [] = nm)
    {gg cap : Nat} (hg3 : ((w1.alloc (.cells #[.string (Lx.bs nm)] 9)).drew).grownBy w3 vN.ownBlock) (hown3 : w3.ownsRow W0.heap.size 9 1 (.slice (some ⟨gg, 0, none⟩) (m.length + 1) cap) (m.length + 1) (((m.map fun i => names.getD i.toNat []).flatMap strC) ++ [.string (Lx.bs nm)])) :
    Blk w3 N 27 #[vN, vS, vA, vT] ∧ PIx N g p ixb mb w W0 psr vPN vS vA vT names xs rb (m ++ [(nn : Int)]) vals (w3.setCell ⟨N, 0, none⟩ (.slice (some ⟨gg, 0, none⟩) (m.length + 1) cap)) ∧
      KeepsFrom W0.heap.size W (w3.setCell ⟨N, 0, none⟩ (.slice (some ⟨gg, 0, none⟩) (m.length + 1) cap)) ∧ KT 63 W (w3.setCell ⟨N, 0, none⟩ (.slice (some ⟨gg, 0, none⟩) (m.length + 1) cap)) := by
  have h2 : PIx N g p ixb mb w W0 psr vPN vS vA vT names xs rb m vals W.drew.drew := h.drewN 2
  have hb2 : Below w1.heap.size w1 ((w1.alloc (.cells #[.string (Lx.bs nm)] 9)).drew) := ((Below.refl _ w1).alloc (Nat.le_refl _) _).drew
  have hmet := h2.met F (n := (nn : Int)) hN hown hW0 hmap hg1 hb2 hg3 (by rw [show ((nn : Int)).toNat = nn from rfl, hgd]; exact hown3)
  have hown1 := own_grown (W := W.drew.drew) hown hg1 (h2.kept hg1)
  obtain ⟨es, clk, hm, _⟩ := h2.map
  refine ⟨hmet.1, hmet.2, ?_, ?_⟩
  · refine (((KeepsOthers.drew W).trans (KeepsOthers.drew W.drew)).from _).trans ((KeepsFrom.of_grownBy hg1 (fun j e => ?_)).trans (keeps_row hown1 hb2 hg3 hmet.1))
    injection e with e
    have := F.lt.2.2.2.2.1
    omega
  · exact KT.set hmet.1 (by decide) (((KT.map (((KT.refl 63 W).drew).drew) hm hg1).below hb2).grown (own_below hown1 hb2) (by decide) hg3) 0 _
end
end Go.Proofs.YtjonaidancomgaaDoor
