/- Parts of the proof, joined into one text: SxSameC, SxSys. -/
import Derived.Test.YtjonaidancomgaaGreatDoorYSxEqs

namespace Go.Proofs.YtjonaidancomgaaGreatDoor
open Go.RowKit

def Sx.courseEq (a b : Sx.Course) : Bool := a.name == b.name && (a.number == b.number && (a.credits == b.credits && (a.rep == b.rep && (Sx.ruleEq a.need b.need && Sx.ruleEq a.bar b.bar))))
theorem Sx.courseEq_iff (a b : Sx.Course) : Sx.courseEq a b = true ↔ a = b := by
 obtain ⟨n, o, c, r, d, e⟩ := a
 obtain ⟨n', o', c', r', d', e'⟩ := b
 unfold Sx.courseEq
 simp only [Bool.and_eq_true, beq_iff_eq, Sx.ruleEq_iff, Sx.Course.mk.injEq]
set_option maxRecDepth 20000 in
set_option maxHeartbeats 4000000 in
theorem rSameCourse (a b : Sx.Course) (w : World) (ca cb : List Value) (ha : CourseAt w (Old w) a ca) (hb : CourseAt w (Old w) b cb) :
  Calls Tryz.prog 41 #[.agg ca.toArray, .agg cb.toArray] w (BoolPost (Sx.courseEq a b) w) := by
 obtain ⟨an, ao, ac, ar, ⟨opp, cop, nmp, np, dp, ksp⟩, ⟨opq, coq, nmq, nq, dq, ksq⟩⟩ := a
 obtain ⟨bn, bo, bc, br, ⟨ops, cos, nms, ns, ds, kss⟩, ⟨opt, cot, nmt, nt, dt, kst⟩⟩ := b
 obtain ⟨c1, c2, rfl, -, h1, h2⟩ := ha
 obtain ⟨c3, c4, rfl, -, h3, h4⟩ := hb
 have H1 := h1; have H2 := h2; have H3 := h3; have H4 := h4
 rw [RuleAt] at h1 h2 h3 h4
 obtain ⟨Ap, cp, rfl, -, -, -⟩ := h1
 obtain ⟨Aq, cq, rfl, -, -, -⟩ := h2
 obtain ⟨As, cs, rfl, -, -, -⟩ := h3
 obtain ⟨At, ct, rfl, -, -, -⟩ := h4
 simp only [intV, strV] at H1 H2 H3 H4 ⊢
 obtain ⟨R, hR⟩ : ∃ R, R = Sx.courseEq ⟨an, ao, ac, ar, .mk opp cop nmp np dp ksp, .mk opq coq nmq nq dq ksq⟩ ⟨bn, bo, bc, br, .mk ops cos nms ns ds kss, .mk opt cot nmt nt dt kst⟩ := ⟨_, rfl⟩
 rw [← hR]
 unfold Sx.courseEq at hR
 simp only at hR
 simp only [List.cons_append, List.nil_append]
 obtain ⟨W, hW⟩ : ∃ W, W = (w.alloc (.cells #[.string (Lx.bs an), .int .i64 ao, .int .i64 ac, .int .i64 ar, .int .i64 opp, .int .i64 cop, .string (Lx.bs nmp), .int .i64 np, .int .i64 dp, .slice Ap ksp.length cp, .int .i64 opq, .int .i64 coq, .string (Lx.bs nmq), .int .i64 nq, .int .i64 dq, .slice Aq ksq.length cq] 58)).alloc (.cells #[.string (Lx.bs bn), .int .i64 bo, .int .i64 bc, .int .i64 br, .int .i64 ops, .int .i64 cos, .string (Lx.bs nms), .int .i64 ns, .int .i64 ds, .slice As kss.length cs, .int .i64 opt, .int .i64 cot, .string (Lx.bs nmt), .int .i64 nt, .int .i64 dt, .slice At kst.length ct] 58) := ⟨_, rfl⟩
 have hb0 : Below w.heap.size w W := by rw [hW]; exact ((Below.refl _ _).alloc (Nat.le_refl _) _).alloc (by simp) _
 have e0 : Blk W w.heap.size 58 #[.string (Lx.bs an), .int .i64 ao, .int .i64 ac, .int .i64 ar, .int .i64 opp, .int .i64 cop, .string (Lx.bs nmp), .int .i64 np, .int .i64 dp, .slice Ap ksp.length cp, .int .i64 opq, .int .i64 coq, .string (Lx.bs nmq), .int .i64 nq, .int .i64 dq, .slice Aq ksq.length cq] := by rw [hW]; exact (Blk.new _ _ _).alloc _
 have e1 : Blk W (w.heap.size + 1) 58 #[.string (Lx.bs bn), .int .i64 bo, .int .i64 bc, .int .i64 br, .int .i64 ops, .int .i64 cos, .string (Lx.bs nms), .int .i64 ns, .int .i64 ds, .slice As kss.length cs, .int .i64 opt, .int .i64 cot, .string (Lx.bs nmt), .int .i64 nt, .int .i64 dt, .slice At kst.length ct] := by rw [hW]; exact Blk.new_at _ _ (by simp)
 have E0 := Lh e0; have E1 := Lh e1; have HB0 := Lh hb0
 have K1 := Lh (H1.old hb0); have K2 := Lh (H2.old hb0); have K3 := Lh (H3.old hb0); have K4 := Lh (H4.old hb0)
 have hWs := hb0.size
 clear e0 e1 hb0 H1 H2 H3 H4
 have hbs : ((Lx.bs an).toList == (Lx.bs bn).toList) = (an == bn) := by rw [ByteArray.toList_eq, ByteArray.toList_eq, Lx.bs_list, Lx.bs_list]
 cases q0 : an == bn with
 | false =>
  rw [q0] at hbs
  have HR : Hid (R = false) := Lh (by rw [hR, q0]; rfl)
  clear hR
  go_enter Tryz.func41, Tryz.ntmps41
  go_wp2_with fail
  try rw [← hW]
  go_ret
  exact ⟨ret_bool HR.out.symm, HB0.out⟩
 | true =>
 rw [q0] at hbs
 rw [q0, Bool.true_and] at hR
 cases q1 : ao == bo with
 | false =>
  have HR : Hid (R = false) := Lh (by rw [hR, q1]; rfl)
  clear hR
  go_enter Tryz.func41, Tryz.ntmps41
  go_wp2_with fail
  try rw [← hW]
  go_ret
  exact ⟨ret_bool HR.out.symm, HB0.out⟩
 | true =>
 rw [q1, Bool.true_and] at hR
 cases q2 : ac == bc with
 | false =>
  have HR : Hid (R = false) := Lh (by rw [hR, q2]; rfl)
  clear hR
  go_enter Tryz.func41, Tryz.ntmps41
  go_wp2_with fail
  try rw [← hW]
  go_ret
  exact ⟨ret_bool HR.out.symm, HB0.out⟩
 | true =>
 rw [q2, Bool.true_and] at hR
 cases q3 : ar == br with
 | false =>
  have HR : Hid (R = false) := Lh (by rw [hR, q3]; rfl)
  clear hR
  go_enter Tryz.func41, Tryz.ntmps41
  go_wp2_with fail
  try rw [← hW]
  go_ret
  exact ⟨ret_bool HR.out.symm, HB0.out⟩
 | true =>
 rw [q3, Bool.true_and] at hR
 have HR := Lh hR
 have Hc1 := Lh (rSameRule _ (.mk opp cop nmp np dp ksp) (.mk ops cos nms ns ds kss) (Nat.lt_succ_self _) W [.int .i64 opp, .int .i64 cop, .string (Lx.bs nmp), .int .i64 np, .int .i64 dp, .slice Ap ksp.length cp] [.int .i64 ops, .int .i64 cos, .string (Lx.bs nms), .int .i64 ns, .int .i64 ds, .slice As kss.length cs] K1.out K3.out)
 clear hR
 go_enter Tryz.func41, Tryz.ntmps41
 go_wp2_with fail
 try rw [← hW]
 clear hW q0 q1 q2 q3 hbs
 refine Hc1.out.mono ?_
 rintro e w1 ⟨rfl, hb1⟩
 have B1 := Lh (HB0.out.trans (hb1.mono HB0.out.size))
 cases r0 : Sx.ruleEq (.mk opp cop nmp np dp ksp) (.mk ops cos nms ns ds kss) with
 | false =>
  have HR2 : Hid (R = false) := Lh (by rw [HR.out, r0]; rfl)
  clear hb1 HR r0
  go_wp2_with fail
  go_ret
  exact ⟨ret_bool HR2.out.symm, B1.out⟩
 | true =>
  have hR2 := HR.out
  rw [r0, Bool.true_and] at hR2
  have HR2 := Lh hR2
  have d0 := E0.out.below hb1 E0.out.lt
  have d1 := E1.out.below hb1 E1.out.lt
  have x10 := d0.cell 10; have y10 := d1.cell 10
  have x11 := d0.cell 11; have y11 := d1.cell 11
  have x12 := d0.cell 12; have y12 := d1.cell 12
  have x13 := d0.cell 13; have y13 := d1.cell 13
  have x14 := d0.cell 14; have y14 := d1.cell 14
  have x15 := d0.cell 15; have y15 := d1.cell 15
  simp at x10 y10 x11 y11 x12 y12 x13 y13 x14 y14 x15 y15
  have Hc2 := Lh (rSameRule _ (.mk opq coq nmq nq dq ksq) (.mk opt cot nmt nt dt kst) (Nat.lt_succ_self _) w1 [.int .i64 opq, .int .i64 coq, .string (Lx.bs nmq), .int .i64 nq, .int .i64 dq, .slice Aq ksq.length cq] [.int .i64 opt, .int .i64 cot, .string (Lx.bs nmt), .int .i64 nt, .int .i64 dt, .slice At kst.length ct] (K2.out.old hb1) (K4.out.old hb1))
  clear hb1 HR r0 hR2 d0 d1
  go_wp2_with fail
  refine Hc2.out.mono ?_
  rintro e w2 ⟨rfl, hb2⟩
  have B2 := Lh (B1.out.trans (hb2.mono B1.out.size))
  clear hb2
  go_wp2_with fail
  go_ret
  exact ⟨ret_bool HR2.out.symm, B2.out⟩
end Go.Proofs.YtjonaidancomgaaGreatDoor

namespace Go.Proofs.YtjonaidancomgaaGreatDoor
open Go.RowKit

theorem rSystem (A0 A1 A2 A3 A4 A5 A6 : Option Addr) (n0 n1 n2 n3 n4 n5 n6 c0 c1 c2 c3 c4 c5 c6 : Nat) (w : World) :
  Calls Tryz.prog 40 #[.agg #[.slice A0 n0 c0, .slice A1 n1 c1, .slice A2 n2 c2, .slice A3 n3 c3, .slice A4 n4 c4, .slice A5 n5 c5, .slice A6 n6 c6]] w fun e w' => e = .returned (.agg #[.slice A3 n3 c3, .slice A4 n4 c4, .slice A5 n5 c5, .slice A6 n6 c6]) ∧ Below w.heap.size w w' := by
 go_enter Tryz.func40, Tryz.ntmps40
 go_wp2_with fail
 try simp only [Exit.inBlock, Exit.then]
 refine bodyPost_ret (v := .agg #[.slice A3 n3 c3, .slice A4 n4 c4, .slice A5 n5 c5, .slice A6 n6 c6]) (by simp [results, Tryz.results40, go_sem]) rfl ⟨rfl, ?_⟩
 first
  | exact ((Below.refl _ _).alloc (Nat.le_refl _) _).alloc (by simp) _
  | exact ((((((Below.refl _ _).alloc (Nat.le_refl _) _).alloc (by simp) _).setCell (by simp) _).setCell (by simp) _).setCell (by simp) _).setCell (by simp) _
set_option maxRecDepth 20000 in
set_option maxHeartbeats 8000000 in
theorem rSameSystem (A0 A1 A2 A3 B0 B1 B2 B3 : Option Addr) (c0 c1 c2 c3 d0 d1 d2 d3 : Nat) (l0 m0 l2 m2 : List Sx.Cls) (l1 m1 : List Sx.Fee) (l3 m3 : List Sx.Clause) (w : World)
  (a0 : Row w (Old w) A0 4 ClsAt l0) (a1 : Row w (Old w) A1 2 FeeAt l1) (a2 : Row w (Old w) A2 4 ClsAt l2) (a3 : Row w (Old w) A3 4 ClauseAt l3) (b0 : Row w (Old w) B0 4 ClsAt m0) (b1 : Row w (Old w) B1 2 FeeAt m1) (b2 : Row w (Old w) B2 4 ClsAt m2) (b3 : Row w (Old w) B3 4 ClauseAt m3) :
  Calls Tryz.prog 39 #[.agg #[.slice A0 l0.length c0, .slice A1 l1.length c1, .slice A2 l2.length c2, .slice A3 l3.length c3], .agg #[.slice B0 m0.length d0, .slice B1 m1.length d1, .slice B2 m2.length d2, .slice B3 m3.length d3]] w (BoolPost (decide (l0 = m0 ∧ l2 = m2 ∧ l1 = m1 ∧ l3 = m3)) w) := by
 obtain ⟨R, hR⟩ : ∃ R, R = decide (l0 = m0 ∧ l2 = m2 ∧ l1 = m1 ∧ l3 = m3) := ⟨_, rfl⟩
 rw [← hR]
 have z1 := a1.len; have z3 := a3.len; have y1 := b1.len; have y3 := b3.len
 obtain ⟨k0, hk0⟩ : ∃ k, k = l0.length := ⟨_, rfl⟩
 obtain ⟨k0', hk0'⟩ : ∃ k, k = m0.length := ⟨_, rfl⟩
 obtain ⟨k2, hk2⟩ : ∃ k, k = l2.length := ⟨_, rfl⟩
 obtain ⟨k2', hk2'⟩ : ∃ k, k = m2.length := ⟨_, rfl⟩
 obtain ⟨n1, hn1⟩ : ∃ k, k = l1.length := ⟨_, rfl⟩
 obtain ⟨p1, hp1⟩ : ∃ k, k = m1.length := ⟨_, rfl⟩
 obtain ⟨n3, hn3⟩ : ∃ k, k = l3.length := ⟨_, rfl⟩
 obtain ⟨p3, hp3⟩ : ∃ k, k = m3.length := ⟨_, rfl⟩
 obtain ⟨W, hW⟩ : ∃ W, W = (w.alloc (.cells #[.slice A0 k0 c0, .slice A1 n1 c1, .slice A2 k2 c2, .slice A3 n3 c3] 96)).alloc (.cells #[.slice B0 k0' d0, .slice B1 p1 d1, .slice B2 k2' d2, .slice B3 p3 d3] 96) := ⟨_, rfl⟩
 have hb0 : Below w.heap.size w W := by rw [hW]; exact ((Below.refl _ _).alloc (Nat.le_refl _) _).alloc (by simp) _
 have e0 : Blk W w.heap.size 96 #[.slice A0 k0 c0, .slice A1 n1 c1, .slice A2 k2 c2, .slice A3 n3 c3] := by rw [hW]; exact (Blk.new _ _ _).alloc _
 have e1 : Blk W (w.heap.size + 1) 96 #[.slice B0 k0' d0, .slice B1 p1 d1, .slice B2 k2' d2, .slice B3 p3 d3] := by rw [hW]; exact Blk.new_at _ _ (by simp)
 have E0 := Lh e0; have E1 := Lh e1; have HB0 := Lh hb0; have HR := Lh hR
 have Hc0 := Lh (rSameClasses A0 B0 c0 d0 l0 m0 W (a0.old hb0) (b0.old hb0))
 have Hc2 := Lh (fun W' (hb : Below w.heap.size w W') => rSameClasses A2 B2 c2 d2 l2 m2 W' (a2.old hb) (b2.old hb))
 have HA1 := Lh (fun W' (hb : Below w.heap.size w W') => a1.old hb); have HA3 := Lh (fun W' (hb : Below w.heap.size w W') => Row.old (P := ClauseAt) a3 hb)
 have HB1 := Lh (fun W' (hb : Below w.heap.size w W') => b1.old hb); have HB3 := Lh (fun W' (hb : Below w.heap.size w W') => Row.old (P := ClauseAt) b3 hb)
 rw [← hk0, ← hk0'] at Hc0
 rw [← hk2, ← hk2'] at Hc2
 rw [← hk0, ← hk0', ← hk2, ← hk2', ← hn1, ← hp1, ← hn3, ← hp3]
 rw [← hn1] at z1
 rw [← hn3] at z3
 rw [← hp1] at y1
 rw [← hp3] at y3
 have Hn1 := Lh hn1; have Hm1 := Lh hp1; have Hn3 := Lh hn3; have Hm3 := Lh hp3
 have hWs := hb0.size
 clear hR e0 e1 hb0 a0 a1 a2 a3 b0 b1 b2 b3 hk0 hk0' hk2 hk2' hn1 hp1 hn3 hp3
 go_enter Tryz.func39, Tryz.ntmps39
 go_wp2_with fail
 try rw [← hW]
 clear hW
 refine Hc0.out.mono ?_
 rintro e w1 ⟨rfl, hb1⟩
 have B1' := Lh (HB0.out.trans (hb1.mono HB0.out.size))
 have D0 := Lh (E0.out.below hb1 E0.out.lt)
 have D1 := Lh (E1.out.below hb1 E1.out.lt)
 clear hb1
 cases q0 : decide (l0 = m0) with
 | false =>
  have HR2 : Hid (R = false) := Lh (by rw [HR.out]; exact decide_eq_false fun e => by simp [e.1] at q0)
  clear q0
  go_wp2_with fail
  go_ret
  exact ⟨ret_bool HR2.out.symm, B1'.out⟩
 | true =>
 have hR1 := HR.out
 have q0' : l0 = m0 := by simpa using q0
 have x2 := D0.out.cell 2; have y2 := D1.out.cell 2
 simp at x2 y2
 have hw1 := B1'.out.size
 have Hc3 := Lh (Hc2.out w1 B1'.out)
 have Q0 := Lh q0'
 clear q0 hR1 q0' Hc2 Hc0
 go_wp2_with fail
 refine Hc3.out.mono ?_
 rintro e w2 ⟨rfl, hb2⟩
 have B2 := Lh (B1'.out.trans (hb2.mono B1'.out.size))
 have G0 := D0.out.below hb2 D0.out.lt
 have G1 := D1.out.below hb2 D1.out.lt
 have g1 := G0.cell 1; have h1 := G1.cell 1; have g3 := G0.cell 3; have h3 := G1.cell 3
 simp at g1 h1 g3 h3
 have hg0 := G0.lt; have hg1 := G1.lt
 have RA1 := Lh (HA1.out w2 B2.out); have RA3 := Lh (HA3.out w2 B2.out); have RB1 := Lh (HB1.out w2 B2.out); have RB3 := Lh (HB3.out w2 B2.out)
 clear hb2 G0 G1 HA1 HA3 HB1 HB3 Hc3 x2 y2 E0 E1 D0 D1
 cases q2 : decide (l2 = m2) with
 | false =>
  have HR2 : Hid (R = false) := Lh (by rw [HR.out]; exact decide_eq_false fun e => by simp [e.2.1] at q2)
  clear q2
  go_wp2_with fail
  go_ret
  exact ⟨ret_bool HR2.out.symm, B2.out⟩
 | true =>
 cases r1 : ((n1 : Int) != (p1 : Int)) with
 | true =>
  have HR2 : Hid (R = false) := Lh (by rw [HR.out]; exact decide_eq_false fun e => by have := Hn1.out; have := Hm1.out; rw [e.2.2.1] at *; simp at r1; omega)
  clear q2
  go_wp2_with fail
  go_ret
  exact ⟨ret_bool HR2.out.symm, B2.out⟩
 | false =>
 cases r3 : ((n3 : Int) != (p3 : Int)) with
 | true =>
  have HR2 : Hid (R = false) := Lh (by rw [HR.out]; exact decide_eq_false fun e => by have := Hn3.out; have := Hm3.out; rw [e.2.2.2] at *; simp at r3; omega)
  clear q2
  go_wp2_with fail
  go_ret
  exact ⟨ret_bool HR2.out.symm, B2.out⟩
 | false =>
 have hR3 : R = decide (l1 = m1 ∧ l3 = m3) := by
  have e2 : l2 = m2 := by simpa using q2
  rw [HR.out, Q0.out, e2]
  simp
 clear HR
 have HR := Lh hR3
 obtain rfl : n1 = p1 := by have : (n1 : Int) = p1 := (by simpa using r1); omega
 obtain rfl : n3 = p3 := by have : (n3 : Int) = p3 := (by simpa using r3); omega
 clear hR3 q2 r1 r3 Q0
 go_wp2_with fail
 go_loopg [5] n1 (fun gk v5 wr => ∃ i nn : Nat, v5 = .int .i64 i ∧ i + gk = n1 ∧ wr = w2.drewN nn ∧ Hid (∀ j, j < i → l1[j]? = m1[j]?))
 case atStart => exact ⟨0, 0, rfl, by omega, rfl, Lh (fun j hj => absurd hj (Nat.not_lt_zero j))⟩
 case round =>
  obtain ⟨i, nn, rfl, hi, rfl, Hag⟩ := hrel
  by_cases hlt : i < n1
  ·obtain ⟨x, hx⟩ : ∃ x, l1[i]? = some x := ⟨_, List.getElem?_eq_getElem (by have := Hn1.out; omega)⟩
   obtain ⟨y, hy⟩ : ∃ y, m1[i]? = some y := ⟨_, List.getElem?_eq_getElem (by have := Hm1.out; omega)⟩
   obtain ⟨bx, ox, csx, rfl, _, hpx, hcx⟩ := RA1.out.at_ i x hx
   obtain ⟨by_, oy, csy, rfl, _, hpy, hcy⟩ := RB1.out.at_ i y hy
   obtain rfl := hpx.1
   obtain rfl := hpy.1
   have x0 := hcx 0 _ rfl; have y0 := hcy 0 _ rfl
   have x1 := hcx 1 _ rfl; have y1 := hcy 1 _ rfl
   simp only [Nat.add_zero, intV, strV] at x0 y0 x1 y1
   have Hx := Lh hx; have Hy := Lh hy
   clear hcx hcy hx hy
   have hneq := sNeqFee x y
   unfold feeV at hneq
   cases hq : decide (x = y) with
   | false =>
    have HR2 : Hid (R = false) := Lh (by
     rw [HR.out]
     refine decide_eq_false fun e0 => ?_
     have hxy : x ≠ y := fun e => by simp [e] at hq
     have h1 := Hx.out
     rw [e0.1, Hy.out] at h1
     injection h1 with h1
     exact hxy h1.symm)
    rw [hq] at hneq
    clear hq
    go_wp2_with fail
    go_quiet (fail)
    go_wp2_with fail
    go_ret
    exact ⟨ret_bool HR2.out.symm, bel_drewN (bel_drewN B2.out _) _⟩
   | true =>
    have hnx := sAgree_next Hag.out (by have e : x = y := (by simpa using hq); rw [Hx.out, Hy.out, e])
    have Hnx := Lh hnx
    rw [hq] at hneq
    clear hnx hq
    go_wp2_with fail
    go_quiet (fail)
    go_wp2_with fail
    go_roundg (gk - 1)
    all_goals first
     | omega
     | exact ⟨i + 1, _, by go_num, by omega, (by first | rfl | exact World.drewN_drewN _ _ _), Lh Hnx.out⟩
  ·obtain rfl : i = n1 := by omega
   have hall : l1 = m1 := sAgree_all Hag.out Hn1.out Hm1.out
   have hR1 := HR.out
   rw [hall] at hR1
   simp only [true_and] at hR1
   clear HR
   have HR := Lh hR1
   clear hR1 hall Hag hi hlt
   go_wp2_with fail
   go_loopg [6] n3 (fun gk v6 wr => ∃ i nn : Nat, v6 = .int .i64 i ∧ i + gk = n3 ∧ wr = w2.drewN nn ∧ Hid (∀ j, j < i → l3[j]? = m3[j]?))
   case atStart => exact ⟨0, nn, rfl, by omega, rfl, Lh (fun j hj => absurd hj (Nat.not_lt_zero j))⟩
   case round =>
    obtain ⟨i, nn, rfl, hi, rfl, Hag⟩ := hrel
    by_cases hlt : i < n3
    ·obtain ⟨x, hx⟩ : ∃ x, l3[i]? = some x := ⟨_, List.getElem?_eq_getElem (by have := Hn3.out; omega)⟩
     obtain ⟨y, hy⟩ : ∃ y, m3[i]? = some y := ⟨_, List.getElem?_eq_getElem (by have := Hm3.out; omega)⟩
     obtain ⟨bx, ox, csx, rfl, _, hpx, hcx⟩ := RA3.out.at_ i x hx
     obtain ⟨by_, oy, csy, rfl, _, hpy, hcy⟩ := RB3.out.at_ i y hy
     obtain rfl := hpx
     obtain rfl := hpy
     have x0 := hcx 0 _ rfl; have y0 := hcy 0 _ rfl
     have x1 := hcx 1 _ rfl; have y1 := hcy 1 _ rfl
     have x2 := hcx 2 _ rfl; have y2 := hcy 2 _ rfl
     have x3 := hcx 3 _ rfl; have y3 := hcy 3 _ rfl
     simp only [Nat.add_zero, intV] at x0 y0 x1 y1 x2 y2 x3 y3
     have Hx := Lh hx; have Hy := Lh hy
     clear hcx hcy hx hy
     have hneq := sNeqClause x y
     unfold clauseV at hneq
     cases hq : decide (x = y) with
     | false =>
      have HR2 : Hid (R = false) := Lh (by
       rw [HR.out]
       refine decide_eq_false fun e0 => ?_
       have hxy : x ≠ y := fun e => by simp [e] at hq
       have h1 := Hx.out
       rw [e0, Hy.out] at h1
       injection h1 with h1
       exact hxy h1.symm)
      rw [hq] at hneq
      clear hq
      go_wp2_with fail
      go_quiet (fail)
      go_wp2_with fail
      go_ret
      exact ⟨ret_bool HR2.out.symm, bel_drewN (bel_drewN B2.out _) _⟩
     | true =>
      have hnx := sAgree_next Hag.out (by have e : x = y := (by simpa using hq); rw [Hx.out, Hy.out, e])
      have Hnx := Lh hnx
      rw [hq] at hneq
      clear hnx hq
      go_wp2_with fail
      go_quiet (fail)
      go_wp2_with fail
      go_roundg (gk - 1)
      all_goals first
       | omega
       | exact ⟨i + 1, _, by go_num, by omega, (by first | rfl | exact World.drewN_drewN _ _ _), Lh Hnx.out⟩
    ·obtain rfl : i = n3 := by omega
     have hall : l3 = m3 := sAgree_all Hag.out Hn3.out Hm3.out
     have HR2 : Hid (R = true) := Lh (by rw [HR.out, hall]; simp)
     go_wp2_with fail
     go_ret
     exact ⟨ret_bool HR2.out.symm, bel_drewN B2.out _⟩
end Go.Proofs.YtjonaidancomgaaGreatDoor
