/- Parts of the proof, joined into one text: SxSame, SxSanP, SxOk. -/
import Derived.Test.YtjonaidancomgaaGreatDoorYSxEqs
import Derived.Test.YtjonaidancomgaaGreatDoorYSxSameC
import Derived.Deep.RegionHeldLaw
import Derived.Test.YtjonaidancomgaaGreatDoorYLxPlain
import Derived.Test.YtjonaidancomgaaGreatDoorYSxCatch

namespace Go.Proofs.YtjonaidancomgaaGreatDoor
open Go.RowKit

instance : DecidableEq Sx.Rule := fun a b => decidable_of_iff _ (Sx.ruleEq_iff a b)
instance : DecidableEq Sx.Course := fun a b => decidable_of_iff _ (Sx.courseEq_iff a b)
instance : DecidableEq Sx.Cat := fun a b => decidable_of_iff (a.courses = b.courses ∧ a.same = b.same ∧ a.progs = b.progs ∧ a.classes = b.classes ∧ a.fees = b.fees ∧ a.honours = b.honours ∧ a.clauses = b.clauses) (by cases a; cases b; simp)
set_option maxRecDepth 20000 in
set_option maxHeartbeats 16000000 in
theorem rSame (a b : Sx.Cat) (w : World) (ca cb : List Value) (ha : CatAt w (Old w) a ca) (hb : CatAt w (Old w) b cb) :
  Calls Tryz.prog 14 #[.agg ca.toArray, .agg cb.toArray] w (BoolPost (decide (a = b)) w) := by
 obtain ⟨l0, l1, l2, l3, l4, l5, l6⟩ := a
 obtain ⟨k0, k1, k2, k3, k4, k5, k6⟩ := b
 obtain ⟨A0, c0, A1, c1, A2, c2, A3, c3, A4, c4, A5, c5, A6, c6, rfl, a0, a1, a2, a3, a4, a5, a6⟩ := ha
 obtain ⟨B0, d0, B1, d1, B2, d2, B3, d3, B4, d4, B5, d5, B6, d6, rfl, b0, b1, b2, b3, b4, b5, b6⟩ := hb
 obtain ⟨R, hR⟩ : ∃ R, R = decide ((⟨l0, l1, l2, l3, l4, l5, l6⟩ : Sx.Cat) = ⟨k0, k1, k2, k3, k4, k5, k6⟩) := ⟨_, rfl⟩
 rw [← hR]
 simp only [Sx.Cat.mk.injEq] at hR
 have Hsys := Lh (fun W' (hb : Below w.heap.size w W') => rSameSystem A3 A4 A5 A6 B3 B4 B5 B6 c3 c4 c5 c6 d3 d4 d5 d6 l3 k3 l5 k5 l4 k4 l6 k6 W' (a3.old hb) (a4.old hb) (a5.old hb) (Row.old (P := ClauseAt) a6 hb) (b3.old hb) (b4.old hb) (b5.old hb) (Row.old (P := ClauseAt) b6 hb))
 simp only at a0 a1 a2 b0 b1 b2 ⊢
 obtain ⟨n0, hn0⟩ : ∃ n, n = l0.length := ⟨_, rfl⟩
 obtain ⟨m0, hm0⟩ : ∃ m, m = k0.length := ⟨_, rfl⟩
 obtain ⟨n1, hn1⟩ : ∃ n, n = l1.length := ⟨_, rfl⟩
 obtain ⟨m1, hm1⟩ : ∃ m, m = k1.length := ⟨_, rfl⟩
 obtain ⟨n2, hn2⟩ : ∃ n, n = l2.length := ⟨_, rfl⟩
 obtain ⟨m2, hm2⟩ : ∃ m, m = k2.length := ⟨_, rfl⟩
 obtain ⟨n3, hn3⟩ : ∃ n, n = l3.length := ⟨_, rfl⟩
 obtain ⟨m3, hm3⟩ : ∃ m, m = k3.length := ⟨_, rfl⟩
 obtain ⟨n4, hn4⟩ : ∃ n, n = l4.length := ⟨_, rfl⟩
 obtain ⟨m4, hm4⟩ : ∃ m, m = k4.length := ⟨_, rfl⟩
 obtain ⟨n5, hn5⟩ : ∃ n, n = l5.length := ⟨_, rfl⟩
 obtain ⟨m5, hm5⟩ : ∃ m, m = k5.length := ⟨_, rfl⟩
 obtain ⟨n6, hn6⟩ : ∃ n, n = l6.length := ⟨_, rfl⟩
 obtain ⟨m6, hm6⟩ : ∃ m, m = k6.length := ⟨_, rfl⟩
 have z0 := a0.len; have y0 := b0.len
 rw [← hn0] at z0
 rw [← hm0] at y0
 have z1 := a1.len; have y1 := b1.len
 rw [← hn1] at z1
 rw [← hm1] at y1
 have z2 := a2.len; have y2 := b2.len
 rw [← hn2] at z2
 rw [← hm2] at y2
 simp only [← hn3, ← hn4, ← hn5, ← hn6, ← hm3, ← hm4, ← hm5, ← hm6] at Hsys
 rw [← hn0, ← hm0, ← hn1, ← hm1, ← hn2, ← hm2, ← hn3, ← hm3, ← hn4, ← hm4, ← hn5, ← hm5, ← hn6, ← hm6]
 obtain ⟨W, hW⟩ : ∃ W, W = (w.alloc (.cells #[.slice A0 n0 c0, .slice A1 n1 c1, .slice A2 n2 c2, .slice A3 n3 c3, .slice A4 n4 c4, .slice A5 n5 c5, .slice A6 n6 c6] 30)).alloc (.cells #[.slice B0 m0 d0, .slice B1 m1 d1, .slice B2 m2 d2, .slice B3 m3 d3, .slice B4 m4 d4, .slice B5 m5 d5, .slice B6 m6 d6] 30) := ⟨_, rfl⟩
 have hb0 : Below w.heap.size w W := by rw [hW]; exact ((Below.refl _ _).alloc (Nat.le_refl _) _).alloc (by simp) _
 have e0 : Blk W w.heap.size 30 #[.slice A0 n0 c0, .slice A1 n1 c1, .slice A2 n2 c2, .slice A3 n3 c3, .slice A4 n4 c4, .slice A5 n5 c5, .slice A6 n6 c6] := by rw [hW]; exact (Blk.new _ _ _).alloc _
 have e1 : Blk W (w.heap.size + 1) 30 #[.slice B0 m0 d0, .slice B1 m1 d1, .slice B2 m2 d2, .slice B3 m3 d3, .slice B4 m4 d4, .slice B5 m5 d5, .slice B6 m6 d6] := by rw [hW]; exact Blk.new_at _ _ (by simp)
 have HE0 := Lh e0; have HE1 := Lh e1; have HB0 := Lh hb0
 have Hn0 := Lh hn0; have Hm0 := Lh hm0; have Hn1 := Lh hn1; have Hm1 := Lh hm1; have Hn2 := Lh hn2; have Hm2 := Lh hm2
 have RA0 := Lh a0; have RB0 := Lh b0; have RA1 := Lh a1; have RB1 := Lh b1; have RA2 := Lh a2; have RB2 := Lh b2
 have Hall : Hid (∀ w' : World, Below W.heap.size W w' → w'.cell? ⟨w.heap.size, 0, none⟩ = some (.slice A0 n0 c0) ∧ w'.cell? ⟨w.heap.size, 1, none⟩ = some (.slice A1 n1 c1) ∧ w'.cell? ⟨w.heap.size, 2, none⟩ = some (.slice A2 n2 c2) ∧ w'.cell? ⟨w.heap.size, 3, none⟩ = some (.slice A3 n3 c3) ∧ w'.cell? ⟨w.heap.size, 4, none⟩ = some (.slice A4 n4 c4) ∧ w'.cell? ⟨w.heap.size, 5, none⟩ = some (.slice A5 n5 c5) ∧ w'.cell? ⟨w.heap.size, 6, none⟩ = some (.slice A6 n6 c6) ∧ w'.cell? ⟨w.heap.size + 1, 0, none⟩ = some (.slice B0 m0 d0) ∧ w'.cell? ⟨w.heap.size + 1, 1, none⟩ = some (.slice B1 m1 d1) ∧ w'.cell? ⟨w.heap.size + 1, 2, none⟩ = some (.slice B2 m2 d2) ∧ w'.cell? ⟨w.heap.size + 1, 3, none⟩ = some (.slice B3 m3 d3) ∧ w'.cell? ⟨w.heap.size + 1, 4, none⟩ = some (.slice B4 m4 d4) ∧ w'.cell? ⟨w.heap.size + 1, 5, none⟩ = some (.slice B5 m5 d5) ∧ w'.cell? ⟨w.heap.size + 1, 6, none⟩ = some (.slice B6 m6 d6)) := Lh (fun w' hb => by
  have g0 := e0.below hb e0.lt
  have g1 := e1.below hb e1.lt
  refine ⟨?_, ?_, ?_, ?_, ?_, ?_, ?_, ?_, ?_, ?_, ?_, ?_, ?_, ?_⟩ <;> first | exact (g0.cell _).trans rfl | exact (g1.cell _).trans rfl)
 have hWs := hb0.size
 clear e0 e1 hb0 a0 a1 a2 a3 a4 a5 a6 b0 b1 b2 b3 b4 b5 b6 hn0 hn1 hn2 hm0 hm1 hm2 hn3 hn4 hn5 hn6 hm3 hm4 hm5 hm6
 cases q0 : ((n0 : Int) != (m0 : Int)) with
 | true =>
  have HR2 : Hid (R = false) := Lh (by rw [hR]; exact decide_eq_false fun e => by have h1 := Hn0.out; have h2 := Hm0.out; rw [e.1] at h1; simp at q0; omega)
  clear hR
  go_enter Tryz.func14, Tryz.ntmps14
  go_wp2_with fail
  go_quiet (fail)
  all_goals (try go_wp2_with fail)
  all_goals go_ret
  all_goals exact ⟨ret_bool HR2.out.symm, (by rw [← hW]; first | exact HB0.out | exact HB0.out.drew | exact bel_drewN HB0.out _)⟩
 | false =>
 cases q1 : ((n1 : Int) != (m1 : Int)) with
 | true =>
  have HR2 : Hid (R = false) := Lh (by rw [hR]; exact decide_eq_false fun e => by have h1 := Hn1.out; have h2 := Hm1.out; rw [e.2.1] at h1; simp at q1; omega)
  clear hR
  go_enter Tryz.func14, Tryz.ntmps14
  go_wp2_with fail
  go_quiet (fail)
  all_goals (try go_wp2_with fail)
  all_goals go_ret
  all_goals exact ⟨ret_bool HR2.out.symm, (by rw [← hW]; first | exact HB0.out | exact HB0.out.drew | exact bel_drewN HB0.out _)⟩
 | false =>
 cases q2 : ((n2 : Int) != (m2 : Int)) with
 | true =>
  have HR2 : Hid (R = false) := Lh (by rw [hR]; exact decide_eq_false fun e => by have h1 := Hn2.out; have h2 := Hm2.out; rw [e.2.2.1] at h1; simp at q2; omega)
  clear hR
  go_enter Tryz.func14, Tryz.ntmps14
  go_wp2_with fail
  go_quiet (fail)
  all_goals (try go_wp2_with fail)
  all_goals go_ret
  all_goals exact ⟨ret_bool HR2.out.symm, (by rw [← hW]; first | exact HB0.out | exact HB0.out.drew | exact bel_drewN HB0.out _)⟩
 | false =>
 have hsq : Hid (R = decide (l0 = k0 ∧ l1 = k1 ∧ l2 = k2 ∧ (l3 = k3 ∧ l5 = k5 ∧ l4 = k4 ∧ l6 = k6))) := Lh (by
  rw [hR]
  congr 1
  apply propext
  constructor
  ·rintro ⟨h0, h1, h2, h3, h4, h5, h6⟩; exact ⟨h0, h1, h2, h3, h5, h4, h6⟩
  ·rintro ⟨h0, h1, h2, h3, h5, h4, h6⟩; exact ⟨h0, h1, h2, h3, h4, h5, h6⟩)
 clear hR
 obtain rfl : n0 = m0 := by have : (n0 : Int) = m0 := (by simpa using q0); omega
 obtain rfl : n1 = m1 := by have : (n1 : Int) = m1 := (by simpa using q1); omega
 obtain rfl : n2 = m2 := by have : (n2 : Int) = m2 := (by simpa using q2); omega
 cases q3 : decide (l3 = k3 ∧ l5 = k5 ∧ l4 = k4 ∧ l6 = k6) with
 | false =>
  have HR2 : Hid (R = false) := Lh (by rw [hsq.out]; exact decide_eq_false fun e => by simp [e.2.2.2] at q3)
  rw [q3] at Hsys
  clear hsq q3
  go_enter Tryz.func14, Tryz.ntmps14
  go_wp2_with fail
  try rw [← hW]
  clear hW
  go_region_held_law (fun w' : World => w'.cell? ⟨w.heap.size, 0, none⟩ = some (.slice A0 n0 c0) ∧ w'.cell? ⟨w.heap.size, 1, none⟩ = some (.slice A1 n1 c1) ∧ w'.cell? ⟨w.heap.size, 2, none⟩ = some (.slice A2 n2 c2) ∧ w'.cell? ⟨w.heap.size, 3, none⟩ = some (.slice A3 n3 c3) ∧ w'.cell? ⟨w.heap.size, 4, none⟩ = some (.slice A4 n4 c4) ∧ w'.cell? ⟨w.heap.size, 5, none⟩ = some (.slice A5 n5 c5) ∧ w'.cell? ⟨w.heap.size, 6, none⟩ = some (.slice A6 n6 c6) ∧ w'.cell? ⟨w.heap.size + 1, 0, none⟩ = some (.slice B0 n0 d0) ∧ w'.cell? ⟨w.heap.size + 1, 1, none⟩ = some (.slice B1 n1 d1) ∧ w'.cell? ⟨w.heap.size + 1, 2, none⟩ = some (.slice B2 n2 d2) ∧ w'.cell? ⟨w.heap.size + 1, 3, none⟩ = some (.slice B3 m3 d3) ∧ w'.cell? ⟨w.heap.size + 1, 4, none⟩ = some (.slice B4 m4 d4) ∧ w'.cell? ⟨w.heap.size + 1, 5, none⟩ = some (.slice B5 m5 d5) ∧ w'.cell? ⟨w.heap.size + 1, 6, none⟩ = some (.slice B6 m6 d6)) (first | exact Hall.out _ (Below.refl W.heap.size W).drew | go_keep) (first | (go_at_call 39; refine (Hsys.out _ (HB0.out.trans (HB6.out.mono HB0.out.size))).mono ?_; rintro e w7 ⟨rfl, hb7⟩; have hc7 := HB6.out.trans (hb7.mono HB6.out.size); obtain ⟨r0, r1, r2, r3, r4, r5, r6, r7, r8, r9, r10, r11, r12, r13⟩ := Hall.out w7 hc7; have HB7 := Lh hc7; clear hb7 hc7) | (go_at_call 40; refine (rSystem _ _ _ _ _ _ _ _ _ _ _ _ _ _ _ _ _ _ _ _ _ _).mono ?_; rintro e w6 ⟨rfl, hb6⟩; have hc6 := HB5.out.trans (hb6.mono HB5.out.size); obtain ⟨r0, r1, r2, r3, r4, r5, r6, r7, r8, r9, r10, r11, r12, r13⟩ := Hall.out w6 hc6; have HB6 := Lh hc6; clear hb6 hc6) | (go_at_call 40; refine (rSystem _ _ _ _ _ _ _ _ _ _ _ _ _ _ _ _ _ _ _ _ _ _).mono ?_; rintro e w5 ⟨rfl, hb5⟩; have hc5 := Below.trans (Below.refl W.heap.size W).drew hb5; obtain ⟨r0, r1, r2, r3, r4, r5, r6, r7, r8, r9, r10, r11, r12, r13⟩ := Hall.out w5 hc5; have HB5 := Lh hc5; clear hb5 hc5))
  all_goals (try go_wp2_with fail)
  all_goals go_ret
  all_goals exact ⟨ret_bool HR2.out.symm, HB0.out.trans (HB7.out.mono HB0.out.size)⟩
 | true =>
 have HR : Hid (R = decide (l0 = k0 ∧ l1 = k1 ∧ l2 = k2)) := Lh (by rw [hsq.out]; exact decide_eq_decide.mpr ⟨fun h => ⟨h.1, h.2.1, h.2.2.1⟩, fun h => ⟨h.1, h.2.1, h.2.2, of_decide_eq_true q3⟩⟩)
 rw [q3] at Hsys
 clear hsq q3 q0 q1 q2
 go_enter Tryz.func14, Tryz.ntmps14
 go_wp2_with fail
 try rw [← hW]
 clear hW
 go_region_held_law (fun w' : World => w'.cell? ⟨w.heap.size, 0, none⟩ = some (.slice A0 n0 c0) ∧ w'.cell? ⟨w.heap.size, 1, none⟩ = some (.slice A1 n1 c1) ∧ w'.cell? ⟨w.heap.size, 2, none⟩ = some (.slice A2 n2 c2) ∧ w'.cell? ⟨w.heap.size, 3, none⟩ = some (.slice A3 n3 c3) ∧ w'.cell? ⟨w.heap.size, 4, none⟩ = some (.slice A4 n4 c4) ∧ w'.cell? ⟨w.heap.size, 5, none⟩ = some (.slice A5 n5 c5) ∧ w'.cell? ⟨w.heap.size, 6, none⟩ = some (.slice A6 n6 c6) ∧ w'.cell? ⟨w.heap.size + 1, 0, none⟩ = some (.slice B0 n0 d0) ∧ w'.cell? ⟨w.heap.size + 1, 1, none⟩ = some (.slice B1 n1 d1) ∧ w'.cell? ⟨w.heap.size + 1, 2, none⟩ = some (.slice B2 n2 d2) ∧ w'.cell? ⟨w.heap.size + 1, 3, none⟩ = some (.slice B3 m3 d3) ∧ w'.cell? ⟨w.heap.size + 1, 4, none⟩ = some (.slice B4 m4 d4) ∧ w'.cell? ⟨w.heap.size + 1, 5, none⟩ = some (.slice B5 m5 d5) ∧ w'.cell? ⟨w.heap.size + 1, 6, none⟩ = some (.slice B6 m6 d6)) (first | exact Hall.out _ (Below.refl W.heap.size W).drew | go_keep) (first | (go_at_call 39; refine (Hsys.out _ (HB0.out.trans (HB6.out.mono HB0.out.size))).mono ?_; rintro e w7 ⟨rfl, hb7⟩; have hc7 := HB6.out.trans (hb7.mono HB6.out.size); obtain ⟨r0, r1, r2, r3, r4, r5, r6, r7, r8, r9, r10, r11, r12, r13⟩ := Hall.out w7 hc7; have HB7 := Lh hc7; clear hb7 hc7) | (go_at_call 40; refine (rSystem _ _ _ _ _ _ _ _ _ _ _ _ _ _ _ _ _ _ _ _ _ _).mono ?_; rintro e w6 ⟨rfl, hb6⟩; have hc6 := HB5.out.trans (hb6.mono HB5.out.size); obtain ⟨r0, r1, r2, r3, r4, r5, r6, r7, r8, r9, r10, r11, r12, r13⟩ := Hall.out w6 hc6; have HB6 := Lh hc6; clear hb6 hc6) | (go_at_call 40; refine (rSystem _ _ _ _ _ _ _ _ _ _ _ _ _ _ _ _ _ _ _ _ _ _).mono ?_; rintro e w5 ⟨rfl, hb5⟩; have hc5 := Below.trans (Below.refl W.heap.size W).drew hb5; obtain ⟨r0, r1, r2, r3, r4, r5, r6, r7, r8, r9, r10, r11, r12, r13⟩ := Hall.out w5 hc5; have HB5 := Lh hc5; clear hb5 hc5))
 all_goals clear Hsys
 all_goals (try go_wp2_with fail)
 go_loopg [5] n0 (fun gk v5 wr => ∃ i : Nat, v5 = .int .i64 i ∧ i + gk = n0 ∧ Hid (Below W.heap.size W wr) ∧ Hid (∀ j, j < i → l0[j]? = k0[j]?))
 case atStart => exact ⟨0, rfl, by omega, Lh HB7.out, Lh (fun j hj => absurd hj (Nat.not_lt_zero j))⟩
 case round =>
  obtain ⟨i, rfl, hi, Hb0, Hag⟩ := hrel
  have Bl := Lh (HB0.out.trans (Hb0.out.mono HB0.out.size))
  have g0 := HE0.out.below Hb0.out HE0.out.lt
  have g1 := HE1.out.below Hb0.out HE1.out.lt
  have g6 := g0.cell 0; have h6 := g1.cell 0
  simp at g6 h6
  clear g0 g1
  by_cases hlt : i < n0
  ·obtain ⟨x, hx⟩ : ∃ x, l0[i]? = some x := ⟨_, List.getElem?_eq_getElem (by have := Hn0.out; omega)⟩
   obtain ⟨y, hy⟩ : ∃ y, k0[i]? = some y := ⟨_, List.getElem?_eq_getElem (by have := Hm0.out; omega)⟩
   have Hx := Lh hx; have Hy := Lh hy
   obtain ⟨xn, xo, xc, xr, ⟨x1, x2, x3, x4, x5, xks⟩, ⟨x6, x7, x8, x9, x10, xls⟩⟩ := x
   obtain ⟨yn, yo, yc, yr, ⟨y1, y2, y3, y4, y5, yks⟩, ⟨y6, y7, y8, y9, y10, yls⟩⟩ := y
   obtain ⟨bk, ok, csk, rfl, hSk, hrk, hck⟩ := RA0.out.at_ i _ hx
   have hrk' := CourseAt.keep (fun b hb1 => (⟨Nat.lt_of_lt_of_le hb1 Bl.out.size, fun i => Bl.out.cell (p := ⟨b, i, none⟩) hb1⟩ : Old wr b ∧ ∀ i, wr.cell? ⟨b, i, none⟩ = w.cell? ⟨b, i, none⟩)) hrk
   obtain ⟨kn, kb, rfl, -, kr1, kr2⟩ := hrk
   rw [RuleAt.eq_def] at kr1 kr2
   obtain ⟨kA, ki, rfl, -, -, -⟩ := kr1
   obtain ⟨kB, kj, rfl, -, -, -⟩ := kr2
   have k0 := (Bl.out.cell (p := ⟨bk, _, none⟩) hSk).trans (hck 0 _ rfl)
   have k1 := (Bl.out.cell (p := ⟨bk, _, none⟩) hSk).trans (hck 1 _ rfl)
   have k2 := (Bl.out.cell (p := ⟨bk, _, none⟩) hSk).trans (hck 2 _ rfl)
   have k3 := (Bl.out.cell (p := ⟨bk, _, none⟩) hSk).trans (hck 3 _ rfl)
   have k4 := (Bl.out.cell (p := ⟨bk, _, none⟩) hSk).trans (hck 4 _ rfl)
   have k5 := (Bl.out.cell (p := ⟨bk, _, none⟩) hSk).trans (hck 5 _ rfl)
   have k6 := (Bl.out.cell (p := ⟨bk, _, none⟩) hSk).trans (hck 6 _ rfl)
   have k7 := (Bl.out.cell (p := ⟨bk, _, none⟩) hSk).trans (hck 7 _ rfl)
   have k8 := (Bl.out.cell (p := ⟨bk, _, none⟩) hSk).trans (hck 8 _ rfl)
   have k9 := (Bl.out.cell (p := ⟨bk, _, none⟩) hSk).trans (hck 9 _ rfl)
   have k10 := (Bl.out.cell (p := ⟨bk, _, none⟩) hSk).trans (hck 10 _ rfl)
   have k11 := (Bl.out.cell (p := ⟨bk, _, none⟩) hSk).trans (hck 11 _ rfl)
   have k12 := (Bl.out.cell (p := ⟨bk, _, none⟩) hSk).trans (hck 12 _ rfl)
   have k13 := (Bl.out.cell (p := ⟨bk, _, none⟩) hSk).trans (hck 13 _ rfl)
   have k14 := (Bl.out.cell (p := ⟨bk, _, none⟩) hSk).trans (hck 14 _ rfl)
   have k15 := (Bl.out.cell (p := ⟨bk, _, none⟩) hSk).trans (hck 15 _ rfl)
   simp only [Nat.add_zero, intV, strV] at k0 k1 k2 k3 k4 k5 k6 k7 k8 k9 k10 k11 k12 k13 k14 k15 hrk'
   obtain ⟨bl, ol, csl, rfl, hSl, hrl, hcl⟩ := RB0.out.at_ i _ hy
   have hrl' := CourseAt.keep (fun b hb1 => (⟨Nat.lt_of_lt_of_le hb1 Bl.out.size, fun i => Bl.out.cell (p := ⟨b, i, none⟩) hb1⟩ : Old wr b ∧ ∀ i, wr.cell? ⟨b, i, none⟩ = w.cell? ⟨b, i, none⟩)) hrl
   obtain ⟨ln, lb, rfl, -, lr1, lr2⟩ := hrl
   rw [RuleAt.eq_def] at lr1 lr2
   obtain ⟨lA, li, rfl, -, -, -⟩ := lr1
   obtain ⟨lB, lj, rfl, -, -, -⟩ := lr2
   have l0 := (Bl.out.cell (p := ⟨bl, _, none⟩) hSl).trans (hcl 0 _ rfl)
   have l1 := (Bl.out.cell (p := ⟨bl, _, none⟩) hSl).trans (hcl 1 _ rfl)
   have l2 := (Bl.out.cell (p := ⟨bl, _, none⟩) hSl).trans (hcl 2 _ rfl)
   have l3 := (Bl.out.cell (p := ⟨bl, _, none⟩) hSl).trans (hcl 3 _ rfl)
   have l4 := (Bl.out.cell (p := ⟨bl, _, none⟩) hSl).trans (hcl 4 _ rfl)
   have l5 := (Bl.out.cell (p := ⟨bl, _, none⟩) hSl).trans (hcl 5 _ rfl)
   have l6 := (Bl.out.cell (p := ⟨bl, _, none⟩) hSl).trans (hcl 6 _ rfl)
   have l7 := (Bl.out.cell (p := ⟨bl, _, none⟩) hSl).trans (hcl 7 _ rfl)
   have l8 := (Bl.out.cell (p := ⟨bl, _, none⟩) hSl).trans (hcl 8 _ rfl)
   have l9 := (Bl.out.cell (p := ⟨bl, _, none⟩) hSl).trans (hcl 9 _ rfl)
   have l10 := (Bl.out.cell (p := ⟨bl, _, none⟩) hSl).trans (hcl 10 _ rfl)
   have l11 := (Bl.out.cell (p := ⟨bl, _, none⟩) hSl).trans (hcl 11 _ rfl)
   have l12 := (Bl.out.cell (p := ⟨bl, _, none⟩) hSl).trans (hcl 12 _ rfl)
   have l13 := (Bl.out.cell (p := ⟨bl, _, none⟩) hSl).trans (hcl 13 _ rfl)
   have l14 := (Bl.out.cell (p := ⟨bl, _, none⟩) hSl).trans (hcl 14 _ rfl)
   have l15 := (Bl.out.cell (p := ⟨bl, _, none⟩) hSl).trans (hcl 15 _ rfl)
   simp only [Nat.add_zero, intV, strV] at l0 l1 l2 l3 l4 l5 l6 l7 l8 l9 l10 l11 l12 l13 l14 l15 hrl'
   have Hcall := Lh (rSameCourse (⟨xn, xo, xc, xr, .mk x1 x2 x3 x4 x5 xks, .mk x6 x7 x8 x9 x10 xls⟩ : Sx.Course) (⟨yn, yo, yc, yr, .mk y1 y2 y3 y4 y5 yks, .mk y6 y7 y8 y9 y10 yls⟩ : Sx.Course) wr.drew _ _ (CourseAt.keep (w := wr) (w' := wr.drew) (S := Old wr) (S' := Old wr.drew) (fun b hb1 => ⟨hb1, fun _ => rfl⟩) hrk') (CourseAt.keep (w := wr) (w' := wr.drew) (S := Old wr) (S' := Old wr.drew) (fun b hb1 => ⟨hb1, fun _ => rfl⟩) hrl'))
   simp only [List.cons_append, List.nil_append] at Hcall
   clear hrk' hrl' hck hcl hx hy
   cases hq : Sx.courseEq ⟨xn, xo, xc, xr, .mk x1 x2 x3 x4 x5 xks, .mk x6 x7 x8 x9 x10 xls⟩ ⟨yn, yo, yc, yr, .mk y1 y2 y3 y4 y5 yks, .mk y6 y7 y8 y9 y10 yls⟩ with
   | false =>
    rw [hq] at Hcall
    have HR2 : Hid (R = false) := Lh (by
     rw [HR.out]
     refine decide_eq_false fun e0 => ?_
     have hxy : (⟨xn, xo, xc, xr, .mk x1 x2 x3 x4 x5 xks, .mk x6 x7 x8 x9 x10 xls⟩ : Sx.Course) ≠ ⟨yn, yo, yc, yr, .mk y1 y2 y3 y4 y5 yks, .mk y6 y7 y8 y9 y10 yls⟩ := (fun e => by rw [(Sx.courseEq_iff _ _).mpr e] at hq; cases hq)
     have h1 := Hx.out
     rw [e0.1, Hy.out] at h1
     injection h1 with h1
     exact hxy h1.symm)
    clear hq
    go_wp2_with fail
    go_region_law (go_simp; go_at_call 41; refine Hcall.out.mono ?_; rintro e w9 ⟨rfl, hb9⟩; have Hb9 := Lh hb9; clear hb9)
    all_goals (try go_wp2_with fail)
    all_goals go_ret
    all_goals exact ⟨ret_bool HR2.out.symm, Bl.out.trans (Below.trans (Below.refl _ _).drew (Hb9.out.mono (by have := Bl.out.size; exact this)))⟩
   | true =>
    rw [hq] at Hcall
    have Hnx := Lh (sAgree_next Hag.out (by have e : (⟨xn, xo, xc, xr, .mk x1 x2 x3 x4 x5 xks, .mk x6 x7 x8 x9 x10 xls⟩ : Sx.Course) = ⟨yn, yo, yc, yr, .mk y1 y2 y3 y4 y5 yks, .mk y6 y7 y8 y9 y10 yls⟩ := (Sx.courseEq_iff _ _).mp hq; rw [Hx.out, Hy.out, e]))
    clear hq
    go_wp2_with fail
    go_region_law (go_simp; go_at_call 41; refine Hcall.out.mono ?_; rintro e w9 ⟨rfl, hb9⟩; have Hb9 := Lh hb9; clear hb9)
    all_goals (try go_wp2_with fail)
    all_goals go_roundg (gk - 1)
    all_goals first
     | omega
     | exact ⟨i + 1, by go_num, by omega, Lh (Hb0.out.trans (Below.trans (Below.refl _ _).drew (Hb9.out.mono (by have := Hb0.out.size; exact this)))), Lh Hnx.out⟩
  ·obtain rfl : i = n0 := by omega
   have hall : l0 = k0 := sAgree_all Hag.out Hn0.out Hm0.out
   have hR1 := HR.out
   rw [hall] at hR1
   simp only [true_and] at hR1
   clear HR
   have HR := Lh hR1
   clear hR1 hall Hag hi hlt
   go_wp2_with fail
   go_loopg [6] n1 (fun gk v6 wr => ∃ i : Nat, v6 = .int .i64 i ∧ i + gk = n1 ∧ Hid (Below W.heap.size W wr) ∧ Hid (∀ j, j < i → l1[j]? = k1[j]?))
   case atStart => exact ⟨0, rfl, by omega, Lh Hb0.out, Lh (fun j hj => absurd hj (Nat.not_lt_zero j))⟩
   case round =>
    obtain ⟨i, rfl, hi, Hb1, Hag⟩ := hrel
    have Bl := Lh (HB0.out.trans (Hb1.out.mono HB0.out.size))
    have g0 := HE0.out.below Hb1.out HE0.out.lt
    have g1 := HE1.out.below Hb1.out HE1.out.lt
    have g6 := g0.cell 1; have h6 := g1.cell 1
    simp at g6 h6
    clear g0 g1
    by_cases hlt : i < n1
    ·obtain ⟨x, hx⟩ : ∃ x, l1[i]? = some x := ⟨_, List.getElem?_eq_getElem (by have := Hn1.out; omega)⟩
     obtain ⟨y, hy⟩ : ∃ y, k1[i]? = some y := ⟨_, List.getElem?_eq_getElem (by have := Hm1.out; omega)⟩
     have Hx := Lh hx; have Hy := Lh hy
     obtain ⟨bk, ok, csk, rfl, hSk, hrk, hck⟩ := RA1.out.at_ i _ hx
     obtain rfl := hrk.1
     have k0 := (Bl.out.cell (p := ⟨bk, _, none⟩) hSk).trans (hck 0 _ rfl)
     have k1 := (Bl.out.cell (p := ⟨bk, _, none⟩) hSk).trans (hck 1 _ rfl)
     have k2 := (Bl.out.cell (p := ⟨bk, _, none⟩) hSk).trans (hck 2 _ rfl)
     have k3 := (Bl.out.cell (p := ⟨bk, _, none⟩) hSk).trans (hck 3 _ rfl)
     simp only [Nat.add_zero, intV, strV] at k0 k1 k2 k3
     obtain ⟨bl, ol, csl, rfl, hSl, hrl, hcl⟩ := RB1.out.at_ i _ hy
     obtain rfl := hrl.1
     have l0 := (Bl.out.cell (p := ⟨bl, _, none⟩) hSl).trans (hcl 0 _ rfl)
     have l1 := (Bl.out.cell (p := ⟨bl, _, none⟩) hSl).trans (hcl 1 _ rfl)
     have l2 := (Bl.out.cell (p := ⟨bl, _, none⟩) hSl).trans (hcl 2 _ rfl)
     have l3 := (Bl.out.cell (p := ⟨bl, _, none⟩) hSl).trans (hcl 3 _ rfl)
     simp only [Nat.add_zero, intV, strV] at l0 l1 l2 l3
     have hneq := sNeqPair x y
     unfold pairV at hneq
     clear hck hcl hx hy
     cases hq : decide (x = y) with
     | false =>
      rw [hq] at hneq
      have HR2 : Hid (R = false) := Lh (by
       rw [HR.out]
       refine decide_eq_false fun e0 => ?_
       have hxy : (x : Sx.Pair) ≠ y := (fun e => by simp [e] at hq)
       have h1 := Hx.out
       rw [e0.1, Hy.out] at h1
       injection h1 with h1
       exact hxy h1.symm)
      clear hq
      go_wp2_with fail
      go_quiet (fail)
      go_wp2_with fail
      go_ret
      exact ⟨ret_bool HR2.out.symm, (by first | exact bel_drewN (bel_drewN Bl.out _) _ | exact bel_drewN Bl.out _ | exact Bl.out.drew | exact Bl.out)⟩
     | true =>
      rw [hq] at hneq
      have Hnx := Lh (sAgree_next Hag.out (by have e : (x : Sx.Pair) = y := (by simpa using hq); rw [Hx.out, Hy.out, e]))
      clear hq
      go_wp2_with fail
      go_quiet (fail)
      go_wp2_with fail
      go_roundg (gk - 1)
      all_goals first
       | omega
       | exact ⟨i + 1, by go_num, by omega, Lh (by first | exact bel_drewN (bel_drewN Hb1.out _) _ | exact bel_drewN Hb1.out _ | exact Hb1.out.drew | exact Hb1.out), Lh Hnx.out⟩
    ·obtain rfl : i = n1 := by omega
     have hall : l1 = k1 := sAgree_all Hag.out Hn1.out Hm1.out
     have hR1 := HR.out
     rw [hall] at hR1
     simp only [true_and] at hR1
     clear HR
     have HR := Lh hR1
     clear hR1 hall Hag hi hlt
     go_wp2_with fail
     go_loopg [7] n2 (fun gk v7 wr => ∃ i : Nat, v7 = .int .i64 i ∧ i + gk = n2 ∧ Hid (Below W.heap.size W wr) ∧ Hid (∀ j, j < i → l2[j]? = k2[j]?))
     case atStart => exact ⟨0, rfl, by omega, Lh Hb1.out, Lh (fun j hj => absurd hj (Nat.not_lt_zero j))⟩
     case round =>
      obtain ⟨i, rfl, hi, Hb2, Hag⟩ := hrel
      have Bl := Lh (HB0.out.trans (Hb2.out.mono HB0.out.size))
      have g0 := HE0.out.below Hb2.out HE0.out.lt
      have g1 := HE1.out.below Hb2.out HE1.out.lt
      have g6 := g0.cell 2; have h6 := g1.cell 2
      simp at g6 h6
      clear g0 g1
      by_cases hlt : i < n2
      ·obtain ⟨x, hx⟩ : ∃ x, l2[i]? = some x := ⟨_, List.getElem?_eq_getElem (by have := Hn2.out; omega)⟩
       obtain ⟨y, hy⟩ : ∃ y, k2[i]? = some y := ⟨_, List.getElem?_eq_getElem (by have := Hm2.out; omega)⟩
       have Hx := Lh hx; have Hy := Lh hy
       obtain ⟨bk, ok, csk, rfl, hSk, hrk, hck⟩ := RA2.out.at_ i _ hx
       have hrk' := ProgAt.keep (fun b hb1 => (⟨Nat.lt_of_lt_of_le hb1 Bl.out.size, fun i => Bl.out.cell (p := ⟨b, i, none⟩) hb1⟩ : Old wr b ∧ ∀ i, wr.cell? ⟨b, i, none⟩ = w.cell? ⟨b, i, none⟩)) hrk
       obtain ⟨kA, ki, rfl, -, -⟩ := hrk
       have k0 := (Bl.out.cell (p := ⟨bk, _, none⟩) hSk).trans (hck 0 _ rfl)
       have k1 := (Bl.out.cell (p := ⟨bk, _, none⟩) hSk).trans (hck 1 _ rfl)
       have k2 := (Bl.out.cell (p := ⟨bk, _, none⟩) hSk).trans (hck 2 _ rfl)
       have k3 := (Bl.out.cell (p := ⟨bk, _, none⟩) hSk).trans (hck 3 _ rfl)
       have k4 := (Bl.out.cell (p := ⟨bk, _, none⟩) hSk).trans (hck 4 _ rfl)
       have k5 := (Bl.out.cell (p := ⟨bk, _, none⟩) hSk).trans (hck 5 _ rfl)
       have k6 := (Bl.out.cell (p := ⟨bk, _, none⟩) hSk).trans (hck 6 _ rfl)
       simp only [Nat.add_zero, intV, strV] at k0 k1 k2 k3 k4 k5 k6 hrk'
       obtain ⟨bl, ol, csl, rfl, hSl, hrl, hcl⟩ := RB2.out.at_ i _ hy
       have hrl' := ProgAt.keep (fun b hb1 => (⟨Nat.lt_of_lt_of_le hb1 Bl.out.size, fun i => Bl.out.cell (p := ⟨b, i, none⟩) hb1⟩ : Old wr b ∧ ∀ i, wr.cell? ⟨b, i, none⟩ = w.cell? ⟨b, i, none⟩)) hrl
       obtain ⟨lA, li, rfl, -, -⟩ := hrl
       have l0 := (Bl.out.cell (p := ⟨bl, _, none⟩) hSl).trans (hcl 0 _ rfl)
       have l1 := (Bl.out.cell (p := ⟨bl, _, none⟩) hSl).trans (hcl 1 _ rfl)
       have l2 := (Bl.out.cell (p := ⟨bl, _, none⟩) hSl).trans (hcl 2 _ rfl)
       have l3 := (Bl.out.cell (p := ⟨bl, _, none⟩) hSl).trans (hcl 3 _ rfl)
       have l4 := (Bl.out.cell (p := ⟨bl, _, none⟩) hSl).trans (hcl 4 _ rfl)
       have l5 := (Bl.out.cell (p := ⟨bl, _, none⟩) hSl).trans (hcl 5 _ rfl)
       have l6 := (Bl.out.cell (p := ⟨bl, _, none⟩) hSl).trans (hcl 6 _ rfl)
       simp only [Nat.add_zero, intV, strV] at l0 l1 l2 l3 l4 l5 l6 hrl'
       have Hcall := Lh (rSameProg (x : Sx.Prog) (y : Sx.Prog) wr.drew _ _ (ProgAt.keep (w := wr) (w' := wr.drew) (S := Old wr) (S' := Old wr.drew) (fun b hb1 => ⟨hb1, fun _ => rfl⟩) hrk') (ProgAt.keep (w := wr) (w' := wr.drew) (S := Old wr) (S' := Old wr.drew) (fun b hb1 => ⟨hb1, fun _ => rfl⟩) hrl'))
       clear hrk' hrl' hck hcl hx hy
       cases hq : decide (x = y) with
       | false =>
        rw [hq] at Hcall
        have HR2 : Hid (R = false) := Lh (by
         rw [HR.out]
         refine decide_eq_false fun e0 => ?_
         have hxy : (x : Sx.Prog) ≠ y := (fun e => by simp [e] at hq)
         have h1 := Hx.out
         rw [e0, Hy.out] at h1
         injection h1 with h1
         exact hxy h1.symm)
        clear hq
        go_wp2_with fail
        go_region_law (go_simp; go_at_call 42; refine Hcall.out.mono ?_; rintro e w9 ⟨rfl, hb9⟩; have Hb9 := Lh hb9; clear hb9)
        all_goals (try go_wp2_with fail)
        all_goals go_ret
        all_goals exact ⟨ret_bool HR2.out.symm, Bl.out.trans (Below.trans (Below.refl _ _).drew (Hb9.out.mono (by have := Bl.out.size; exact this)))⟩
       | true =>
        rw [hq] at Hcall
        have Hnx := Lh (sAgree_next Hag.out (by have e : (x : Sx.Prog) = y := (by simpa using hq); rw [Hx.out, Hy.out, e]))
        clear hq
        go_wp2_with fail
        go_region_law (go_simp; go_at_call 42; refine Hcall.out.mono ?_; rintro e w9 ⟨rfl, hb9⟩; have Hb9 := Lh hb9; clear hb9)
        all_goals (try go_wp2_with fail)
        all_goals go_roundg (gk - 1)
        all_goals first
         | omega
         | exact ⟨i + 1, by go_num, by omega, Lh (Hb2.out.trans (Below.trans (Below.refl _ _).drew (Hb9.out.mono (by have := Hb2.out.size; exact this)))), Lh Hnx.out⟩
      ·obtain rfl : i = n2 := by omega
       have hall : l2 = k2 := sAgree_all Hag.out Hn2.out Hm2.out
       have HR2 : Hid (R = true) := Lh (by rw [HR.out, hall]; simp)
       clear hall
       go_wp2_with fail
       go_ret
       exact ⟨ret_bool HR2.out.symm, Bl.out⟩
end Go.Proofs.YtjonaidancomgaaGreatDoor

namespace Go.Proofs.YtjonaidancomgaaGreatDoor.Sx
open Lx (Tok)

def ex1 : List UInt8 := [99, 111, 117, 114, 115, 101, 32, 49, 55, 32, 77, 65, 84, 72, 49, 32, 52, 32, 123, 32, 110, 101, 101, 100, 32, 112, 97, 115, 115, 32, 80, 82, 69, 32, 53, 59, 32, 125]
def ex3 : List UInt8 := [102, 101, 101, 32, 108, 111, 119, 32, 48]
def ex4 : List UInt8 := [99, 108, 97, 115, 115, 32, 97, 32, 48, 32, 109, 101, 97, 110, 32, 49, 51, 47, 49, 59]
def ex5 : List UInt8 := [108, 101, 97, 115, 116, 32, 50, 32, 123, 32, 119, 105, 116, 104, 32, 35, 51, 59, 32, 119, 105, 116, 104, 32, 35, 52, 59, 32, 125]
def exAll : List UInt8 := [97, 108, 108, 32, 123, 32, 125]
def exOut : List UInt8 := [99, 111, 117, 114, 115, 101, 32, 49, 55, 32, 77, 65, 84, 72, 49, 32, 52, 32, 123, 32, 110, 101, 101, 100, 32, 112, 97, 115, 115, 32, 80, 82, 69, 32, 53, 32, 59, 32, 125]
def want1 : Cat := { Cat.none with courses := [⟨[77, 65, 84, 72, 49], 17, 4, 0, .mk 5 0 [80, 82, 69] 5 0 [], .mk 2 0 [] 0 0 []⟩] }
def two1 : Rule := .mk 3 0 [] 2 0 [.mk 9 3 [] 0 0 [], .mk 9 4 [] 0 0 []]
def allR : Rule := .mk 1 0 [] 0 0 []
instance {α : Type} [DecidableEq α] : DecidableEq (Out α)
 | .ok a, .ok b => if h : a = b then isTrue (by rw [h]) else isFalse fun e => h (by injection e)
 | .bad p e, .bad q f => if h : p = q ∧ e = f then isTrue (by rw [h.1, h.2]) else isFalse fun k => h (by injection k with k1 k2; exact ⟨k1, k2⟩)
 | .ok _, .bad _ _ => isFalse fun e => by cases e
 | .bad _ _, .ok _ => isFalse fun e => by cases e
theorem ex1_ok : parse ex1 = .ok want1 := by decide +kernel
theorem ex2_ok : parse [] = .ok Cat.none := by decide +kernel
theorem ex3_bad : parse ex3 = .bad 9 100 := by decide +kernel
theorem ex4_bad : parse ex4 = .bad 18 100 := by decide +kernel
theorem ex5_ok : parseRule ex5 = .ok two1 := by decide +kernel
theorem exAll_ok : ruleOk 16 allR = true := by decide +kernel
theorem exAll_text : Lx.text (ruleT allR) = some exAll := by decide +kernel
theorem exZero_bad : ruleOk 16 Rule.zero = false := by decide +kernel
theorem want1_ok : catOk want1 = true := by decide +kernel
theorem want1_text : Lx.text (catT want1) = some exOut := by decide +kernel
end Go.Proofs.YtjonaidancomgaaGreatDoor.Sx

namespace Go.Proofs.YtjonaidancomgaaGreatDoor
open Go.RowKit

theorem sIn (n a b : Int) (w : World) : Calls Tryz.prog 119 #[.int .i64 n, .int .i64 a, .int .i64 b] w (BoolPost (Sx.inB n a b) w) := by
 by_cases h : a ≤ n
 ·go_enter Tryz.func119, Tryz.ntmps119
  go_wp2
  go_ret
  exact ⟨ret_bool (by simp [Sx.inB, h]), Below.refl _ _⟩
 ·go_enter Tryz.func119, Tryz.ntmps119
  go_wp2
  go_ret
  exact ⟨ret_bool (by simp [Sx.inB]; omega), Below.refl _ _⟩
theorem sNameB (x : List UInt8) (w : World) (hx : x.length ≤ 140737488351232) : Calls Tryz.prog 118 #[.string (Lx.bs x)] w (BoolPost (Lx.isName x) w) :=
 (lName (Lx.bs x) w (by rw [Lx.bs_size]; unfold maxLen; omega)).mono fun e w' ⟨h1, h2⟩ => by
  rw [Lx.bs_list] at h1
  subst h2
  exact ⟨h1, Below.refl _ _⟩
set_option maxRecDepth 20000 in
set_option maxHeartbeats 1000000 in
theorem sRefOk (x : List UInt8) (n : Int) (w : World) (hx : x.length ≤ 140737488351232) : Calls Tryz.prog 116 #[.string (Lx.bs x), .int .i64 n] w (BoolPost (Sx.refOk x n) w) := by
 have H1 := Lh (fun W => sIn n 0 4095 W)
 have H2 := Lh (fun W => sNameB x W hx)
 obtain ⟨R, hR⟩ : ∃ R, R = Sx.refOk x n := ⟨_, rfl⟩
 rw [← hR]
 unfold Sx.refOk at hR
 have hbs : ((Lx.bs x).toList == (⟨#[]⟩ : ByteArray).toList) = x.isEmpty := by rw [ByteArray.toList_eq, ByteArray.toList_eq, Lx.bs_list]; cases x <;> rfl
 have hbs2 : (Lx.bs x).toList.isEmpty = x.isEmpty := by rw [ByteArray.toList_eq, Lx.bs_list]
 cases q1 : Sx.inB n 0 4095 with
 | false =>
  rw [q1] at H1 hR
  have HR : Hid (R = false) := Lh (by rw [hR]; rfl)
  clear hR
  go_enter Tryz.func116, Tryz.ntmps116
  go_wp2_with fail
  refine (H1.out _).mono ?_
  rintro e w1 ⟨rfl, hb1⟩
  have HB1 := Lh hb1
  clear hb1
  go_wp2_with fail
  go_ret
  exact ⟨ret_bool HR.out.symm, HB1.out⟩
 | true =>
  rw [q1] at H1 hR
  cases q2 : x.isEmpty with
  | true =>
   rw [q2] at hbs hbs2 hR
   have HR : Hid (R = true) := Lh (by rw [hR]; rfl)
   clear hR
   go_enter Tryz.func116, Tryz.ntmps116
   go_wp2_with fail
   refine (H1.out _).mono ?_
   rintro e w1 ⟨rfl, hb1⟩
   have HB1 := Lh hb1
   clear hb1
   go_wp2_with fail
   go_ret
   exact ⟨ret_bool HR.out.symm, HB1.out⟩
  | false =>
   rw [q2] at hbs hbs2 hR
   have HR := Lh hR
   clear hR
   go_enter Tryz.func116, Tryz.ntmps116
   go_wp2_with fail
   refine (H1.out _).mono ?_
   rintro e w1 ⟨rfl, hb1⟩
   have HB1 := Lh hb1
   clear hb1
   go_wp2_with fail
   refine (H2.out _).mono ?_
   rintro e w2 ⟨rfl, hb2⟩
   have HB2 := Lh (HB1.out.trans (hb2.mono HB1.out.size))
   clear hb2
   go_wp2_with fail
   go_ret
   exact ⟨ret_bool (by rw [HR.out]; rfl), HB2.out⟩

def IntPost (z : Int) (w : World) (e : Ending) (w' : World) : Prop := e = .returned (.int .i64 z) ∧ Below w.heap.size w w'
def Sx.Ratio.chk (r : Sx.Ratio) : Bool := decide (1 ≤ r.den) && decide (r.den ≤ 1073741824) && decide (-1073741824 ≤ r.num) && decide (r.num ≤ 1073741824) && decide (Int.gcd r.num r.den = 1)
set_option maxRecDepth 20000 in
set_option maxHeartbeats 2000000 in
theorem sChk (n d : Int) (w : World) : Calls Tryz.prog 193 #[.agg #[.int .i64 n, .int .i64 d]] w (IntPost (if Sx.Ratio.chk ⟨n, d⟩ then 0 else 50) w) := by
 obtain ⟨E, hE⟩ : ∃ E : Int, E = if Sx.Ratio.chk ⟨n, d⟩ then 0 else 50 := ⟨_, rfl⟩
 rw [← hE]
 obtain ⟨R, hR⟩ : ∃ R, R = Sx.Ratio.chk ⟨n, d⟩ := ⟨_, rfl⟩
 rw [← hR] at hE
 have HE := Lh hE
 clear hE
 unfold Sx.Ratio.chk at hR
 simp only at hR
 have hb0 : Below w.heap.size w (w.alloc (.cells #[.int .i64 n, .int .i64 d] 75)) := (Below.refl _ _).alloc (Nat.le_refl _) _
 have HB0 := Lh hb0
 clear hb0
 by_cases g1 : 1 ≤ d
 case neg =>
  have HR : Hid (R = false) := Lh (by rw [hR]; simp [g1])
  have q1 : decide (d < 1) = true := decide_eq_true (by omega)
  clear hR g1
  go_enter Tryz.func193, Tryz.ntmps193
  go_wp2_with fail
  go_ret
  exact ⟨ret_int (by rw [HE.out, HR.out]; rfl), HB0.out⟩
 have q1 : decide (d < 1) = false := decide_eq_false (by omega)
 by_cases g2 : d ≤ 1073741824
 case neg =>
  have HR : Hid (R = false) := Lh (by rw [hR]; simp [g2])
  have q2 : decide (1073741824 < d) = true := decide_eq_true (by omega)
  clear hR g2 g1
  go_enter Tryz.func193, Tryz.ntmps193
  go_wp2_with fail
  go_ret
  exact ⟨ret_int (by rw [HE.out, HR.out]; rfl), HB0.out⟩
 have q2 : decide (1073741824 < d) = false := decide_eq_false (by omega)
 by_cases g3 : -1073741824 ≤ n
 case neg =>
  have HR : Hid (R = false) := Lh (by rw [hR]; simp [g3])
  have q3 : decide (n < -1073741824) = true := decide_eq_true (by omega)
  clear hR g3 g2 g1
  go_enter Tryz.func193, Tryz.ntmps193
  go_wp2_with fail
  go_ret
  exact ⟨ret_int (by rw [HE.out, HR.out]; rfl), HB0.out⟩
 have q3 : decide (n < -1073741824) = false := decide_eq_false (by omega)
 by_cases g4 : n ≤ 1073741824
 case neg =>
  have HR : Hid (R = false) := Lh (by rw [hR]; simp [g4])
  have q4 : decide (1073741824 < n) = true := decide_eq_true (by omega)
  clear hR g4 g3 g2 g1
  go_enter Tryz.func193, Tryz.ntmps193
  go_wp2_with fail
  go_ret
  exact ⟨ret_int (by rw [HE.out, HR.out]; rfl), HB0.out⟩
 have q4 : decide (1073741824 < n) = false := decide_eq_false (by omega)
 have H1 := Lh (fun W => sCommon n d g3 g4 (by omega) g2 W)
 obtain ⟨g, hg⟩ : ∃ g, g = Int.gcd n d := ⟨_, rfl⟩
 rw [← hg] at H1 hR
 cases q5 : ((g : Int) != 1) with
 | true =>
  have HR : Hid (R = false) := Lh (by rw [hR]; have : ¬ g = 1 := (by intro e; rw [e] at q5; simp at q5); simp [this])
  clear hR g4 g3 g2 g1 hg
  go_enter Tryz.func193, Tryz.ntmps193
  go_wp2_with fail
  refine (H1.out _).mono ?_
  rintro e w1 ⟨rfl, hb1⟩
  have HB1 := Lh (HB0.out.trans (hb1.mono HB0.out.size))
  clear hb1
  go_wp2_with fail
  go_ret
  exact ⟨ret_int (by rw [HE.out, HR.out]; rfl), HB1.out⟩
 | false =>
  have HR : Hid (R = true) := Lh (by rw [hR]; have h : (g : Int) = 1 := (by simpa using q5); have : g = 1 := (by omega); simp [this, g1, g2, g3, g4])
  clear hR g4 g3 g2 g1 hg
  go_enter Tryz.func193, Tryz.ntmps193
  go_wp2_with fail
  refine (H1.out _).mono ?_
  rintro e w1 ⟨rfl, hb1⟩
  have HB1 := Lh (HB0.out.trans (hb1.mono HB0.out.size))
  clear hb1
  go_wp2_with fail
  go_ret
  exact ⟨ret_int (by rw [HE.out, HR.out]; rfl), HB1.out⟩

theorem Sx.fine_chk (n d : Int) : Sx.Ratio.fine ⟨n, d⟩ = (Sx.Ratio.chk ⟨n, d⟩ && (decide (0 ≤ n) && (decide (d ≤ 1000) && decide (n ≤ 12 * d)))) := by
 unfold Sx.Ratio.fine Sx.Ratio.chk
 rw [Bool.eq_iff_iff]
 simp only [Bool.and_eq_true, decide_eq_true_eq]
 constructor
 ·rintro ⟨⟨⟨⟨h1, h2⟩, h3⟩, h4⟩, h5⟩
  refine ⟨⟨⟨⟨⟨h1, ?_⟩, ?_⟩, ?_⟩, h5⟩, h3, h2, h4⟩ <;> omega
 ·rintro ⟨⟨⟨⟨⟨h1, _⟩, _⟩, _⟩, h5⟩, h3, h2, h4⟩
  exact ⟨⟨⟨⟨h1, h2⟩, h3⟩, h4⟩, h5⟩
set_option maxRecDepth 20000 in
set_option maxHeartbeats 2000000 in
theorem sFine (n d : Int) (w : World) : Calls Tryz.prog 146 #[.agg #[.int .i64 n, .int .i64 d]] w (BoolPost (Sx.Ratio.fine ⟨n, d⟩) w) := by
 obtain ⟨R, hR⟩ : ∃ R, R = Sx.Ratio.fine ⟨n, d⟩ := ⟨_, rfl⟩
 rw [← hR]
 rw [Sx.fine_chk] at hR
 have H1 := Lh (fun W => sChk n d W)
 have hb0 : Below w.heap.size w (w.alloc (.cells #[.int .i64 n, .int .i64 d] 75)) := (Below.refl _ _).alloc (Nat.le_refl _) _
 have e0 : Blk (w.alloc (.cells #[.int .i64 n, .int .i64 d] 75)) w.heap.size 75 #[.int .i64 n, .int .i64 d] := Blk.new _ _ _
 have HB0 := Lh hb0
 have E0 := Lh e0
 clear hb0 e0
 cases g0 : Sx.Ratio.chk ⟨n, d⟩ with
 | false =>
  rw [g0] at hR H1
  have HR : Hid (R = false) := Lh (by rw [hR]; rfl)
  clear hR
  simp only [Bool.false_eq_true, if_false] at H1
  go_enter Tryz.func146, Tryz.ntmps146
  go_wp2_with fail
  refine (H1.out _).mono ?_
  rintro e w1 ⟨rfl, hb1⟩
  have HB1 := Lh (HB0.out.trans (hb1.mono HB0.out.size))
  clear hb1
  go_wp2_with fail
  go_ret
  exact ⟨ret_bool HR.out.symm, HB1.out⟩
 | true =>
 have hk := g0
 unfold Sx.Ratio.chk at hk
 simp only [Bool.and_eq_true, decide_eq_true_eq] at hk
 obtain ⟨⟨⟨⟨k1, k2⟩, k3⟩, k4⟩, -⟩ := hk
 rw [g0] at hR H1
 simp only [if_true] at H1
 rw [Bool.true_and] at hR
 by_cases g1 : 0 ≤ n
 case neg =>
  have HR : Hid (R = false) := Lh (by rw [hR]; simp [g1])
  clear hR
  go_enter Tryz.func146, Tryz.ntmps146
  go_wp2_with fail
  refine (H1.out _).mono ?_
  rintro e w1 ⟨rfl, hb1⟩
  have HB1 := Lh (HB0.out.trans (hb1.mono HB0.out.size))
  have b1 := E0.out.below hb1 E0.out.lt
  have x0 := b1.cell 0; have x1 := b1.cell 1
  simp at x0 x1
  have q1 : decide (0 ≤ n) = false := decide_eq_false (by omega)
  clear hb1 b1 g1
  go_wp2_with fail
  go_ret
  exact ⟨ret_bool HR.out.symm, HB1.out⟩
 by_cases g2 : d ≤ 1000
 case neg =>
  have HR : Hid (R = false) := Lh (by rw [hR]; simp [g2])
  clear hR
  go_enter Tryz.func146, Tryz.ntmps146
  go_wp2_with fail
  refine (H1.out _).mono ?_
  rintro e w1 ⟨rfl, hb1⟩
  have HB1 := Lh (HB0.out.trans (hb1.mono HB0.out.size))
  have b1 := E0.out.below hb1 E0.out.lt
  have x0 := b1.cell 0; have x1 := b1.cell 1
  simp at x0 x1
  have q1 : decide (0 ≤ n) = true := decide_eq_true g1
  have q2 : decide (d ≤ 1000) = false := decide_eq_false (by omega)
  clear hb1 b1 g2
  go_wp2_with fail
  go_ret
  exact ⟨ret_bool HR.out.symm, HB1.out⟩
 have HR : Hid (R = decide (n ≤ 12 * d)) := Lh (by rw [hR]; simp [g1, g2])
 have hw : IntKind.i64.wrap (12 * d) = 12 * d := IntWalk.i64_in _ (by omega)
 clear hR
 go_enter Tryz.func146, Tryz.ntmps146
 go_wp2_with fail
 refine (H1.out _).mono ?_
 rintro e w1 ⟨rfl, hb1⟩
 have HB1 := Lh (HB0.out.trans (hb1.mono HB0.out.size))
 have b1 := E0.out.below hb1 E0.out.lt
 have x0 := b1.cell 0; have x1 := b1.cell 1
 simp at x0 x1
 have q1 : decide (0 ≤ n) = true := decide_eq_true g1
 have q2 : decide (d ≤ 1000) = true := decide_eq_true g2
 clear hb1 b1
 go_wp2_with fail
 go_ret
 exact ⟨ret_bool HR.out.symm, HB1.out⟩
end Go.Proofs.YtjonaidancomgaaGreatDoor
