/- Parts of the proof, joined into one text: QySane. -/
import Derived.Test.YtjonaidancomgaaDoorZQySame
import Derived.Test.YtjonaidancomgaaDoorZQyPrint
import Derived.Test.YtjonaidancomgaaDoorZQyTop

namespace Go.Proofs.YtjonaidancomgaaDoor
open Go.RowKit

theorem QAt.later {w w' : World} {B : Nat} {v : Value} {q : Qy.Query} (h : QAt w B v q) (hb : Below B w w') (hB : B ≤ w'.heap.size) : QAt w' w'.heap.size v q := by
  obtain ⟨⟨A0, c0, A1, c1, A2, c2, A3, c3, e, h0, h1, h2, h3⟩, ht⟩ := h
  exact ⟨⟨A0, c0, A1, c1, A2, c2, A3, c3, e, (h0.below hb (Nat.le_refl _)).mono hB, (h1.below hb (Nat.le_refl _)).mono hB, (h2.below hb (Nat.le_refl _)).mono hB, (h3.below hb (Nat.le_refl _)).mono hB⟩, ht⟩
def qWant : Qy.Query := ⟨[[115], [103]], [0, 1], [⟨5, ⟨true, 0⟩, ⟨false, 17⟩, ⟨true, 1⟩, 3, 100⟩], [⟨-2, ⟨true, 1⟩, ⟨false, 5⟩⟩]⟩
def qNone : Qy.Query := ⟨[], [], [], []⟩
def qLess : Qy.Query := ⟨[[97]], [0], [], [⟨-2, ⟨true, 0⟩, ⟨false, 3⟩⟩]⟩
theorem qNone_at (w : World) : QAt w w.heap.size nilQ qNone :=
  ⟨⟨none, 0, none, 0, none, 0, none, 0, rfl, Lies.nil _ _ _ _, Lies.nil _ _ _ _, Lies.nil _ _ _ _, Lies.nil _ _ _ _⟩, fun n hn => by simp [qNone] at hn⟩
set_option maxRecDepth 100000 in
theorem parse1 : Qy.parse [115, 104, 111, 119, 32, 115, 44, 32, 103, 32, 119, 104, 101, 114, 101, 32, 103, 114, 97, 100, 101, 40, 115, 44, 32, 49, 55, 41, 32, 61, 32, 103, 32, 97, 116, 32, 51, 32, 107, 110, 111, 119, 110, 32, 49, 48, 48, 44, 32, 103, 32, 60, 32, 53, 59] = .ok qWant := by decide +kernel
theorem parse2 : Qy.parse [] = .bad 0 500 := by decide +kernel
theorem parse3 : Qy.parse [115, 104, 111, 119, 32, 97, 32, 119, 104, 101, 114, 101, 32, 97, 32, 60, 32, 51, 59] = .ok qLess := by decide +kernel
theorem parse4 : Qy.parse [115, 104, 111, 119, 32, 97, 44, 32, 97, 32, 119, 104, 101, 114, 101] = .bad 8 500 := by decide +kernel
theorem parse5 : Qy.parse [115, 104, 111, 119, 32, 103, 114, 97, 100, 101, 32, 119, 104, 101, 114, 101] = .bad 5 500 := by decide +kernel
theorem validWant : Qy.valid qWant = true := by decide +kernel
theorem validNone : Qy.valid qNone = false := by decide +kernel
theorem printWant : Qy.printR qWant = (⟨#[115, 104, 111, 119, 32, 115, 32, 44, 32, 103, 32, 119, 104, 101, 114, 101, 32, 103, 114, 97, 100, 101, 32, 40, 32, 115, 32, 44, 32, 49, 55, 32, 41, 32, 61, 32, 103, 32, 97, 116, 32, 51, 32, 107, 110, 111, 119, 110, 32, 49, 48, 48, 32, 44, 32, 103, 32, 60, 32, 53, 32, 59]⟩, 0) := by
  have h : Lx.text (Qy.toksT qWant) = some [115, 104, 111, 119, 32, 115, 32, 44, 32, 103, 32, 119, 104, 101, 114, 101, 32, 103, 114, 97, 100, 101, 32, 40, 32, 115, 32, 44, 32, 49, 55, 32, 41, 32, 61, 32, 103, 32, 97, 116, 32, 51, 32, 107, 110, 111, 119, 110, 32, 49, 48, 48, 32, 44, 32, 103, 32, 60, 32, 53, 32, 59] := by decide +kernel
  unfold Qy.printR
  rw [validWant, h]
  rfl
theorem lies_two {w : World} {b : Nat} {t : TypeId} {x y : Value} (h : Blk w b t #[x, y]) : Lies w w.heap.size (some ⟨b, 0, none⟩) 1 [[x], [y]] :=
  ⟨fun k cs hk => ⟨b, 0, rfl, h.lt, fun j v hj => by
    rw [h.cell]
    match k, j, hk, hj with
    | 0, 0, hk, hj => simp at hk; subst hk; simpa using hj
    | 1, 0, hk, hj => simp at hk; subst hk; simpa using hj
    | 0, j + 1, hk, hj => simp at hk; subst hk; simp at hj
    | 1, j + 1, hk, hj => simp at hk; subst hk; simp at hj
    | k + 2, _, hk, _ => simp at hk⟩, by simp⟩
theorem lies_one {w : World} {b sz : Nat} {t : TypeId} {cs : List Value} (h : Blk w b t cs.toArray) : Lies w w.heap.size (some ⟨b, 0, none⟩) sz [cs] :=
  ⟨fun k c hk => ⟨b, 0, rfl, h.lt, fun j v hj => by
    rw [h.cell]
    match k, hk with
    | 0, hk => simp at hk; subst hk; simpa using hj
    | k + 1, hk => simp at hk⟩, by simp⟩
theorem lSane1 (n : Int) (w : World) : Calls Tryd.prog 10 #[.int .i64 n] w fun e w' => e = .returned (.agg #[.bool true, .int .i64 n]) ∧ w' = w.alloc (.cells #[.bool true, .int .i64 n] 40) := by
  go_enter Tryd.func10, Tryd.ntmps10
  go_wp2
  exact bodyPost_ret (v := .agg #[.bool true, .int .i64 n]) (by simp [results, Tryd.results10, go_sem]) rfl ⟨rfl, rfl⟩
def TruePost (w : World) (e : Ending) (w' : World) : Prop := e = .returned (.bool true) ∧ Below w.heap.size w w'
def wantV (N : Nat) : Value := .agg #[.slice (some ⟨N, 0, none⟩) 2 2, .slice (some ⟨N + 1, 0, none⟩) 2 2, .slice (some ⟨N + 1 + 1 + 1 + 1, 0, none⟩) 1 1, .slice (some ⟨N + 1 + 1 + 1 + 1 + 1 + 1, 0, none⟩) 1 1]
def wantW (w : World) : World := ((((((((w.alloc (.cells #[.string ⟨#[115]⟩, .string ⟨#[103]⟩] 9)).alloc (.cells #[.int .i64 0, .int .i64 1] 3)).alloc (.cells #[.bool true, .int .i64 0] 40)).alloc (.cells #[.bool true, .int .i64 1] 40)).alloc (.cells #[.int .i64 5, .bool true, .int .i64 0, .bool false, .int .i64 17, .bool true, .int .i64 1, .int .i64 3, .int .i64 100] 43)).alloc (.cells #[.bool true, .int .i64 1] 40)).alloc (.cells #[.int .i64 (-2), .bool true, .int .i64 1, .bool false, .int .i64 5] 45)).alloc (.cells #[.slice (some ⟨w.heap.size, 0, none⟩) 2 2, .slice (some ⟨w.heap.size + 1, 0, none⟩) 2 2, .slice (some ⟨w.heap.size + 1 + 1 + 1 + 1, 0, none⟩) 1 1, .slice (some ⟨w.heap.size + 1 + 1 + 1 + 1 + 1 + 1, 0, none⟩) 1 1] 27))
theorem wantW_size (w : World) : (wantW w).heap.size = w.heap.size + 8 := by simp [wantW]
theorem wantW_below (w : World) : Below w.heap.size w (wantW w) := by
  unfold wantW
  exact ((((((((Below.refl _ _).alloc (Nat.le_refl _) _).alloc (by simp) _).alloc (by simp; omega) _).alloc (by simp; omega) _).alloc (by simp; omega) _).alloc (by simp; omega) _).alloc (by simp; omega) _).alloc (by simp; omega) _
theorem wantW_box (w : World) : Blk (wantW w) (w.heap.size + 1 + 1 + 1 + 1 + 1 + 1 + 1) 27 #[.slice (some ⟨w.heap.size, 0, none⟩) 2 2, .slice (some ⟨w.heap.size + 1, 0, none⟩) 2 2, .slice (some ⟨w.heap.size + 1 + 1 + 1 + 1, 0, none⟩) 1 1, .slice (some ⟨w.heap.size + 1 + 1 + 1 + 1 + 1 + 1, 0, none⟩) 1 1] := by
  unfold wantW
  exact Blk.new_at _ _ (by simp)
theorem wantW_at (w : World) : QAt (wantW w) (wantW w).heap.size (wantV w.heap.size) qWant := by
  have r0 : Blk (wantW w) w.heap.size 9 #[.string ⟨#[115]⟩, .string ⟨#[103]⟩] := by unfold wantW; exact (((((((Blk.new_at w _ rfl).alloc _).alloc _).alloc _).alloc _).alloc _).alloc _).alloc _
  have r1 : Blk (wantW w) (w.heap.size + 1) 3 #[.int .i64 0, .int .i64 1] := by unfold wantW; exact ((((((Blk.new_at _ _ (by simp)).alloc _).alloc _).alloc _).alloc _).alloc _).alloc _
  have r2 : Blk (wantW w) (w.heap.size + 1 + 1 + 1 + 1) 43 #[.int .i64 5, .bool true, .int .i64 0, .bool false, .int .i64 17, .bool true, .int .i64 1, .int .i64 3, .int .i64 100] := by unfold wantW; exact (((Blk.new_at _ _ (by simp)).alloc _).alloc _).alloc _
  have r3 : Blk (wantW w) (w.heap.size + 1 + 1 + 1 + 1 + 1 + 1) 45 #[.int .i64 (-2), .bool true, .int .i64 1, .bool false, .int .i64 5] := by unfold wantW; exact (Blk.new_at _ _ (by simp)).alloc _
  exact ⟨⟨_, 2, _, 2, _, 1, _, 1, rfl, lies_two r0, lies_two r1, lies_one r2, lies_one r3⟩, fun n hn => by simp [qWant] at hn; rcases hn with rfl | rfl <;> simp⟩
theorem parse_ok_call (s : ByteArray) (q : Qy.Query) (hq : Qy.parse s.data.toList = .ok q) (w : World) (hs : s.size ≤ maxLen) (he : EnvQ w) :
    Calls Tryd.prog 8 #[.string s] w fun e w' => ∃ v, e = .returned (.tuple #[v, .int .i64 0, .int .i64 0]) ∧ QAt w' w'.heap.size v q ∧ Below w.heap.size w w' :=
  (lQParse s w hs he).mono fun e w' ⟨hb, h⟩ => by
    rw [hq] at h
    obtain ⟨v, h1, h2⟩ := h
    exact ⟨v, h1, h2, hb⟩
theorem parse_bad_call (s : ByteArray) (p x : Int) (hq : Qy.parse s.data.toList = .bad p x) (w : World) (hs : s.size ≤ maxLen) (he : EnvQ w) :
    Calls Tryd.prog 8 #[.string s] w fun e w' => e = .returned (.tuple #[nilQ, .int .i64 p, .int .i64 x]) ∧ Below w.heap.size w w' :=
  (lQParse s w hs he).mono fun e w' ⟨hb, h⟩ => by
    rw [hq] at h
    exact ⟨h, hb⟩

set_option maxRecDepth 20000 in
set_option maxHeartbeats 4000000 in
theorem lSaneQ (w : World) (he : EnvQ w) : Calls Tryd.prog 4 #[] w (TruePost w) := by
  have HE := Lib.hid he
  clear he
  go_enter Tryd.func4, Tryd.ntmps4
  go_wp2_with (go_at_call 10; refine (lSane1 _ _).mono ?_; rintro e w0 ⟨rfl, rfl⟩)
  change Calls _ _ _ (wantW w) _
  obtain ⟨W0, hW0⟩ : ∃ W0, W0 = wantW w := ⟨_, rfl⟩
  have b0 := wantW_below w; have x0 := wantW_box w; have z0 := wantW_size w; have t0 := wantW_at w
  rw [← hW0] at b0 x0 z0 t0 ⊢
  clear hW0
  have E0 := HE.out.next b0
  refine (parse_ok_call _ qWant parse1 W0 (by unfold maxLen; decide) E0).mono ?_
  rintro e W1 ⟨v1, rfl, t1, b1⟩
  obtain ⟨⟨A0, c0, A1, c1, A2, c2, A3, c3, hv1, hr1⟩, htx1⟩ := t1
  have hv1' : v1 = .agg #[.slice A0 2 c0, .slice A1 2 c1, .slice A2 1 c2, .slice A3 1 c3] := hv1
  subst hv1'
  have t1 : QAt W1 W1.heap.size (.agg #[.slice A0 2 c0, .slice A1 2 c1, .slice A2 1 c2, .slice A3 1 c3]) qWant := ⟨⟨A0, c0, A1, c1, A2, c2, A3, c3, rfl, hr1⟩, htx1⟩
  have z1 := b1.size
  have x1 := x0.below b1 (by omega)
  have bw1 := b0.trans (b1.mono (by omega))
  have tw1 := t0.later b1 b1.size
  have T1 := Lib.hid t1; have X1 := Lib.hid x1; have Bw1 := Lib.hid bw1; have Tw1 := Lib.hid tw1
  have q0 := x1.cell 0; have q1 := x1.cell 1; have q2 := x1.cell 2; have q3 := x1.cell 3
  simp at q0 q1 q2 q3
  clear hv1 hr1 htx1 t1 b1 x0 x1 bw1 tw1 t0 b0 E0
  have hN1 : w.heap.size + 1 + 1 + 1 + 1 + 1 + 1 + 1 < W1.heap.size := by omega
  go_wp2_with fail
  clear q0 q1 q2 q3
  obtain ⟨P1, hP1⟩ : ∃ P1, P1 = W1.alloc (.cells #[.slice A0 2 c0, .slice A1 2 c1, .slice A2 1 c2, .slice A3 1 c3] 27) := ⟨_, rfl⟩
  rw [← hP1]
  have bp : Below W1.heap.size W1 P1 := by rw [hP1]; exact (Below.refl _ _).alloc (Nat.le_refl _) _
  have y1 : Blk P1 W1.heap.size 27 #[.slice A0 2 c0, .slice A1 2 c1, .slice A2 1 c2, .slice A3 1 c3] := by rw [hP1]; exact Blk.new _ _ _
  have zp : P1.heap.size = W1.heap.size + 1 := by rw [hP1]; simp
  clear hP1
  have bw2 := Bw1.out.trans (bp.mono (by omega))
  refine (lPrint _ qWant P1 (HE.out.next bw2) (Tw1.out.later bp (by omega))).mono ?_
  rintro e W2 ⟨rfl, b2⟩
  rw [printWant]
  have z2 := b2.size
  have T2 := Lib.hid ((T1.out.later bp (by omega)).later b2 z2); have Tw2 := Lib.hid ((Tw1.out.later bp (by omega)).later b2 z2); have X2 := Lib.hid ((X1.out.below bp (by omega)).below b2 (by omega)); have Y2 := Lib.hid (y1.below b2 (by omega)); have Bw2 := Lib.hid (bw2.trans (b2.mono (by omega)))
  clear b2 y1 bp bw2 T1 Tw1 X1 Bw1
  go_wp2_with fail
  refine (parse_bad_call _ 0 500 parse2 W2 (by unfold maxLen; decide) (HE.out.next Bw2.out)).mono ?_
  rintro e W3 ⟨rfl, b3⟩
  have z3 := b3.size
  have T3 := Lib.hid (T2.out.later b3 z3); have Tw3 := Lib.hid (Tw2.out.later b3 z3); have X3 := Lib.hid (X2.out.below b3 (by omega)); have Y3 := Lib.hid (Y2.out.below b3 (by omega)); have Bw3 := Lib.hid (Bw2.out.trans (b3.mono (by omega)))
  clear b3 T2 Tw2 X2 Y2 Bw2
  unfold nilQ
  go_wp2_with fail
  obtain ⟨P3, hP3⟩ : ∃ P3, P3 = W3.alloc (.cells #[.slice none 0 0, .slice none 0 0, .slice none 0 0, .slice none 0 0] 27) := ⟨_, rfl⟩
  rw [← hP3]
  have bp : Below W3.heap.size W3 P3 := by rw [hP3]; exact (Below.refl _ _).alloc (Nat.le_refl _) _
  have zp3 : P3.heap.size = W3.heap.size + 1 := by rw [hP3]; simp
  clear hP3
  have bw3 := Bw3.out.trans (bp.mono (by omega))
  refine (parse_ok_call _ qLess parse3 P3 (by unfold maxLen; decide) (HE.out.next bw3)).mono ?_
  rintro e W4 ⟨v3, rfl, t4, b4⟩
  obtain ⟨⟨D0, e0, D1, e1, D2, e2, D3, e3, hv3, hr3⟩, htx3⟩ := t4
  have hv3' : v3 = .agg #[.slice D0 1 e0, .slice D1 1 e1, .slice D2 0 e2, .slice D3 1 e3] := hv3
  subst hv3'
  have u4 : QAt W4 W4.heap.size (.agg #[.slice D0 1 e0, .slice D1 1 e1, .slice D2 0 e2, .slice D3 1 e3]) qLess := ⟨⟨D0, e0, D1, e1, D2, e2, D3, e3, rfl, hr3⟩, htx3⟩
  have z4 := b4.size
  have T4 := Lib.hid ((T3.out.later bp (by omega)).later b4 z4); have Tw4 := Lib.hid ((Tw3.out.later bp (by omega)).later b4 z4); have X4 := Lib.hid ((X3.out.below bp (by omega)).below b4 (by omega)); have Y4 := Lib.hid ((Y3.out.below bp (by omega)).below b4 (by omega)); have Bw4 := Lib.hid (bw3.trans (b4.mono (by omega))); have U4 := Lib.hid u4
  clear b4 bp bw3 T3 Tw3 X3 Y3 Bw3 u4 hv3 hr3 htx3
  go_wp2_with fail
  obtain ⟨P4, hP4⟩ : ∃ P4, P4 = W4.alloc (.cells #[.slice D0 1 e0, .slice D1 1 e1, .slice D2 0 e2, .slice D3 1 e3] 27) := ⟨_, rfl⟩
  rw [← hP4]
  have bp : Below W4.heap.size W4 P4 := by rw [hP4]; exact (Below.refl _ _).alloc (Nat.le_refl _) _
  have zz : Blk P4 W4.heap.size 27 #[.slice D0 1 e0, .slice D1 1 e1, .slice D2 0 e2, .slice D3 1 e3] := by rw [hP4]; exact Blk.new _ _ _
  have zp4 : P4.heap.size = W4.heap.size + 1 := by rw [hP4]; simp
  clear hP4
  have bw4 := Bw4.out.trans (bp.mono (by omega))
  refine (parse_bad_call _ 8 500 parse4 P4 (by unfold maxLen; decide) (HE.out.next bw4)).mono ?_
  rintro e W5 ⟨rfl, b5⟩
  have z5 := b5.size
  have T5 := Lib.hid ((T4.out.later bp (by omega)).later b5 z5); have Tw5 := Lib.hid ((Tw4.out.later bp (by omega)).later b5 z5); have X5 := Lib.hid ((X4.out.below bp (by omega)).below b5 (by omega)); have Y5 := Lib.hid ((Y4.out.below bp (by omega)).below b5 (by omega)); have Bw5 := Lib.hid (bw4.trans (b5.mono (by omega))); have U5 := Lib.hid ((U4.out.later bp (by omega)).later b5 z5); have Z5 := Lib.hid (zz.below b5 (by omega))
  clear b5 bp bw4 zz T4 Tw4 X4 Y4 Bw4 U4
  unfold nilQ
  go_wp2_with fail
  obtain ⟨P5, hP5⟩ : ∃ P5, P5 = W5.alloc (.cells #[.slice none 0 0, .slice none 0 0, .slice none 0 0, .slice none 0 0] 27) := ⟨_, rfl⟩
  rw [← hP5]
  have bp : Below W5.heap.size W5 P5 := by rw [hP5]; exact (Below.refl _ _).alloc (Nat.le_refl _) _
  have zp5 : P5.heap.size = W5.heap.size + 1 := by rw [hP5]; simp
  clear hP5
  have bw5 := Bw5.out.trans (bp.mono (by omega))
  refine (parse_bad_call _ 5 500 parse5 P5 (by unfold maxLen; decide) (HE.out.next bw5)).mono ?_
  rintro e W6 ⟨rfl, b6⟩
  have z6 := b6.size
  have bq := bp.trans (b6.mono (by omega))
  have bq' : Below W6.heap.size W6 (W6.alloc (.cells #[.slice none 0 0, .slice none 0 0, .slice none 0 0, .slice none 0 0] 27)) := (Below.refl _ _).alloc (Nat.le_refl _) _
  obtain ⟨W7, hW7⟩ : ∃ W7, W7 = W6.alloc (.cells #[.slice none 0 0, .slice none 0 0, .slice none 0 0, .slice none 0 0] 27) := ⟨_, rfl⟩
  rw [← hW7] at bq'
  have b7 := bq.trans (bq'.mono (by omega))
  have z7 := b7.size
  have T7 := Lib.hid (T5.out.later b7 z7); have Tw7 := Lib.hid (Tw5.out.later b7 z7); have X7 := Lib.hid (X5.out.below b7 (by omega)); have Y7 := Lib.hid (Y5.out.below b7 (by omega)); have Bw7 := Lib.hid (Bw5.out.trans (b7.mono (by omega))); have U7 := Lib.hid (U5.out.later b7 z7); have Z7 := Lib.hid (Z5.out.below b7 (by omega)); have HW7 := Lib.hid hW7
  have q0 := X7.out.cell 0; have q1 := X7.out.cell 1; have q2 := X7.out.cell 2; have q3 := X7.out.cell 3
  have r0 := Y7.out.cell 0; have r1 := Y7.out.cell 1; have r2 := Y7.out.cell 2; have r3 := Y7.out.cell 3
  have s2 := Z7.out.cell 2; have s3 := Z7.out.cell 3
  rw [hW7] at q0 q1 q2 q3 r0 r1 r2 r3 s2 s3
  simp at q0 q1 q2 q3 r0 r1 r2 r3 s2 s3
  clear b6 bp bq bq' b7 bw5 hW7 T5 Tw5 X5 Y5 Bw5 U5 Z5
  unfold nilQ
  go_wp2_with fail
  clear q0 q1 q2 q3 r0 r1 r2 r3 s2 s3
  rw [← HW7.out]
  refine (rQSame _ _ qWant qWant W7 T7.out Tw7.out).mono ?_
  rintro e W8 ⟨rfl, b8⟩
  rw [show decide (qWant = qWant) = true by decide]
  have z8 := b8.size
  have T8 := Lib.hid (T7.out.later b8 z8); have Tw8 := Lib.hid (Tw7.out.later b8 z8); have U8 := Lib.hid (U7.out.later b8 z8); have X8 := Lib.hid (X7.out.below b8 (by omega)); have Y8 := Lib.hid (Y7.out.below b8 (by omega)); have Z8 := Lib.hid (Z7.out.below b8 (by omega)); have Bw8 := Lib.hid (Bw7.out.trans (b8.mono (by omega)))
  clear b8 T7 Tw7 U7 X7 Y7 Z7 Bw7
  have q0 := X8.out.cell 0; have q1 := X8.out.cell 1; have q2 := X8.out.cell 2; have q3 := X8.out.cell 3
  have r0 := Y8.out.cell 0; have r1 := Y8.out.cell 1; have r2 := Y8.out.cell 2; have r3 := Y8.out.cell 3
  have s0 := Z8.out.cell 0; have s1 := Z8.out.cell 1; have s2 := Z8.out.cell 2; have s3 := Z8.out.cell 3
  simp at q0 q1 q2 q3 r0 r1 r2 r3 s0 s1 s2 s3
  go_wp2_with fail
  clear q0 q1 q2 q3 r0 r1 r2 r3 s0 s1 s2 s3
  refine (lCheck _ qWant W8 (HE.out.next Bw8.out) Tw8.out).mono ?_
  rintro e W9 ⟨rfl, b9⟩
  rw [validWant, if_pos rfl]
  have z9 := b9.size
  have T9 := Lib.hid (T8.out.later b9 z9); have Tw9 := Lib.hid (Tw8.out.later b9 z9); have U9 := Lib.hid (U8.out.later b9 z9); have X9 := Lib.hid (X8.out.below b9 (by omega)); have Y9 := Lib.hid (Y8.out.below b9 (by omega)); have Z9 := Lib.hid (Z8.out.below b9 (by omega)); have Bw9 := Lib.hid (Bw8.out.trans (b9.mono (by omega)))
  clear b9 T8 Tw8 U8 X8 Y8 Z8 Bw8
  go_wp2_with fail
  refine (lCheck _ qNone W9 (HE.out.next Bw9.out) (qNone_at W9)).mono ?_
  rintro e W10 ⟨rfl, b10⟩
  rw [validNone, if_neg (by simp)]
  have z10 := b10.size
  have T10 := Lib.hid (T9.out.later b10 z10); have Tw10 := Lib.hid (Tw9.out.later b10 z10); have U10 := Lib.hid (U9.out.later b10 z10); have X10 := Lib.hid (X9.out.below b10 (by omega)); have Y10 := Lib.hid (Y9.out.below b10 (by omega)); have Z10 := Lib.hid (Z9.out.below b10 (by omega)); have Bw10 := Lib.hid (Bw9.out.trans (b10.mono (by omega)))
  clear b10 T9 Tw9 U9 X9 Y9 Z9 Bw9
  have q0 := X10.out.cell 0; have q1 := X10.out.cell 1; have q2 := X10.out.cell 2; have q3 := X10.out.cell 3
  have r0 := Y10.out.cell 0; have r1 := Y10.out.cell 1; have r2 := Y10.out.cell 2; have r3 := Y10.out.cell 3
  have s0 := Z10.out.cell 0; have s1 := Z10.out.cell 1; have s2 := Z10.out.cell 2; have s3 := Z10.out.cell 3
  simp at q0 q1 q2 q3 r0 r1 r2 r3 s0 s1 s2 s3
  go_wp2_with fail
  clear q0 q1 q2 q3 r0 r1 r2 r3 s0 s1 s2 s3
  refine (lSameQ _ _ qWant qWant W10 T10.out Tw10.out).mono ?_
  rintro e W11 ⟨rfl, b11⟩
  rw [show decide (qWant = qWant) = true by decide]
  have z11 := b11.size
  have T11 := Lib.hid (T10.out.later b11 z11); have Tw11 := Lib.hid (Tw10.out.later b11 z11); have U11 := Lib.hid (U10.out.later b11 z11); have X11 := Lib.hid (X10.out.below b11 (by omega)); have Y11 := Lib.hid (Y10.out.below b11 (by omega)); have Z11 := Lib.hid (Z10.out.below b11 (by omega)); have Bw11 := Lib.hid (Bw10.out.trans (b11.mono (by omega)))
  clear b11 T10 Tw10 U10 X10 Y10 Z10 Bw10
  have q0 := X11.out.cell 0; have q1 := X11.out.cell 1; have q2 := X11.out.cell 2; have q3 := X11.out.cell 3
  have r0 := Y11.out.cell 0; have r1 := Y11.out.cell 1; have r2 := Y11.out.cell 2; have r3 := Y11.out.cell 3
  have s0 := Z11.out.cell 0; have s1 := Z11.out.cell 1; have s2 := Z11.out.cell 2; have s3 := Z11.out.cell 3
  simp at q0 q1 q2 q3 r0 r1 r2 r3 s0 s1 s2 s3
  go_wp2_with fail
  clear q0 q1 q2 q3 r0 r1 r2 r3 s0 s1 s2 s3
  refine (lSameQ _ _ qWant qLess W11 T11.out U11.out).mono ?_
  rintro e W12 ⟨rfl, b12⟩
  rw [show decide (qWant = qLess) = false by decide]
  have Bw12 := Lib.hid (Bw11.out.trans (b12.mono (by omega)))
  clear b12 T11 Tw11 U11 X11 Y11 Z11 Bw11
  go_wp2_with fail
  go_ret
  exact ⟨rfl, Bw12.out⟩
end Go.Proofs.YtjonaidancomgaaDoor
