/- Parts of the proof, joined into one text: SxIns. -/
import Derived.Test.YtjonaidancomgaaGreatDoorZSxSan
import Derived.Test.YtjonaidancomgaaGreatDoorZSxPut
import Derived.Deep.RegionHeldLaw

namespace Go.Proofs.YtjonaidancomgaaGreatDoor
open Go.RowKit

theorem cat_any7 {w : World} {S : Nat → Prop} {x : Sx.Cat} {cs : List Value} (h : CatAt w S x cs) : ∃ a0 m0 ae0 a1 m1 ae1 a2 m2 ae2 a3 m3 ae3 a4 m4 ae4 a5 m5 ae5 a6 m6 ae6, cs = [.slice a0 m0 ae0, .slice a1 m1 ae1, .slice a2 m2 ae2, .slice a3 m3 ae3, .slice a4 m4 ae4, .slice a5 m5 ae5, .slice a6 m6 ae6] := by
  obtain ⟨A0, c0, A1, c1, A2, c2, A3, c3, A4, c4, A5, c5, A6, c6, rfl, _⟩ := h
  exact ⟨_, _, _, _, _, _, _, _, _, _, _, _, _, _, _, _, _, _, _, _, _, rfl⟩
theorem sParse_any (s : ByteArray) (N : Nat) (w : World) (he : EnvS N w) (hs : s.size ≤ 100000) :
    Calls Tryz.prog 12 #[.string s] w fun e w' => ∃ D0 n0 De0 D1 n1 De1 D2 n2 De2 D3 n3 De3 D4 n4 De4 D5 n5 De5 D6 n6 De6 p2 x2, e = .returned (.tuple #[.agg #[.slice D0 n0 De0, .slice D1 n1 De1, .slice D2 n2 De2, .slice D3 n3 De3, .slice D4 n4 De4, .slice D5 n5 De5, .slice D6 n6 De6], .int .i64 p2, .int .i64 x2]) ∧ Below w.heap.size w w' := by
  cases h : Sx.parse s.data.toList with
  | ok q =>
    refine (sParse_ok s N q h w he hs).mono fun e w' ⟨v, h1, h2, h3⟩ => ?_
    obtain ⟨a0, m0, ae0, a1, m1, ae1, a2, m2, ae2, a3, m3, ae3, a4, m4, ae4, a5, m5, ae5, a6, m6, ae6, rfl⟩ := cat_any7 h2
    exact ⟨_, _, _, _, _, _, _, _, _, _, _, _, _, _, _, _, _, _, _, _, _, 0, 0, h1, h3⟩
  | bad p x => exact (sParse_bad s N p x h w he hs).mono fun e w' ⟨h1, h2⟩ => ⟨none, 0, 0, none, 0, 0, none, 0, 0, none, 0, 0, none, 0, 0, none, 0, 0, none, 0, 0, p, x, h1, h2⟩
theorem Sx.parseRule_code {src : List UInt8} {p x : Int} (h : Sx.parseRule src = .bad p x) : x = 2 ∨ x = 90 ∨ x = 100 := by
  unfold Sx.parseRule Sx.parseBy at h
  split at h
  · injection h with _ h; exact .inl h.symm
  · split at h
    · injection h with _ h; exact .inr (.inl h.symm)
    · rename_i l hl
      split at h
      · cases h
      · rename_i p' e' hp
        injection h with _ h
        subst h
        obtain ⟨a, b, k1, k2, k3, k4⟩ := (Sx.Cuts.bind (G := fun last c l => Sx.ended last c l) (Sx.cuts_rule 16 0) fun c => Sx.cuts_ended c).bad _ _ _ _ hp
        rcases k3 with h | ⟨h, _⟩
        · exact .inr (.inr h)
        · exact .inl h
theorem inside_list (s : ByteArray) : ((((⟨#[99, 111, 117, 114, 115, 101, 32, 49, 32, 65, 32, 50, 32, 123, 32, 110, 101, 101, 100, 32]⟩ : ByteArray) ++ s) ++ (⟨#[10, 59, 32, 98, 97, 114, 32]⟩ : ByteArray)) ++ s ++ (⟨#[10, 59, 32, 125]⟩ : ByteArray)).data.toList = Sx.inside s.data.toList := by
  simp [Sx.inside, Sx.pre1, Sx.mid1, Sx.end1]
theorem inside_size (s : ByteArray) (h : s.size ≤ 3000) : ((((⟨#[99, 111, 117, 114, 115, 101, 32, 49, 32, 65, 32, 50, 32, 123, 32, 110, 101, 101, 100, 32]⟩ : ByteArray) ++ s) ++ (⟨#[10, 59, 32, 98, 97, 114, 32]⟩ : ByteArray)) ++ s ++ (⟨#[10, 59, 32, 125]⟩ : ByteArray)).size ≤ 100000 := by
  have h1 := congrArg List.length (inside_list s)
  rw [Lx.ba_len] at h1
  rw [h1]
  simp [Sx.inside, Sx.pre1, Sx.mid1, Sx.end1]
  omega
set_option maxRecDepth 20000 in
set_option maxHeartbeats 4000000 in
theorem sInsideBad (N : Nat) (s : ByteArray) (p x : Int) (w : World) (he : EnvS N w) (hlen : s.size ≤ 3000) (hp : Sx.parseRule s.data.toList = .bad p x) : Calls Tryz.prog 10 #[.string s] w (TruePost w) := by
  have hx : (x != 0) = true := by rcases Sx.parseRule_code hp with rfl | rfl | rfl <;> rfl
  have HE := Lib.hid he; have HP := Lib.hid hp; have Hz := Lib.hid (inside_size s hlen)
  clear he hp
  go_enter Tryz.func10, Tryz.ntmps10
  go_wp2_with fail
  refine (sSane N w HE.out).mono ?_
  rintro e w1 ⟨rfl, b1⟩
  have B1 := Lib.hid b1; clear b1
  go_wp2_with fail
  refine (sRule_bad s N p x HP.out w1 (HE.out.next B1.out) (by omega)).mono ?_
  rintro e w2 ⟨rfl, b2⟩
  have B2 := Lib.hid (B1.out.trans (b2.mono B1.out.size)); clear b2
  go_wp2_with fail
  obtain ⟨W3, hW3⟩ : ∃ W3, W3 = w2.alloc (.cells #[.int .i64 0, .int .i64 0, .string ⟨#[]⟩, .int .i64 0, .int .i64 0, .slice none 0 0] 38) := ⟨_, rfl⟩
  rw [← hW3]
  have b3 : Below w2.heap.size w2 W3 := by rw [hW3]; exact (Below.refl _ _).alloc (Nat.le_refl _) _
  have p3 : Blk W3 w2.heap.size 38 #[.int .i64 0, .int .i64 0, .string ⟨#[]⟩, .int .i64 0, .int .i64 0, .slice none 0 0] := by rw [hW3]; exact Blk.new _ _ _
  have B3 := Lib.hid (B2.out.trans (b3.mono B2.out.size)); have P3 := Lib.hid p3
  clear b3 hW3 p3
  refine (sParse_any _ N W3 (HE.out.next B3.out) Hz.out).mono ?_
  rintro e w4 ⟨D0, n0, De0, D1, n1, De1, D2, n2, De2, D3, n3, De3, D4, n4, De4, D5, n5, De5, D6, n6, De6, p2, x2, rfl, b4⟩
  have B4 := Lib.hid (B3.out.trans (b4.mono B3.out.size))
  have p4 := P3.out.below b4 P3.out.lt
  have x0 := p4.cell 0; have x1 := p4.cell 1; have x2' := p4.cell 2; have x3 := p4.cell 3; have x4 := p4.cell 4; have x5 := p4.cell 5
  simp at x0 x1 x2' x3 x4 x5
  have z4 := p4.lt
  clear b4 p4
  go_wp2_with fail
  refine (rSameRule _ Sx.Rule.zero Sx.Rule.zero (Nat.lt_succ_self _) _ [.int .i64 0, .int .i64 0, .string ⟨#[]⟩, .int .i64 0, .int .i64 0, .slice none 0 0] [.int .i64 0, .int .i64 0, .string ⟨#[]⟩, .int .i64 0, .int .i64 0, .slice none 0 0] (rule_leaf _ _ 0 0 [] 0 0 (by simp)) (rule_leaf _ _ 0 0 [] 0 0 (by simp))).mono ?_
  rintro e w6 ⟨rfl, b6⟩
  rw [(Sx.ruleEq_iff Sx.Rule.zero Sx.Rule.zero).2 rfl]
  have B6 : Hid (Below w.heap.size w w6) := Lib.hid (Below.trans (B4.out.alloc B4.out.size _) (b6.mono (by have := B4.out.size; simp; omega)))
  clear b6
  go_wp2_with fail
  go_ret
  exact ⟨ret_bool rfl, B6.out⟩
set_option maxRecDepth 20000 in
set_option maxHeartbeats 8000000 in
theorem sInsideOk (N : Nat) (s : ByteArray) (r : Sx.Rule) (w : World) (he : EnvS N w) (hlen : s.size ≤ 3000) (hp : Sx.parseRule s.data.toList = .ok r) : Calls Tryz.prog 10 #[.string s] w (TruePost w) := by
  have hq := Sx.parse_inside hp (by rw [Lx.ba_len]; omega)
  rw [← inside_list] at hq
  have HE := Lib.hid he; have HP := Lib.hid hp; have Hz := Lib.hid (inside_size s hlen); have HQ := Lib.hid hq
  clear he hp hq
  go_enter Tryz.func10, Tryz.ntmps10
  go_wp2_with fail
  refine (sSane N w HE.out).mono ?_
  rintro e w1 ⟨rfl, b1⟩
  have B1 := Lib.hid b1; clear b1
  go_wp2_with fail
  refine (sRule_ok s N r HP.out w1 (HE.out.next B1.out) (by omega)).mono ?_
  rintro e w2 ⟨cr, rfl, hr, b2⟩
  have B2 := Lib.hid (B1.out.trans (b2.mono B1.out.size)); clear b2
  have Hr0 := hr
  obtain ⟨i0, i1, i2, i3, i4, iA, iN, iC, rfl⟩ := form_rule hr
  go_wp2_with fail
  obtain ⟨W3, hW3⟩ : ∃ W3, W3 = w2.alloc (.cells #[.int .i64 i0, .int .i64 i1, .string i2, .int .i64 i3, .int .i64 i4, .slice iA iN iC] 38) := ⟨_, rfl⟩
  rw [← hW3]
  have b3 : Below w2.heap.size w2 W3 := by rw [hW3]; exact (Below.refl _ _).alloc (Nat.le_refl _) _
  have p3 : Blk W3 w2.heap.size 38 #[.int .i64 i0, .int .i64 i1, .string i2, .int .i64 i3, .int .i64 i4, .slice iA iN iC] := by rw [hW3]; exact Blk.new _ _ _
  have B3 := Lib.hid (B2.out.trans (b3.mono B2.out.size)); have P3 := Lib.hid p3; have R3 := Lib.hid (Hr0.old b3)
  clear b3 hW3 p3 hr Hr0
  refine (sParse_ok _ N _ HQ.out W3 (HE.out.next B3.out) Hz.out).mono ?_
  rintro e w4 ⟨cc, rfl, hc, b4⟩
  have B4 := Lib.hid (B3.out.trans (b4.mono B3.out.size)); have P4 := Lib.hid (P3.out.below b4 P3.out.lt); have R4 := Lib.hid (R3.out.old b4)
  clear b4
  obtain ⟨A0, e0, A1, e1, A2, e2, A3, e3, A4, e4, A5, e5, A6, e6, rfl, hrow, _⟩ := hc
  obtain ⟨bk, ok, cs, rfl, hS, hP, hck⟩ := hrow.at_ 0 _ rfl
  simp only [Nat.zero_mul, Nat.add_zero] at hck
  obtain ⟨cn, cb, rfl, _, hn, hb⟩ := hP
  have Hn0 := hn; have Hb0 := hb
  obtain ⟨j0, j1, j2, j3, j4, jA, jN, jC, rfl⟩ := form_rule hn
  obtain ⟨k0, k1, k2, k3, k4, kA, kN, kC, rfl⟩ := form_rule hb
  have hbk : bk < w4.heap.size := hS
  have Hck := Lib.hid hck
  clear hck hrow hn hb hS
  simp only [List.length_cons, List.length_nil, Nat.zero_add, Sx.Cat.none]
  go_wp2_with fail
  obtain ⟨W, hW⟩ : ∃ W, W = w4.alloc (.cells #[.slice (some ⟨bk, ok, none⟩) 1 e0, .slice A1 0 e1, .slice A2 0 e2, .slice A3 0 e3, .slice A4 0 e4, .slice A5 0 e5, .slice A6 0 e6] 30) := ⟨_, rfl⟩
  have b5 : Below w4.heap.size w4 W := by rw [hW]; exact (Below.refl _ _).alloc (Nat.le_refl _) _
  have p5 : Blk W w4.heap.size 30 #[.slice (some ⟨bk, ok, none⟩) 1 e0, .slice A1 0 e1, .slice A2 0 e2, .slice A3 0 e3, .slice A4 0 e4, .slice A5 0 e5, .slice A6 0 e6] := by rw [hW]; exact Blk.new _ _ _
  have B5 := Lib.hid (B4.out.trans (b5.mono B4.out.size))
  have R5 := Lib.hid (R4.out.old b5); have N5 := Lib.hid (Hn0.old b5); have M5 := Lib.hid (Hb0.old b5)
  have q5 := P4.out.below b5 P4.out.lt
  have ck5 := CellsAt.below' Hck.out b5 hbk
  obtain ⟨pc, hpc⟩ : ∃ pc, pc = w4.heap.size := ⟨_, rfl⟩
  obtain ⟨pr, hpr⟩ : ∃ pr, pr = w2.heap.size := ⟨_, rfl⟩
  rw [← hW]
  rw [← hpc] at p5 ⊢
  rw [← hpr] at q5 ⊢
  have hbk5 : bk < W.heap.size := Nat.lt_of_lt_of_le hbk b5.size
  have Hall : Hid (∀ w' : World, Below W.heap.size W w' → w'.cell? ⟨pc, 0, none⟩ = some (.slice (some ⟨bk, ok, none⟩) 1 e0) ∧ w'.cell? ⟨pr, 0, none⟩ = some (.int .i64 i0) ∧ w'.cell? ⟨pr, 1, none⟩ = some (.int .i64 i1) ∧ w'.cell? ⟨pr, 2, none⟩ = some (.string i2) ∧ w'.cell? ⟨pr, 3, none⟩ = some (.int .i64 i3) ∧ w'.cell? ⟨pr, 4, none⟩ = some (.int .i64 i4) ∧ w'.cell? ⟨pr, 5, none⟩ = some (.slice iA iN iC) ∧ w'.cell? ⟨bk, ok + 4, none⟩ = some (.int .i64 j0) ∧ w'.cell? ⟨bk, ok + 5, none⟩ = some (.int .i64 j1) ∧ w'.cell? ⟨bk, ok + 6, none⟩ = some (.string j2) ∧ w'.cell? ⟨bk, ok + 7, none⟩ = some (.int .i64 j3) ∧ w'.cell? ⟨bk, ok + 8, none⟩ = some (.int .i64 j4) ∧ w'.cell? ⟨bk, ok + 9, none⟩ = some (.slice jA jN jC) ∧ w'.cell? ⟨bk, ok + 10, none⟩ = some (.int .i64 k0) ∧ w'.cell? ⟨bk, ok + 11, none⟩ = some (.int .i64 k1) ∧ w'.cell? ⟨bk, ok + 12, none⟩ = some (.string k2) ∧ w'.cell? ⟨bk, ok + 13, none⟩ = some (.int .i64 k3) ∧ w'.cell? ⟨bk, ok + 14, none⟩ = some (.int .i64 k4) ∧ w'.cell? ⟨bk, ok + 15, none⟩ = some (.slice kA kN kC)) := Lib.hid (fun w' hb => by
    have g0 := p5.below hb p5.lt
    have g1 := q5.below hb q5.lt
    have g2 := CellsAt.below' ck5 hb hbk5
    exact ⟨(g0.cell 0).trans rfl, (g1.cell 0).trans rfl, (g1.cell 1).trans rfl, (g1.cell 2).trans rfl, (g1.cell 3).trans rfl, (g1.cell 4).trans rfl, (g1.cell 5).trans rfl, g2 4 _ rfl, g2 5 _ rfl, g2 6 _ rfl, g2 7 _ rfl, g2 8 _ rfl, g2 9 _ rfl, g2 10 _ rfl, g2 11 _ rfl, g2 12 _ rfl, g2 13 _ rfl, g2 14 _ rfl, g2 15 _ rfl⟩)
  clear p5 q5 ck5 b5 hW hpc hpr
  go_region_held_law (fun w' : World => w'.cell? ⟨pc, 0, none⟩ = some (.slice (some ⟨bk, ok, none⟩) 1 e0) ∧ w'.cell? ⟨pr, 0, none⟩ = some (.int .i64 i0) ∧ w'.cell? ⟨pr, 1, none⟩ = some (.int .i64 i1) ∧ w'.cell? ⟨pr, 2, none⟩ = some (.string i2) ∧ w'.cell? ⟨pr, 3, none⟩ = some (.int .i64 i3) ∧ w'.cell? ⟨pr, 4, none⟩ = some (.int .i64 i4) ∧ w'.cell? ⟨pr, 5, none⟩ = some (.slice iA iN iC) ∧ w'.cell? ⟨bk, ok + 4, none⟩ = some (.int .i64 j0) ∧ w'.cell? ⟨bk, ok + 5, none⟩ = some (.int .i64 j1) ∧ w'.cell? ⟨bk, ok + 6, none⟩ = some (.string j2) ∧ w'.cell? ⟨bk, ok + 7, none⟩ = some (.int .i64 j3) ∧ w'.cell? ⟨bk, ok + 8, none⟩ = some (.int .i64 j4) ∧ w'.cell? ⟨bk, ok + 9, none⟩ = some (.slice jA jN jC) ∧ w'.cell? ⟨bk, ok + 10, none⟩ = some (.int .i64 k0) ∧ w'.cell? ⟨bk, ok + 11, none⟩ = some (.int .i64 k1) ∧ w'.cell? ⟨bk, ok + 12, none⟩ = some (.string k2) ∧ w'.cell? ⟨bk, ok + 13, none⟩ = some (.int .i64 k3) ∧ w'.cell? ⟨bk, ok + 14, none⟩ = some (.int .i64 k4) ∧ w'.cell? ⟨bk, ok + 15, none⟩ = some (.slice kA kN kC)) (first | exact Hall.out _ (Below.refl W.heap.size W).drew | go_keep) (first
    | (go_at_call 17; refine (rSameRule _ r r (Nat.lt_succ_self _) _ _ _ (M5.out.old HB6.out) (R5.out.old HB6.out)).mono ?_; rw [(Sx.ruleEq_iff r r).2 rfl]; rintro e w7 ⟨rfl, hb7⟩; have hc7 := HB6.out.trans (hb7.mono HB6.out.size); obtain ⟨r0, r1, r2, r3, r4, r5, r6, r7, r8, r9, r10, r11, r12, r13, r14, r15, r16, r17, r18⟩ := Hall.out w7 hc7; have HB7 := Lib.hid hc7; clear hb7 hc7)
    | (go_at_call 17; refine (rSameRule _ r r (Nat.lt_succ_self _) _ _ _ (N5.out.old (Below.refl W.heap.size W).drew) (R5.out.old (Below.refl W.heap.size W).drew)).mono ?_; rw [(Sx.ruleEq_iff r r).2 rfl]; rintro e w6 ⟨rfl, hb6⟩; have hc6 := Below.trans (Below.refl W.heap.size W).drew hb6; obtain ⟨r0, r1, r2, r3, r4, r5, r6, r7, r8, r9, r10, r11, r12, r13, r14, r15, r16, r17, r18⟩ := Hall.out w6 hc6; have HB6 := Lib.hid hc6; clear hb6 hc6))
  all_goals (try go_wp2_with fail)
  all_goals go_ret
  all_goals exact ⟨ret_bool rfl, B5.out.trans (HB7.out.mono B5.out.size)⟩
theorem sInside (N : Nat) (s : ByteArray) (w : World) (he : EnvS N w) : Calls Tryz.prog 10 #[.string s] w (TruePost w) := by
  by_cases hlen : 3000 < s.size
  · have HE := Lib.hid he
    clear he
    go_enter Tryz.func10, Tryz.ntmps10
    go_wp2_with fail
    refine (sSane N w HE.out).mono ?_
    rintro e w1 ⟨rfl, b1⟩
    have B1 := Lib.hid b1; clear b1
    go_wp2_with fail
    go_ret
    exact ⟨rfl, B1.out⟩
  cases hp : Sx.parseRule s.data.toList with
  | ok r => exact sInsideOk N s r w he (by omega) hp
  | bad p x => exact sInsideBad N s p x w he (by omega) hp
end Go.Proofs.YtjonaidancomgaaGreatDoor
