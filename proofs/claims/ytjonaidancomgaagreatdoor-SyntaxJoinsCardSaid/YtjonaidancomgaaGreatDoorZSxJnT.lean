/- Parts of the proof, joined into one text: SxJnT. -/
import Derived.Test.YtjonaidancomgaaGreatDoorZSxJn

namespace Go.Proofs.YtjonaidancomgaaGreatDoor
open Go.RowKit

theorem sParse_any2 (s : ByteArray) (N : Nat) (w : World) (he : EnvS N w) (hs : s.size ≤ 100000) :
    Calls Tryz.prog 12 #[.string s] w fun e w' => ∃ d0 dn0 dc0 d1 dn1 dc1 d2 dn2 dc2 d3 dn3 dc3 d4 dn4 dc4 d5 dn5 dc5 d6 dn6 dc6 p2 x2, e = .returned (.tuple #[.agg #[.slice d0 dn0 dc0, .slice d1 dn1 dc1, .slice d2 dn2 dc2, .slice d3 dn3 dc3, .slice d4 dn4 dc4, .slice d5 dn5 dc5, .slice d6 dn6 dc6], .int .i64 p2, .int .i64 x2]) ∧ Below w.heap.size w w' := by
  cases h : Sx.parse s.data.toList with
  | ok q =>
    refine (sParse_ok s N q h w he hs).mono fun e w' ⟨v, h1, h2, h3⟩ => ?_
    obtain ⟨a0, an0, ac0, a1, an1, ac1, a2, an2, ac2, a3, an3, ac3, a4, an4, ac4, a5, an5, ac5, a6, an6, ac6, rfl⟩ := cat_any0 h2
    exact ⟨_, _, _, _, _, _, _, _, _, _, _, _, _, _, _, _, _, _, _, _, _, 0, 0, h1, h3⟩
  | bad p x => exact (sParse_bad s N p x h w he hs).mono fun e w' ⟨h1, h2⟩ => ⟨none, 0, 0, none, 0, 0, none, 0, 0, none, 0, 0, none, 0, 0, none, 0, 0, none, 0, 0, p, x, h1, h2⟩
set_option maxRecDepth 20000 in
set_option maxHeartbeats 4000000 in
theorem sJoinsA (N : Nat) (a b : ByteArray) (p x : Int) (w : World) (he : EnvS N w) (hlen : a.size + b.size ≤ 3000) (hp : Sx.parse a.data.toList = .bad p x) : Calls Tryz.prog 9 #[.string a, .string b] w (TruePost w) := by
  have HE := Lib.hid he; have Hsz := Lib.hid (join_size a b hlen)
  have hw0 : IntKind.i64.wrap ((a.size : Int) + b.size) = (a.size : Int) + b.size := IntWalk.i64_in _ (by omega)
  have hq0 : decide ((3000 : Int) < (a.size : Int) + b.size) = false := decide_eq_false (by omega)
  have hx : (x != 0) = true := by have := sParse_code hp; simpa using this
  have HP := Lib.hid hp
  clear he hp
  go_enter Tryz.func9, Tryz.ntmps9
  go_wp2_with fail
  refine (sSane N w HE.out).mono ?_
  rintro e w1 ⟨rfl, b1⟩
  have B1 := Lib.hid b1; clear b1
  go_wp2_with fail
  refine (sParse_bad a N p x HP.out w1 (HE.out.next B1.out) (by omega)).mono ?_
  rintro e w2 ⟨rfl, hb⟩
  have B2 := Lib.hid (B1.out.trans (hb.mono B1.out.size)); clear hb
  go_wp2_with fail
  obtain ⟨P2, hP2⟩ : ∃ P, P = w2.alloc (.cells #[.slice none 0 0, .slice none 0 0, .slice none 0 0, .slice none 0 0, .slice none 0 0, .slice none 0 0, .slice none 0 0] 30) := ⟨_, rfl⟩
  rw [← hP2]
  have hb : Below w2.heap.size w2 P2 := by rw [hP2]; exact (Below.refl _ _).alloc (Nat.le_refl _) _
  have BP2 := Lib.hid (B2.out.trans (hb.mono B2.out.size))
  clear hb hP2
  refine (sParse_any2 b N P2 (HE.out.next BP2.out) (by omega)).mono ?_
  rintro e w3 ⟨b0, bn0, bc0, b1, bn1, bc1, b2, bn2, bc2, b3, bn3, bc3, b4, bn4, bc4, b5, bn5, bc5, b6, bn6, bc6, p3, x3, rfl, hb⟩
  have B3 := Lib.hid (BP2.out.trans (hb.mono BP2.out.size)); clear hb
  go_wp2_with fail
  obtain ⟨P3, hP3⟩ : ∃ P, P = w3.alloc (.cells #[.slice b0 bn0 bc0, .slice b1 bn1 bc1, .slice b2 bn2 bc2, .slice b3 bn3 bc3, .slice b4 bn4 bc4, .slice b5 bn5 bc5, .slice b6 bn6 bc6] 30) := ⟨_, rfl⟩
  rw [← hP3]
  have hb : Below w3.heap.size w3 P3 := by rw [hP3]; exact (Below.refl _ _).alloc (Nat.le_refl _) _
  have BP3 := Lib.hid (B3.out.trans (hb.mono B3.out.size))
  clear hb hP3
  refine (sParse_any2 _ N P3 (HE.out.next BP3.out) Hsz.out).mono ?_
  rintro e w4 ⟨z0, zn0, zc0, z1, zn1, zc1, z2, zn2, zc2, z3, zn3, zc3, z4, zn4, zc4, z5, zn5, zc5, z6, zn6, zc6, p4, x4, rfl, hb⟩
  have B4 := Lib.hid (BP3.out.trans (hb.mono BP3.out.size)); clear hb
  go_wp2_with fail
  go_ret
  exact ⟨rfl, B4.out.alloc B4.out.size _⟩
set_option maxRecDepth 20000 in
set_option maxHeartbeats 4000000 in
theorem sJoinsB (N : Nat) (a b : ByteArray) (p x : Int) (q : Sx.Cat) (w : World) (he : EnvS N w) (hlen : a.size + b.size ≤ 3000) (hx1 : Sx.parse a.data.toList = .ok q) (hp : Sx.parse b.data.toList = .bad p x) : Calls Tryz.prog 9 #[.string a, .string b] w (TruePost w) := by
  have HE := Lib.hid he; have Hsz := Lib.hid (join_size a b hlen)
  have hw0 : IntKind.i64.wrap ((a.size : Int) + b.size) = (a.size : Int) + b.size := IntWalk.i64_in _ (by omega)
  have hq0 : decide ((3000 : Int) < (a.size : Int) + b.size) = false := decide_eq_false (by omega)
  have hx : (x != 0) = true := by have := sParse_code hp; simpa using this
  have HP := Lib.hid hp; have HX := Lib.hid hx1
  clear he hp
  go_enter Tryz.func9, Tryz.ntmps9
  go_wp2_with fail
  refine (sSane N w HE.out).mono ?_
  rintro e w1 ⟨rfl, b1⟩
  have B1 := Lib.hid b1; clear b1
  go_wp2_with fail
  refine (sParse_ok _ N _ HX.out w1 (HE.out.next B1.out) (by omega)).mono ?_
  rintro e w2 ⟨cx, rfl, tx, hb⟩
  have B2 := Lib.hid (B1.out.trans (hb.mono B1.out.size)); clear hb
  obtain ⟨a0, an0, ac0, a1, an1, ac1, a2, an2, ac2, a3, an3, ac3, a4, an4, ac4, a5, an5, ac5, a6, an6, ac6, rfl⟩ := cat_any0 tx
  clear tx
  go_wp2_with fail
  obtain ⟨P2, hP2⟩ : ∃ P, P = w2.alloc (.cells #[.slice a0 an0 ac0, .slice a1 an1 ac1, .slice a2 an2 ac2, .slice a3 an3 ac3, .slice a4 an4 ac4, .slice a5 an5 ac5, .slice a6 an6 ac6] 30) := ⟨_, rfl⟩
  rw [← hP2]
  have hb : Below w2.heap.size w2 P2 := by rw [hP2]; exact (Below.refl _ _).alloc (Nat.le_refl _) _
  have BP2 := Lib.hid (B2.out.trans (hb.mono B2.out.size))
  clear hb hP2
  refine (sParse_bad b N p x HP.out P2 (HE.out.next BP2.out) (by omega)).mono ?_
  rintro e w3 ⟨rfl, hb⟩
  have B3 := Lib.hid (BP2.out.trans (hb.mono BP2.out.size)); clear hb
  go_wp2_with fail
  obtain ⟨P3, hP3⟩ : ∃ P, P = w3.alloc (.cells #[.slice none 0 0, .slice none 0 0, .slice none 0 0, .slice none 0 0, .slice none 0 0, .slice none 0 0, .slice none 0 0] 30) := ⟨_, rfl⟩
  rw [← hP3]
  have hb : Below w3.heap.size w3 P3 := by rw [hP3]; exact (Below.refl _ _).alloc (Nat.le_refl _) _
  have BP3 := Lib.hid (B3.out.trans (hb.mono B3.out.size))
  clear hb hP3
  refine (sParse_any2 _ N P3 (HE.out.next BP3.out) Hsz.out).mono ?_
  rintro e w4 ⟨z0, zn0, zc0, z1, zn1, zc1, z2, zn2, zc2, z3, zn3, zc3, z4, zn4, zc4, z5, zn5, zc5, z6, zn6, zc6, p4, x4, rfl, hb⟩
  have B4 := Lib.hid (BP3.out.trans (hb.mono BP3.out.size)); clear hb
  go_wp2_with fail
  go_ret
  exact ⟨rfl, B4.out.alloc B4.out.size _⟩
set_option maxRecDepth 20000 in
set_option maxHeartbeats 4000000 in
theorem sJoins (N : Nat) (a b : ByteArray) (w : World) (he : EnvS N w) (ha : a.size ≤ 140737488351232) (hb : b.size ≤ 140737488351232) : Calls Tryz.prog 9 #[.string a, .string b] w (TruePost w) := by
  by_cases hlen : 3000 < a.size + b.size
  · have HE := Lib.hid he
    have hw0 : IntKind.i64.wrap ((a.size : Int) + b.size) = (a.size : Int) + b.size := IntWalk.i64_in _ (by omega)
    have hq0 : decide ((3000 : Int) < (a.size : Int) + b.size) = true := decide_eq_true (by omega)
    clear he
    go_enter Tryz.func9, Tryz.ntmps9
    go_wp2_with fail
    refine (sSane N w HE.out).mono ?_
    rintro e w1 ⟨rfl, b1⟩
    have B1 := Lib.hid b1; clear b1
    go_wp2_with fail
    go_ret
    exact ⟨rfl, B1.out⟩
  cases hx : Sx.parse a.data.toList with
  | bad p x => exact sJoinsA N a b p x w he (by omega) hx
  | ok q =>
    cases hy : Sx.parse b.data.toList with
    | bad p x => exact sJoinsB N a b p x q w he (by omega) hx hy
    | ok r => exact sJoinsOk N a b q r w he (by omega) hx hy
end Go.Proofs.YtjonaidancomgaaGreatDoor
