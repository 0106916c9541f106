/- Parts of the proof, joined into one text: SxJn. -/
import Derived.Test.YtjonaidancomgaaGreatDoorZSxSan
import Derived.Test.YtjonaidancomgaaGreatDoorZSxPut
import Derived.Test.YtjonaidancomgaaGreatDoorZSxJnM
import Derived.Deep.RegionLaw
import Derived.Deep.Cut

namespace Go.Proofs.YtjonaidancomgaaGreatDoor
open Go.RowKit

theorem cat_any0 {w : World} {S : Nat → Prop} {x : Sx.Cat} {cs : List Value} (h : CatAt w S x cs) : ∃ a0 an0 ac0 a1 an1 ac1 a2 an2 ac2 a3 an3 ac3 a4 an4 ac4 a5 an5 ac5 a6 an6 ac6, cs = [.slice a0 an0 ac0, .slice a1 an1 ac1, .slice a2 an2 ac2, .slice a3 an3 ac3, .slice a4 an4 ac4, .slice a5 an5 ac5, .slice a6 an6 ac6] := by
  obtain ⟨A0, c0, A1, c1, A2, c2, A3, c3, A4, c4, A5, c5, A6, c6, rfl, _⟩ := h
  exact ⟨_, _, _, _, _, _, _, _, _, _, _, _, _, _, _, _, _, _, _, _, _, rfl⟩
theorem join_list (a b : ByteArray) : ((a ++ (⟨#[10]⟩ : ByteArray)) ++ b).data.toList = a.data.toList ++ 10 :: b.data.toList := by simp
theorem join_size (a b : ByteArray) (h : a.size + b.size ≤ 3000) : ((a ++ (⟨#[10]⟩ : ByteArray)) ++ b).size ≤ 100000 := by
  have h1 := congrArg List.length (join_list a b)
  rw [Lx.ba_len, List.length_append, List.length_cons, Lx.ba_len, Lx.ba_len] at h1
  omega
theorem sParse_lo (s : ByteArray) (N : Nat) (c : Sx.Cat) (hq : Sx.parse s.data.toList = .ok c) (w : World) (he : EnvS N w) (hs : s.size ≤ 100000) :
    Calls Tryz.prog 12 #[.string s] w fun e w' => ∃ m0 mn0 mc0 m1 mn1 mc1 m2 mn2 mc2 m3 mn3 mc3 m4 mn4 mc4 m5 mn5 mc5 m6 mn6 mc6, e = .returned (.tuple #[.agg #[.slice m0 mn0 mc0, .slice m1 mn1 mc1, .slice m2 mn2 mc2, .slice m3 mn3 mc3, .slice m4 mn4 mc4, .slice m5 mn5 mc5, .slice m6 mn6 mc6], .int .i64 0, .int .i64 0]) ∧ CatAt w' (fun b => w.heap.size ≤ b ∧ b < w'.heap.size) c [.slice m0 mn0 mc0, .slice m1 mn1 mc1, .slice m2 mn2 mc2, .slice m3 mn3 mc3, .slice m4 mn4 mc4, .slice m5 mn5 mc5, .slice m6 mn6 mc6] ∧ Below w.heap.size w w' :=
  (sParseT s N w he hs).mono fun e w' ⟨hb, h⟩ => by
    unfold Sx.parse at hq
    rw [hq] at h
    obtain ⟨v, h1, cs, h2, h3⟩ := h
    have h4 := h3
    obtain ⟨A0, c0, A1, c1, A2, c2, A3, c3, A4, c4, A5, c5, A6, c6, rfl, _⟩ := h3
    exact ⟨_, _, _, _, _, _, _, _, _, _, _, _, _, _, _, _, _, _, _, _, _, by rw [← h2]; exact h1, h4, hb⟩
theorem sParse_code {s : List UInt8} {p x : Int} (h : Sx.parse s = .bad p x) : x ≠ 0 := by
  unfold Sx.parse Sx.parseBy at h
  split at h
  · injection h with _ h; omega
  · split at h
    · injection h with _ h; omega
    · rename_i l hl
      split at h
      · cases h
      · rename_i p' e' hp
        injection h with _ h
        subst h
        obtain ⟨a, b, k1, k2, k3, k4⟩ := Sx.cuts_all.bad _ _ _ _ hp
        rcases k3 with h | ⟨h, _⟩ <;> omega
def Sx.Cat.total (c : Sx.Cat) : Nat := c.courses.length + c.same.length + c.progs.length + c.classes.length + c.fees.length + c.honours.length + c.clauses.length
theorem Sx.define_total {last : Int} {w : List UInt8} {c x : Sx.Cat} {l r : List Lx.Tok} (h : Sx.defineR last w c l = .ok x r) : x.total = c.total + 1 := by
  unfold Sx.defineR at h
  repeat' split at h
  all_goals
    obtain ⟨y, l1, h1, h2⟩ := Sx.bind_ok h
    injection h2 with h2 _
    subst h2
    simp [Sx.Cat.total]
    omega
theorem Sx.defs_total {last : Int} : ∀ (n : Nat) (c : Sx.Cat) (l : List Lx.Tok) (x : Sx.Cat) (r : List Lx.Tok), Sx.defs last n c l = .ok x r → x.total ≤ c.total + l.length
  | 0, c, l, x, r, h => by
    rw [Sx.defs] at h
    injection h with h1 _
    subst h1; omega
  | n + 1, c, [], x, r, h => by
    simp only [Sx.defs, Sx.R.ok.injEq] at h
    rw [← h.1]; omega
  | n + 1, c, t :: l, x, r, h => by
    cases hf : Sx.defT t with
    | none => rw [Sx.defs_none hf] at h; cases h
    | some w =>
      rw [Sx.defs_some hf] at h
      obtain ⟨c1, l1, h1, h⟩ := Sx.bind_ok h
      have e1 := Sx.define_total h1
      have e2 := (Sx.cuts_define w c).shrinks h1
      have e3 := Sx.defs_total n c1 l1 x r h
      simp only [List.length_cons]
      omega
theorem Sx.parse_total {s : List UInt8} {x : Sx.Cat} (h : Sx.parse s = .ok x) : x.total ≤ s.length := by
  obtain ⟨l, _, k1, k2⟩ := Sx.parseBy_ok h
  have h1 := Sx.defs_total _ _ _ _ _ k2
  have h2 := (Lx.lex_len k1).2
  have h3 : Sx.Cat.none.total = 0 := rfl
  omega
theorem cat_rows {w : World} {S : Nat → Prop} {x : Sx.Cat} {p0 p1 p2 p3 p4 p5 p6 : Option Addr} {pn0 pc0 pn1 pc1 pn2 pc2 pn3 pc3 pn4 pc4 pn5 pc5 pn6 pc6 : Nat} (h : CatAt w S x [.slice p0 pn0 pc0, .slice p1 pn1 pc1, .slice p2 pn2 pc2, .slice p3 pn3 pc3, .slice p4 pn4 pc4, .slice p5 pn5 pc5, .slice p6 pn6 pc6]) : pn0 = x.courses.length ∧ Row w S p0 16 (CourseAt w S) x.courses ∧ pn1 = x.same.length ∧ Row w S p1 4 PairAt x.same ∧ pn2 = x.progs.length ∧ Row w S p2 7 (ProgAt w S) x.progs ∧ pn3 = x.classes.length ∧ Row w S p3 4 ClsAt x.classes ∧ pn4 = x.fees.length ∧ Row w S p4 2 FeeAt x.fees ∧ pn5 = x.honours.length ∧ Row w S p5 4 ClsAt x.honours ∧ pn6 = x.clauses.length ∧ Row w S p6 4 ClauseAt x.clauses := by
  obtain ⟨A0, c0, A1, c1, A2, c2, A3, c3, A4, c4, A5, c5, A6, c6, he, h0, h1, h2, h3, h4, h5, h6⟩ := h
  simp only [List.cons.injEq, Value.slice.injEq, and_true] at he
  obtain ⟨⟨rfl, rfl, rfl⟩, ⟨rfl, rfl, rfl⟩, ⟨rfl, rfl, rfl⟩, ⟨rfl, rfl, rfl⟩, ⟨rfl, rfl, rfl⟩, ⟨rfl, rfl, rfl⟩, rfl, rfl, rfl⟩ := he
  exact ⟨rfl, h0, rfl, h1, rfl, h2, rfl, h3, rfl, h4, rfl, h5, rfl, h6⟩
set_option maxRecDepth 20000 in
set_option maxHeartbeats 8000000 in
theorem sJoinsOk (N : Nat) (a b : ByteArray) (x y : Sx.Cat) (w : World) (he : EnvS N w) (hlen : a.size + b.size ≤ 3000) (hx : Sx.parse a.data.toList = .ok x) (hy : Sx.parse b.data.toList = .ok y) : Calls Tryz.prog 9 #[.string a, .string b] w (TruePost w) := by
  have hz := Sx.parse_join hx hy (by rw [Lx.ba_len, Lx.ba_len]; omega)
  rw [← join_list] at hz
  have htx := Sx.parse_total hx; have hty := Sx.parse_total hy
  rw [Lx.ba_len] at htx hty
  unfold Sx.Cat.total at htx hty
  have HE := Lib.hid he; have HX := Lib.hid hx; have HY := Lib.hid hy; have HZ := Lib.hid hz; have Hsz := Lib.hid (join_size a b hlen); have Htx := Lib.hid htx; have Hty := Lib.hid hty
  have hw0 : IntKind.i64.wrap ((a.size : Int) + b.size) = (a.size : Int) + b.size := IntWalk.i64_in _ (by omega)
  have hq0 : decide ((3000 : Int) < (a.size : Int) + b.size) = false := decide_eq_false (by omega)
  clear he hx hy hz htx hty
  go_enter Tryz.func9, Tryz.ntmps9
  go_wp2_with fail
  refine (sSane N w HE.out).mono ?_
  rintro e w1 ⟨rfl, b1⟩
  have B1 := Lib.hid b1; clear b1
  go_wp2_with fail
  refine (sParse_ok _ N _ HX.out w1 (HE.out.next B1.out) (by omega)).mono ?_
  rintro e w2 ⟨cx, rfl, tx, hb⟩
  have B2 := Lib.hid (B1.out.trans (hb.mono B1.out.size)); clear hb
  obtain ⟨a0, an0, ac0, a1, an1, ac1, a2, an2, ac2, a3, an3, ac3, a4, an4, ac4, a5, an5, ac5, a6, an6, ac6, rfl⟩ := cat_any0 tx
  go_wp2_with fail
  obtain ⟨P2, hP2⟩ : ∃ P, P = w2.alloc (.cells #[.slice a0 an0 ac0, .slice a1 an1 ac1, .slice a2 an2 ac2, .slice a3 an3 ac3, .slice a4 an4 ac4, .slice a5 an5 ac5, .slice a6 an6 ac6] 30) := ⟨_, rfl⟩
  rw [← hP2]
  have hb : Below w2.heap.size w2 P2 := by rw [hP2]; exact (Below.refl _ _).alloc (Nat.le_refl _) _
  have p2 : Blk P2 w2.heap.size 30 #[.slice a0 an0 ac0, .slice a1 an1 ac1, .slice a2 an2 ac2, .slice a3 an3 ac3, .slice a4 an4 ac4, .slice a5 an5 ac5, .slice a6 an6 ac6] := by rw [hP2]; exact Blk.new _ _ _
  have s2 : P2.heap.size = w2.heap.size + 1 := by rw [hP2]; simp
  have BP2 := Lib.hid (B2.out.trans (hb.mono B2.out.size)); have F2 := Lib.hid p2
  have X2 : Hid (CatAt P2 (fun b => b < w2.heap.size) x [.slice a0 an0 ac0, .slice a1 an1 ac1, .slice a2 an2 ac2, .slice a3 an3 ac3, .slice a4 an4 ac4, .slice a5 an5 ac5, .slice a6 an6 ac6]) := Lib.hid (CatAt.keep (fun b hb1 => ⟨hb1, fun i => hb.cell (p := ⟨b, i, none⟩) hb1⟩) tx)
  clear hb hP2 p2 tx
  refine (sParse_lo _ N _ HY.out P2 (HE.out.next BP2.out) (by omega)).mono ?_
  rintro e w3 ⟨b0, bn0, bc0, b1, bn1, bc1, b2, bn2, bc2, b3, bn3, bc3, b4, bn4, bc4, b5, bn5, bc5, b6, bn6, bc6, rfl, ty, hb⟩
  have hs3 := hb.size
  have B3 := Lib.hid (BP2.out.trans (hb.mono BP2.out.size)); have F3 := Lib.hid (F2.out.below hb F2.out.lt)
  have X3 : Hid (CatAt w3 (fun b => b < w2.heap.size) x [.slice a0 an0 ac0, .slice a1 an1 ac1, .slice a2 an2 ac2, .slice a3 an3 ac3, .slice a4 an4 ac4, .slice a5 an5 ac5, .slice a6 an6 ac6]) := Lib.hid (CatAt.keep (fun b hb1 => ⟨hb1, fun i => hb.cell (p := ⟨b, i, none⟩) (Nat.lt_of_lt_of_le hb1 (by omega))⟩) X2.out)
  clear hb X2 F2
  go_wp2_with fail
  obtain ⟨P3, hP3⟩ : ∃ P, P = w3.alloc (.cells #[.slice b0 bn0 bc0, .slice b1 bn1 bc1, .slice b2 bn2 bc2, .slice b3 bn3 bc3, .slice b4 bn4 bc4, .slice b5 bn5 bc5, .slice b6 bn6 bc6] 30) := ⟨_, rfl⟩
  rw [← hP3]
  have hb : Below w3.heap.size w3 P3 := by rw [hP3]; exact (Below.refl _ _).alloc (Nat.le_refl _) _
  have p3 : Blk P3 w3.heap.size 30 #[.slice b0 bn0 bc0, .slice b1 bn1 bc1, .slice b2 bn2 bc2, .slice b3 bn3 bc3, .slice b4 bn4 bc4, .slice b5 bn5 bc5, .slice b6 bn6 bc6] := by rw [hP3]; exact Blk.new _ _ _
  have s3 : P3.heap.size = w3.heap.size + 1 := by rw [hP3]; simp
  have BP3 := Lib.hid (B3.out.trans (hb.mono B3.out.size)); have F4 := Lib.hid (F3.out.below hb F3.out.lt); have G4 := Lib.hid p3
  have X4 : Hid (CatAt P3 (fun b => b < w2.heap.size) x [.slice a0 an0 ac0, .slice a1 an1 ac1, .slice a2 an2 ac2, .slice a3 an3 ac3, .slice a4 an4 ac4, .slice a5 an5 ac5, .slice a6 an6 ac6]) := Lib.hid (CatAt.keep (fun b hb1 => ⟨hb1, fun i => hb.cell (p := ⟨b, i, none⟩) (Nat.lt_of_lt_of_le hb1 (by omega))⟩) X3.out)
  have Y4 : Hid (CatAt P3 (fun b => P2.heap.size ≤ b ∧ b < w3.heap.size) y [.slice b0 bn0 bc0, .slice b1 bn1 bc1, .slice b2 bn2 bc2, .slice b3 bn3 bc3, .slice b4 bn4 bc4, .slice b5 bn5 bc5, .slice b6 bn6 bc6]) := Lib.hid (CatAt.keep (fun b hb1 => ⟨hb1, fun i => hb.cell (p := ⟨b, i, none⟩) hb1.2⟩) ty)
  clear hb hP3 p3 ty X3 F3
  refine (sParse_lo _ N _ HZ.out P3 (HE.out.next BP3.out) Hsz.out).mono ?_
  rintro e w4 ⟨z0, zn0, zc0, z1, zn1, zc1, z2, zn2, zc2, z3, zn3, zc3, z4, zn4, zc4, z5, zn5, zc5, z6, zn6, zc6, rfl, tz, hb⟩
  have hs4 := hb.size
  go_upto_region 10 with fail
  obtain ⟨W0, hW0⟩ : ∃ P, P = w4.alloc (.cells #[.slice z0 zn0 zc0, .slice z1 zn1 zc1, .slice z2 zn2 zc2, .slice z3 zn3 zc3, .slice z4 zn4 zc4, .slice z5 zn5 zc5, .slice z6 zn6 zc6] 30) := ⟨_, rfl⟩
  rw [← hW0]
  obtain ⟨pa, hpa⟩ : ∃ pa, pa = w2.heap.size := ⟨_, rfl⟩
  obtain ⟨pb, hpb⟩ : ∃ pb, pb = w3.heap.size := ⟨_, rfl⟩
  obtain ⟨pz, hpz⟩ : ∃ pz, pz = w4.heap.size := ⟨_, rfl⟩
  have hb0 : Below w4.heap.size w4 W0 := by rw [hW0]; exact (Below.refl _ _).alloc (Nat.le_refl _) _
  have s4 : W0.heap.size = w4.heap.size + 1 := by rw [hW0]; simp
  have hbb : Below P3.heap.size P3 W0 := hb.trans (hb0.mono hs4)
  have HA : Hid (Blk W0 pa 30 #[.slice a0 an0 ac0, .slice a1 an1 ac1, .slice a2 an2 ac2, .slice a3 an3 ac3, .slice a4 an4 ac4, .slice a5 an5 ac5, .slice a6 an6 ac6]) := Lib.hid (by rw [hpa]; exact F4.out.below hbb F4.out.lt)
  have HB : Hid (Blk W0 pb 30 #[.slice b0 bn0 bc0, .slice b1 bn1 bc1, .slice b2 bn2 bc2, .slice b3 bn3 bc3, .slice b4 bn4 bc4, .slice b5 bn5 bc5, .slice b6 bn6 bc6]) := Lib.hid (by rw [hpb]; exact G4.out.below hbb G4.out.lt)
  have HC : Hid (Blk W0 pz 30 #[.slice z0 zn0 zc0, .slice z1 zn1 zc1, .slice z2 zn2 zc2, .slice z3 zn3 zc3, .slice z4 zn4 zc4, .slice z5 zn5 zc5, .slice z6 zn6 zc6]) := Lib.hid (by rw [hpz, hW0]; exact Blk.new _ _ _)
  have RX : Hid (CatAt W0 (fun b => b ≠ pa ∧ b < W0.heap.size) x [.slice a0 an0 ac0, .slice a1 an1 ac1, .slice a2 an2 ac2, .slice a3 an3 ac3, .slice a4 an4 ac4, .slice a5 an5 ac5, .slice a6 an6 ac6]) := Lib.hid (CatAt.keep (fun b hb1 => ⟨⟨by have h1 : b < w2.heap.size := hb1; omega, by have h1 : b < w2.heap.size := hb1; omega⟩, fun i => hbb.cell (p := ⟨b, i, none⟩) (by have h1 : b < w2.heap.size := hb1; show b < _; omega)⟩) X4.out)
  have RY : Hid (CatAt W0 (fun b => b ≠ pa ∧ b < W0.heap.size) y [.slice b0 bn0 bc0, .slice b1 bn1 bc1, .slice b2 bn2 bc2, .slice b3 bn3 bc3, .slice b4 bn4 bc4, .slice b5 bn5 bc5, .slice b6 bn6 bc6]) := Lib.hid (CatAt.keep (fun b hb1 => ⟨⟨by have h1 := hb1.1; omega, by have h1 := hb1.2; omega⟩, fun i => hbb.cell (p := ⟨b, i, none⟩) (by have h1 := hb1.2; show b < _; omega)⟩) Y4.out)
  have RZ : Hid (CatAt W0 (fun b => b ≠ pa ∧ b < W0.heap.size) (x.app y) [.slice z0 zn0 zc0, .slice z1 zn1 zc1, .slice z2 zn2 zc2, .slice z3 zn3 zc3, .slice z4 zn4 zc4, .slice z5 zn5 zc5, .slice z6 zn6 zc6]) := Lib.hid (CatAt.keep (fun b hb1 => ⟨⟨by have h1 := hb1.1; omega, by have h1 := hb1.2; omega⟩, fun i => hb0.cell (p := ⟨b, i, none⟩) hb1.2⟩) tz)
  have HF : Hid (FrG pa W0 W0) := Lib.hid (FrG.refl _ _)
  have B4 := Lib.hid (BP3.out.trans (hbb.mono BP3.out.size))
  have hab : pa ≠ pb := by omega
  have hwa : w.heap.size ≤ pa := by have := B2.out.size; omega
  have haz : pa ≠ pz := by omega
  obtain ⟨nx0, rx0, nx1, rx1, nx2, rx2, nx3, rx3, nx4, rx4, nx5, rx5, nx6, rx6⟩ := cat_rows RX.out
  obtain ⟨ny0, ry0, ny1, ry1, ny2, ry2, ny3, ry3, ny4, ry4, ny5, ry5, ny6, ry6⟩ := cat_rows RY.out
  have RX0 := Lib.hid rx0; have RY0 := Lib.hid ry0; have NX0 := Lib.hid nx0; have NY0 := Lib.hid ny0
  have RX1 := Lib.hid rx1; have RY1 := Lib.hid ry1; have NX1 := Lib.hid nx1; have NY1 := Lib.hid ny1
  have RX2 := Lib.hid rx2; have RY2 := Lib.hid ry2; have NX2 := Lib.hid nx2; have NY2 := Lib.hid ny2
  have RX3 := Lib.hid rx3; have RY3 := Lib.hid ry3; have NX3 := Lib.hid nx3; have NY3 := Lib.hid ny3
  have RX4 := Lib.hid rx4; have RY4 := Lib.hid ry4; have NX4 := Lib.hid nx4; have NY4 := Lib.hid ny4
  have RX5 := Lib.hid rx5; have RY5 := Lib.hid ry5; have NX5 := Lib.hid nx5; have NY5 := Lib.hid ny5
  have RX6 := Lib.hid rx6; have RY6 := Lib.hid ry6; have NX6 := Lib.hid nx6; have NY6 := Lib.hid ny6
  have h3k : an0 ≤ 3000 ∧ bn0 ≤ 3000 ∧ an1 ≤ 3000 ∧ bn1 ≤ 3000 ∧ an2 ≤ 3000 ∧ bn2 ≤ 3000 ∧ an3 ≤ 3000 ∧ bn3 ≤ 3000 ∧ an4 ≤ 3000 ∧ bn4 ≤ 3000 ∧ an5 ≤ 3000 ∧ bn5 ≤ 3000 ∧ an6 ≤ 3000 ∧ bn6 ≤ 3000 := by have h1 := Htx.out; have h2 := Hty.out; refine ⟨?_, ?_, ?_, ?_, ?_, ?_, ?_, ?_, ?_, ?_, ?_, ?_, ?_, ?_⟩ <;> omega
  obtain ⟨lx0, ly0, lx1, ly1, lx2, ly2, lx3, ly3, lx4, ly4, lx5, ly5, lx6, ly6⟩ := h3k
  rw [← hpa, ← hpb, ← hpz]
  clear hb hb0 hbb hW0 F4 G4 X4 Y4 tz hpa hpb hpz s2 s3 s4 hs3 hs4
  clear nx0 rx0 ny0 ry0 nx1 rx1 ny1 ry1 nx2 rx2 ny2 ry2 nx3 rx3 ny3 ry3 nx4 rx4 ny4 ry4 nx5 rx5 ny5 ry5 nx6 rx6 ny6 ry6
  -- courses
  obtain ⟨rs, l1, p1, f1, o1, u1⟩ := RX0.out.flatG HF.out (fun _ _ h => one_course h)
  obtain ⟨qs, l2, p2, f2, o2, u2⟩ := RY0.out.flatG HF.out (fun _ _ h => one_course h)
  rw [← NX0.out] at f1 u1
  rw [← NY0.out] at f2 u2
  obtain ⟨ex1, ex2⟩ := join_ex (w := W0) (c := ac0) (d := bc0) 23 Tryz.underCourse Tryz.infoCourse rfl (by decide) (by decide) f1 u1 o1 f2 u2 o2 (by omega) (by omega)
  have Ex1 := Lib.hid ex1; have Ex2 := Lib.hid ex2; have L1 := Lib.hid l1; have L2 := Lib.hid l2; have P1 := Lib.hid p1; have P2' := Lib.hid p2
  have xa := HA.out.cell 0; have ya := HB.out.cell 0
  simp at xa ya
  have za := HA.out.lt; have zb := HB.out.lt
  clear ex1 ex2 l1 l2 p1 p2 f1 f2 o1 o2 u1 u2
  go_cut [] from 49 (fun wx => ∃ v w', JR W0 58 16 (an0 + bn0) (rs.flatten ++ qs.flatten) v w' ∧ wx = w'.setCell ⟨pa, 0, none⟩ v)
  case first =>
    go_region_law (first
      | (refine step_append_ex rfl _ _ _ rfl rfl rfl (Ex2.out _ _ HJ1.out) ?_; rintro vq Wq ⟨Aq, cq, rfl, h3, h4⟩; have HJ2 : Hid (JR W0 58 16 (an0 + bn0) (rs.flatten ++ qs.flatten) (.slice Aq (an0 + bn0) cq) Wq) := Lib.hid ⟨Aq, cq, rfl, h3, h4⟩; have xb := (HA.out.below h4 HA.out.lt).cell 0; have xf := (HA.out.below h4 HA.out.lt).free 0; have xl := (HA.out.below h4 HA.out.lt).lt; simp at xb; clear h3 h4)
      | (refine step_append_ex rfl _ _ _ rfl rfl rfl Ex1.out ?_; rintro vp Wp ⟨Ap, cp, rfl, h3, h4⟩; have HJ1 : Hid (JR W0 58 16 an0 rs.flatten (.slice Ap an0 cp) Wp) := Lib.hid ⟨Ap, cp, rfl, h3, h4⟩; have yb := (HB.out.below h4 HB.out.lt).cell 0; have yl := (HB.out.below h4 HB.out.lt).lt; simp at yb; clear h3 h4))
    all_goals (try go_wp2_with fail)
    all_goals go_meet
    all_goals exact ⟨_, _, HJ2.out, rfl⟩
  case rest =>
  obtain ⟨v, w', hJ, hwx⟩ := hcut
  clear xa ya za zb Ex1 Ex2
  rw [NX0.out, NY0.out] at hJ
  obtain ⟨g1, g2, A0, C0, rfl, g3⟩ := join_done (k := 0) hJ HA.out L1.out L2.out P1.out P2'.out (fun _ _ h => (one_course h).1) (by rw [← NX0.out, ← NY0.out]; omega)
  rw [← hwx, ← NX0.out, ← NY0.out] at g2
  rw [← hwx] at g1 g3
  have g4 := HF.out.trans g1
  have g5 := g1.blk HB.out hab.symm; have g6 := g1.blk HC.out haz.symm
  obtain ⟨W1, hWn⟩ : ∃ W, W = wc := ⟨_, rfl⟩
  rw [← hWn] at g2 g3 g4 g5 g6 ⊢
  clear HF HA HB HC g1 hJ hwx hWn L1 L2 P1 P2' rs qs
  have HF := Lib.hid g4; have HB := Lib.hid g5; have HC := Lib.hid g6; have R0 := Lib.hid g3
  have HA : Hid (Blk W1 pa 30 #[.slice A0 (an0 + bn0) C0, .slice a1 an1 ac1, .slice a2 an2 ac2, .slice a3 an3 ac3, .slice a4 an4 ac4, .slice a5 an5 ac5, .slice a6 an6 ac6]) := Lib.hid (by simpa using g2)
  clear g2 g3 g4 g5 g6
  go_upto_region 11 with fail
  -- same
  obtain ⟨rs, l1, p1, f1, o1, u1⟩ := RX1.out.flatG HF.out (fun _ _ h => one_pair h)
  obtain ⟨qs, l2, p2, f2, o2, u2⟩ := RY1.out.flatG HF.out (fun _ _ h => one_pair h)
  rw [← NX1.out] at f1 u1
  rw [← NY1.out] at f2 u2
  obtain ⟨ex1, ex2⟩ := join_ex (w := W1) (c := ac1) (d := bc1) 24 Tryz.underPair Tryz.infoPairJ rfl (by decide) (by decide) f1 u1 o1 f2 u2 o2 (by omega) (by omega)
  have Ex1 := Lib.hid ex1; have Ex2 := Lib.hid ex2; have L1 := Lib.hid l1; have L2 := Lib.hid l2; have P1 := Lib.hid p1; have P2' := Lib.hid p2
  have xa := HA.out.cell 1; have ya := HB.out.cell 1
  simp at xa ya
  have za := HA.out.lt; have zb := HB.out.lt
  clear ex1 ex2 l1 l2 p1 p2 f1 f2 o1 o2 u1 u2
  go_cut [] from 57 (fun wx => ∃ v w', JR W1 71 4 (an1 + bn1) (rs.flatten ++ qs.flatten) v w' ∧ wx = w'.setCell ⟨pa, 1, none⟩ v)
  case first =>
    go_region_law (first
      | (refine step_append_ex rfl _ _ _ rfl rfl rfl (Ex2.out _ _ HJ1.out) ?_; rintro vq Wq ⟨Aq, cq, rfl, h3, h4⟩; have HJ2 : Hid (JR W1 71 4 (an1 + bn1) (rs.flatten ++ qs.flatten) (.slice Aq (an1 + bn1) cq) Wq) := Lib.hid ⟨Aq, cq, rfl, h3, h4⟩; have xb := (HA.out.below h4 HA.out.lt).cell 1; have xf := (HA.out.below h4 HA.out.lt).free 1; have xl := (HA.out.below h4 HA.out.lt).lt; simp at xb; clear h3 h4)
      | (refine step_append_ex rfl _ _ _ rfl rfl rfl Ex1.out ?_; rintro vp Wp ⟨Ap, cp, rfl, h3, h4⟩; have HJ1 : Hid (JR W1 71 4 an1 rs.flatten (.slice Ap an1 cp) Wp) := Lib.hid ⟨Ap, cp, rfl, h3, h4⟩; have yb := (HB.out.below h4 HB.out.lt).cell 1; have yl := (HB.out.below h4 HB.out.lt).lt; simp at yb; clear h3 h4))
    all_goals (try go_wp2_with fail)
    all_goals go_meet
    all_goals exact ⟨_, _, HJ2.out, rfl⟩
  case rest =>
  obtain ⟨v, w', hJ, hwx⟩ := hcut
  clear xa ya za zb Ex1 Ex2
  rw [NX1.out, NY1.out] at hJ
  obtain ⟨g1, g2, A1, C1, rfl, g3⟩ := join_done (k := 1) hJ HA.out L1.out L2.out P1.out P2'.out (fun _ _ h => (one_pair h).1) (by rw [← NX1.out, ← NY1.out]; omega)
  rw [← hwx, ← NX1.out, ← NY1.out] at g2
  rw [← hwx] at g1 g3
  have g4 := HF.out.trans g1
  have g5 := g1.blk HB.out hab.symm; have g6 := g1.blk HC.out haz.symm
  have g70 := R0.out.keep (fun b hb => (⟨⟨hb.1, Nat.lt_of_lt_of_le hb.2 g1.bel.size⟩, fun i => g1.cell hb.2 hb.1 i⟩ : (b ≠ pa ∧ b < wc.heap.size) ∧ ∀ i, wc.cell? ⟨b, i, none⟩ = W1.cell? ⟨b, i, none⟩)) (fun _ _ _ h => h)
  obtain ⟨W2, hWn⟩ : ∃ W, W = wc := ⟨_, rfl⟩
  rw [← hWn] at g2 g3 g4 g5 g6 g70 ⊢
  clear HF HA HB HC R0 g1 hJ hwx hWn L1 L2 P1 P2' rs qs
  have HF := Lib.hid g4; have HB := Lib.hid g5; have HC := Lib.hid g6; have R1 := Lib.hid g3
  have HA : Hid (Blk W2 pa 30 #[.slice A0 (an0 + bn0) C0, .slice A1 (an1 + bn1) C1, .slice a2 an2 ac2, .slice a3 an3 ac3, .slice a4 an4 ac4, .slice a5 an5 ac5, .slice a6 an6 ac6]) := Lib.hid (by simpa using g2)
  have R0 := Lib.hid g70
  clear g2 g3 g4 g5 g6 g70
  go_upto_region 12 with fail
  -- progs
  obtain ⟨rs, l1, p1, f1, o1, u1⟩ := RX2.out.flatG HF.out (fun _ _ h => one_prog h)
  obtain ⟨qs, l2, p2, f2, o2, u2⟩ := RY2.out.flatG HF.out (fun _ _ h => one_prog h)
  rw [← NX2.out] at f1 u1
  rw [← NY2.out] at f2 u2
  obtain ⟨ex1, ex2⟩ := join_ex (w := W2) (c := ac2) (d := bc2) 25 Tryz.underProg Tryz.infoProg rfl (by decide) (by decide) f1 u1 o1 f2 u2 o2 (by omega) (by omega)
  have Ex1 := Lib.hid ex1; have Ex2 := Lib.hid ex2; have L1 := Lib.hid l1; have L2 := Lib.hid l2; have P1 := Lib.hid p1; have P2' := Lib.hid p2
  have xa := HA.out.cell 2; have ya := HB.out.cell 2
  simp at xa ya
  have za := HA.out.lt; have zb := HB.out.lt
  clear ex1 ex2 l1 l2 p1 p2 f1 f2 o1 o2 u1 u2
  go_cut [] from 65 (fun wx => ∃ v w', JR W2 78 7 (an2 + bn2) (rs.flatten ++ qs.flatten) v w' ∧ wx = w'.setCell ⟨pa, 2, none⟩ v)
  case first =>
    go_region_law (first
      | (refine step_append_ex rfl _ _ _ rfl rfl rfl (Ex2.out _ _ HJ1.out) ?_; rintro vq Wq ⟨Aq, cq, rfl, h3, h4⟩; have HJ2 : Hid (JR W2 78 7 (an2 + bn2) (rs.flatten ++ qs.flatten) (.slice Aq (an2 + bn2) cq) Wq) := Lib.hid ⟨Aq, cq, rfl, h3, h4⟩; have xb := (HA.out.below h4 HA.out.lt).cell 2; have xf := (HA.out.below h4 HA.out.lt).free 2; have xl := (HA.out.below h4 HA.out.lt).lt; simp at xb; clear h3 h4)
      | (refine step_append_ex rfl _ _ _ rfl rfl rfl Ex1.out ?_; rintro vp Wp ⟨Ap, cp, rfl, h3, h4⟩; have HJ1 : Hid (JR W2 78 7 an2 rs.flatten (.slice Ap an2 cp) Wp) := Lib.hid ⟨Ap, cp, rfl, h3, h4⟩; have yb := (HB.out.below h4 HB.out.lt).cell 2; have yl := (HB.out.below h4 HB.out.lt).lt; simp at yb; clear h3 h4))
    all_goals (try go_wp2_with fail)
    all_goals go_meet
    all_goals exact ⟨_, _, HJ2.out, rfl⟩
  case rest =>
  obtain ⟨v, w', hJ, hwx⟩ := hcut
  clear xa ya za zb Ex1 Ex2
  rw [NX2.out, NY2.out] at hJ
  obtain ⟨g1, g2, A2, C2, rfl, g3⟩ := join_done (k := 2) hJ HA.out L1.out L2.out P1.out P2'.out (fun _ _ h => (one_prog h).1) (by rw [← NX2.out, ← NY2.out]; omega)
  rw [← hwx, ← NX2.out, ← NY2.out] at g2
  rw [← hwx] at g1 g3
  have g4 := HF.out.trans g1
  have g5 := g1.blk HB.out hab.symm; have g6 := g1.blk HC.out haz.symm
  have g70 := R0.out.keep (fun b hb => (⟨⟨hb.1, Nat.lt_of_lt_of_le hb.2 g1.bel.size⟩, fun i => g1.cell hb.2 hb.1 i⟩ : (b ≠ pa ∧ b < wc.heap.size) ∧ ∀ i, wc.cell? ⟨b, i, none⟩ = W2.cell? ⟨b, i, none⟩)) (fun _ _ _ h => h)
  have g71 := R1.out.keep (fun b hb => (⟨⟨hb.1, Nat.lt_of_lt_of_le hb.2 g1.bel.size⟩, fun i => g1.cell hb.2 hb.1 i⟩ : (b ≠ pa ∧ b < wc.heap.size) ∧ ∀ i, wc.cell? ⟨b, i, none⟩ = W2.cell? ⟨b, i, none⟩)) (fun _ _ _ h => h)
  obtain ⟨W3, hWn⟩ : ∃ W, W = wc := ⟨_, rfl⟩
  rw [← hWn] at g2 g3 g4 g5 g6 g70 g71 ⊢
  clear HF HA HB HC R0 R1 g1 hJ hwx hWn L1 L2 P1 P2' rs qs
  have HF := Lib.hid g4; have HB := Lib.hid g5; have HC := Lib.hid g6; have R2 := Lib.hid g3
  have HA : Hid (Blk W3 pa 30 #[.slice A0 (an0 + bn0) C0, .slice A1 (an1 + bn1) C1, .slice A2 (an2 + bn2) C2, .slice a3 an3 ac3, .slice a4 an4 ac4, .slice a5 an5 ac5, .slice a6 an6 ac6]) := Lib.hid (by simpa using g2)
  have R0 := Lib.hid g70
  have R1 := Lib.hid g71
  clear g2 g3 g4 g5 g6 g70 g71
  go_upto_region 13 with fail
  -- classes
  obtain ⟨rs, l1, p1, f1, o1, u1⟩ := RX3.out.flatG HF.out (fun _ _ h => one_cls h)
  obtain ⟨qs, l2, p2, f2, o2, u2⟩ := RY3.out.flatG HF.out (fun _ _ h => one_cls h)
  rw [← NX3.out] at f1 u1
  rw [← NY3.out] at f2 u2
  obtain ⟨ex1, ex2⟩ := join_ex (w := W3) (c := ac3) (d := bc3) 26 Tryz.underCls Tryz.infoCls rfl (by decide) (by decide) f1 u1 o1 f2 u2 o2 (by omega) (by omega)
  have Ex1 := Lib.hid ex1; have Ex2 := Lib.hid ex2; have L1 := Lib.hid l1; have L2 := Lib.hid l2; have P1 := Lib.hid p1; have P2' := Lib.hid p2
  have xa := HA.out.cell 3; have ya := HB.out.cell 3
  simp at xa ya
  have za := HA.out.lt; have zb := HB.out.lt
  clear ex1 ex2 l1 l2 p1 p2 f1 f2 o1 o2 u1 u2
  go_cut [] from 73 (fun wx => ∃ v w', JR W3 82 4 (an3 + bn3) (rs.flatten ++ qs.flatten) v w' ∧ wx = w'.setCell ⟨pa, 3, none⟩ v)
  case first =>
    go_region_law (first
      | (refine step_append_ex rfl _ _ _ rfl rfl rfl (Ex2.out _ _ HJ1.out) ?_; rintro vq Wq ⟨Aq, cq, rfl, h3, h4⟩; have HJ2 : Hid (JR W3 82 4 (an3 + bn3) (rs.flatten ++ qs.flatten) (.slice Aq (an3 + bn3) cq) Wq) := Lib.hid ⟨Aq, cq, rfl, h3, h4⟩; have xb := (HA.out.below h4 HA.out.lt).cell 3; have xf := (HA.out.below h4 HA.out.lt).free 3; have xl := (HA.out.below h4 HA.out.lt).lt; simp at xb; clear h3 h4)
      | (refine step_append_ex rfl _ _ _ rfl rfl rfl Ex1.out ?_; rintro vp Wp ⟨Ap, cp, rfl, h3, h4⟩; have HJ1 : Hid (JR W3 82 4 an3 rs.flatten (.slice Ap an3 cp) Wp) := Lib.hid ⟨Ap, cp, rfl, h3, h4⟩; have yb := (HB.out.below h4 HB.out.lt).cell 3; have yl := (HB.out.below h4 HB.out.lt).lt; simp at yb; clear h3 h4))
    all_goals (try go_wp2_with fail)
    all_goals go_meet
    all_goals exact ⟨_, _, HJ2.out, rfl⟩
  case rest =>
  obtain ⟨v, w', hJ, hwx⟩ := hcut
  clear xa ya za zb Ex1 Ex2
  rw [NX3.out, NY3.out] at hJ
  obtain ⟨g1, g2, A3, C3, rfl, g3⟩ := join_done (k := 3) hJ HA.out L1.out L2.out P1.out P2'.out (fun _ _ h => (one_cls h).1) (by rw [← NX3.out, ← NY3.out]; omega)
  rw [← hwx, ← NX3.out, ← NY3.out] at g2
  rw [← hwx] at g1 g3
  have g4 := HF.out.trans g1
  have g5 := g1.blk HB.out hab.symm; have g6 := g1.blk HC.out haz.symm
  have g70 := R0.out.keep (fun b hb => (⟨⟨hb.1, Nat.lt_of_lt_of_le hb.2 g1.bel.size⟩, fun i => g1.cell hb.2 hb.1 i⟩ : (b ≠ pa ∧ b < wc.heap.size) ∧ ∀ i, wc.cell? ⟨b, i, none⟩ = W3.cell? ⟨b, i, none⟩)) (fun _ _ _ h => h)
  have g71 := R1.out.keep (fun b hb => (⟨⟨hb.1, Nat.lt_of_lt_of_le hb.2 g1.bel.size⟩, fun i => g1.cell hb.2 hb.1 i⟩ : (b ≠ pa ∧ b < wc.heap.size) ∧ ∀ i, wc.cell? ⟨b, i, none⟩ = W3.cell? ⟨b, i, none⟩)) (fun _ _ _ h => h)
  have g72 := R2.out.keep (fun b hb => (⟨⟨hb.1, Nat.lt_of_lt_of_le hb.2 g1.bel.size⟩, fun i => g1.cell hb.2 hb.1 i⟩ : (b ≠ pa ∧ b < wc.heap.size) ∧ ∀ i, wc.cell? ⟨b, i, none⟩ = W3.cell? ⟨b, i, none⟩)) (fun _ _ _ h => h)
  obtain ⟨W4, hWn⟩ : ∃ W, W = wc := ⟨_, rfl⟩
  rw [← hWn] at g2 g3 g4 g5 g6 g70 g71 g72 ⊢
  clear HF HA HB HC R0 R1 R2 g1 hJ hwx hWn L1 L2 P1 P2' rs qs
  have HF := Lib.hid g4; have HB := Lib.hid g5; have HC := Lib.hid g6; have R3 := Lib.hid g3
  have HA : Hid (Blk W4 pa 30 #[.slice A0 (an0 + bn0) C0, .slice A1 (an1 + bn1) C1, .slice A2 (an2 + bn2) C2, .slice A3 (an3 + bn3) C3, .slice a4 an4 ac4, .slice a5 an5 ac5, .slice a6 an6 ac6]) := Lib.hid (by simpa using g2)
  have R0 := Lib.hid g70
  have R1 := Lib.hid g71
  have R2 := Lib.hid g72
  clear g2 g3 g4 g5 g6 g70 g71 g72
  go_upto_region 14 with fail
  -- fees
  obtain ⟨rs, l1, p1, f1, o1, u1⟩ := RX4.out.flatG HF.out (fun _ _ h => one_fee h)
  obtain ⟨qs, l2, p2, f2, o2, u2⟩ := RY4.out.flatG HF.out (fun _ _ h => one_fee h)
  rw [← NX4.out] at f1 u1
  rw [← NY4.out] at f2 u2
  obtain ⟨ex1, ex2⟩ := join_ex (w := W4) (c := ac4) (d := bc4) 27 Tryz.underFee Tryz.infoFee rfl (by decide) (by decide) f1 u1 o1 f2 u2 o2 (by omega) (by omega)
  have Ex1 := Lib.hid ex1; have Ex2 := Lib.hid ex2; have L1 := Lib.hid l1; have L2 := Lib.hid l2; have P1 := Lib.hid p1; have P2' := Lib.hid p2
  have xa := HA.out.cell 4; have ya := HB.out.cell 4
  simp at xa ya
  have za := HA.out.lt; have zb := HB.out.lt
  clear ex1 ex2 l1 l2 p1 p2 f1 f2 o1 o2 u1 u2
  go_cut [] from 81 (fun wx => ∃ v w', JR W4 86 2 (an4 + bn4) (rs.flatten ++ qs.flatten) v w' ∧ wx = w'.setCell ⟨pa, 4, none⟩ v)
  case first =>
    go_region_law (first
      | (refine step_append_ex rfl _ _ _ rfl rfl rfl (Ex2.out _ _ HJ1.out) ?_; rintro vq Wq ⟨Aq, cq, rfl, h3, h4⟩; have HJ2 : Hid (JR W4 86 2 (an4 + bn4) (rs.flatten ++ qs.flatten) (.slice Aq (an4 + bn4) cq) Wq) := Lib.hid ⟨Aq, cq, rfl, h3, h4⟩; have xb := (HA.out.below h4 HA.out.lt).cell 4; have xf := (HA.out.below h4 HA.out.lt).free 4; have xl := (HA.out.below h4 HA.out.lt).lt; simp at xb; clear h3 h4)
      | (refine step_append_ex rfl _ _ _ rfl rfl rfl Ex1.out ?_; rintro vp Wp ⟨Ap, cp, rfl, h3, h4⟩; have HJ1 : Hid (JR W4 86 2 an4 rs.flatten (.slice Ap an4 cp) Wp) := Lib.hid ⟨Ap, cp, rfl, h3, h4⟩; have yb := (HB.out.below h4 HB.out.lt).cell 4; have yl := (HB.out.below h4 HB.out.lt).lt; simp at yb; clear h3 h4))
    all_goals (try go_wp2_with fail)
    all_goals go_meet
    all_goals exact ⟨_, _, HJ2.out, rfl⟩
  case rest =>
  obtain ⟨v, w', hJ, hwx⟩ := hcut
  clear xa ya za zb Ex1 Ex2
  rw [NX4.out, NY4.out] at hJ
  obtain ⟨g1, g2, A4, C4, rfl, g3⟩ := join_done (k := 4) hJ HA.out L1.out L2.out P1.out P2'.out (fun _ _ h => (one_fee h).1) (by rw [← NX4.out, ← NY4.out]; omega)
  rw [← hwx, ← NX4.out, ← NY4.out] at g2
  rw [← hwx] at g1 g3
  have g4 := HF.out.trans g1
  have g5 := g1.blk HB.out hab.symm; have g6 := g1.blk HC.out haz.symm
  have g70 := R0.out.keep (fun b hb => (⟨⟨hb.1, Nat.lt_of_lt_of_le hb.2 g1.bel.size⟩, fun i => g1.cell hb.2 hb.1 i⟩ : (b ≠ pa ∧ b < wc.heap.size) ∧ ∀ i, wc.cell? ⟨b, i, none⟩ = W4.cell? ⟨b, i, none⟩)) (fun _ _ _ h => h)
  have g71 := R1.out.keep (fun b hb => (⟨⟨hb.1, Nat.lt_of_lt_of_le hb.2 g1.bel.size⟩, fun i => g1.cell hb.2 hb.1 i⟩ : (b ≠ pa ∧ b < wc.heap.size) ∧ ∀ i, wc.cell? ⟨b, i, none⟩ = W4.cell? ⟨b, i, none⟩)) (fun _ _ _ h => h)
  have g72 := R2.out.keep (fun b hb => (⟨⟨hb.1, Nat.lt_of_lt_of_le hb.2 g1.bel.size⟩, fun i => g1.cell hb.2 hb.1 i⟩ : (b ≠ pa ∧ b < wc.heap.size) ∧ ∀ i, wc.cell? ⟨b, i, none⟩ = W4.cell? ⟨b, i, none⟩)) (fun _ _ _ h => h)
  have g73 := R3.out.keep (fun b hb => (⟨⟨hb.1, Nat.lt_of_lt_of_le hb.2 g1.bel.size⟩, fun i => g1.cell hb.2 hb.1 i⟩ : (b ≠ pa ∧ b < wc.heap.size) ∧ ∀ i, wc.cell? ⟨b, i, none⟩ = W4.cell? ⟨b, i, none⟩)) (fun _ _ _ h => h)
  obtain ⟨W5, hWn⟩ : ∃ W, W = wc := ⟨_, rfl⟩
  rw [← hWn] at g2 g3 g4 g5 g6 g70 g71 g72 g73 ⊢
  clear HF HA HB HC R0 R1 R2 R3 g1 hJ hwx hWn L1 L2 P1 P2' rs qs
  have HF := Lib.hid g4; have HB := Lib.hid g5; have HC := Lib.hid g6; have R4 := Lib.hid g3
  have HA : Hid (Blk W5 pa 30 #[.slice A0 (an0 + bn0) C0, .slice A1 (an1 + bn1) C1, .slice A2 (an2 + bn2) C2, .slice A3 (an3 + bn3) C3, .slice A4 (an4 + bn4) C4, .slice a5 an5 ac5, .slice a6 an6 ac6]) := Lib.hid (by simpa using g2)
  have R0 := Lib.hid g70
  have R1 := Lib.hid g71
  have R2 := Lib.hid g72
  have R3 := Lib.hid g73
  clear g2 g3 g4 g5 g6 g70 g71 g72 g73
  go_upto_region 15 with fail
  -- honours
  obtain ⟨rs, l1, p1, f1, o1, u1⟩ := RX5.out.flatG HF.out (fun _ _ h => one_cls h)
  obtain ⟨qs, l2, p2, f2, o2, u2⟩ := RY5.out.flatG HF.out (fun _ _ h => one_cls h)
  rw [← NX5.out] at f1 u1
  rw [← NY5.out] at f2 u2
  obtain ⟨ex1, ex2⟩ := join_ex (w := W5) (c := ac5) (d := bc5) 26 Tryz.underCls Tryz.infoCls rfl (by decide) (by decide) f1 u1 o1 f2 u2 o2 (by omega) (by omega)
  have Ex1 := Lib.hid ex1; have Ex2 := Lib.hid ex2; have L1 := Lib.hid l1; have L2 := Lib.hid l2; have P1 := Lib.hid p1; have P2' := Lib.hid p2
  have xa := HA.out.cell 5; have ya := HB.out.cell 5
  simp at xa ya
  have za := HA.out.lt; have zb := HB.out.lt
  clear ex1 ex2 l1 l2 p1 p2 f1 f2 o1 o2 u1 u2
  go_cut [] from 89 (fun wx => ∃ v w', JR W5 82 4 (an5 + bn5) (rs.flatten ++ qs.flatten) v w' ∧ wx = w'.setCell ⟨pa, 5, none⟩ v)
  case first =>
    go_region_law (first
      | (refine step_append_ex rfl _ _ _ rfl rfl rfl (Ex2.out _ _ HJ1.out) ?_; rintro vq Wq ⟨Aq, cq, rfl, h3, h4⟩; have HJ2 : Hid (JR W5 82 4 (an5 + bn5) (rs.flatten ++ qs.flatten) (.slice Aq (an5 + bn5) cq) Wq) := Lib.hid ⟨Aq, cq, rfl, h3, h4⟩; have xb := (HA.out.below h4 HA.out.lt).cell 5; have xf := (HA.out.below h4 HA.out.lt).free 5; have xl := (HA.out.below h4 HA.out.lt).lt; simp at xb; clear h3 h4)
      | (refine step_append_ex rfl _ _ _ rfl rfl rfl Ex1.out ?_; rintro vp Wp ⟨Ap, cp, rfl, h3, h4⟩; have HJ1 : Hid (JR W5 82 4 an5 rs.flatten (.slice Ap an5 cp) Wp) := Lib.hid ⟨Ap, cp, rfl, h3, h4⟩; have yb := (HB.out.below h4 HB.out.lt).cell 5; have yl := (HB.out.below h4 HB.out.lt).lt; simp at yb; clear h3 h4))
    all_goals (try go_wp2_with fail)
    all_goals go_meet
    all_goals exact ⟨_, _, HJ2.out, rfl⟩
  case rest =>
  obtain ⟨v, w', hJ, hwx⟩ := hcut
  clear xa ya za zb Ex1 Ex2
  rw [NX5.out, NY5.out] at hJ
  obtain ⟨g1, g2, A5, C5, rfl, g3⟩ := join_done (k := 5) hJ HA.out L1.out L2.out P1.out P2'.out (fun _ _ h => (one_cls h).1) (by rw [← NX5.out, ← NY5.out]; omega)
  rw [← hwx, ← NX5.out, ← NY5.out] at g2
  rw [← hwx] at g1 g3
  have g4 := HF.out.trans g1
  have g5 := g1.blk HB.out hab.symm; have g6 := g1.blk HC.out haz.symm
  have g70 := R0.out.keep (fun b hb => (⟨⟨hb.1, Nat.lt_of_lt_of_le hb.2 g1.bel.size⟩, fun i => g1.cell hb.2 hb.1 i⟩ : (b ≠ pa ∧ b < wc.heap.size) ∧ ∀ i, wc.cell? ⟨b, i, none⟩ = W5.cell? ⟨b, i, none⟩)) (fun _ _ _ h => h)
  have g71 := R1.out.keep (fun b hb => (⟨⟨hb.1, Nat.lt_of_lt_of_le hb.2 g1.bel.size⟩, fun i => g1.cell hb.2 hb.1 i⟩ : (b ≠ pa ∧ b < wc.heap.size) ∧ ∀ i, wc.cell? ⟨b, i, none⟩ = W5.cell? ⟨b, i, none⟩)) (fun _ _ _ h => h)
  have g72 := R2.out.keep (fun b hb => (⟨⟨hb.1, Nat.lt_of_lt_of_le hb.2 g1.bel.size⟩, fun i => g1.cell hb.2 hb.1 i⟩ : (b ≠ pa ∧ b < wc.heap.size) ∧ ∀ i, wc.cell? ⟨b, i, none⟩ = W5.cell? ⟨b, i, none⟩)) (fun _ _ _ h => h)
  have g73 := R3.out.keep (fun b hb => (⟨⟨hb.1, Nat.lt_of_lt_of_le hb.2 g1.bel.size⟩, fun i => g1.cell hb.2 hb.1 i⟩ : (b ≠ pa ∧ b < wc.heap.size) ∧ ∀ i, wc.cell? ⟨b, i, none⟩ = W5.cell? ⟨b, i, none⟩)) (fun _ _ _ h => h)
  have g74 := R4.out.keep (fun b hb => (⟨⟨hb.1, Nat.lt_of_lt_of_le hb.2 g1.bel.size⟩, fun i => g1.cell hb.2 hb.1 i⟩ : (b ≠ pa ∧ b < wc.heap.size) ∧ ∀ i, wc.cell? ⟨b, i, none⟩ = W5.cell? ⟨b, i, none⟩)) (fun _ _ _ h => h)
  obtain ⟨W6, hWn⟩ : ∃ W, W = wc := ⟨_, rfl⟩
  rw [← hWn] at g2 g3 g4 g5 g6 g70 g71 g72 g73 g74 ⊢
  clear HF HA HB HC R0 R1 R2 R3 R4 g1 hJ hwx hWn L1 L2 P1 P2' rs qs
  have HF := Lib.hid g4; have HB := Lib.hid g5; have HC := Lib.hid g6; have R5 := Lib.hid g3
  have HA : Hid (Blk W6 pa 30 #[.slice A0 (an0 + bn0) C0, .slice A1 (an1 + bn1) C1, .slice A2 (an2 + bn2) C2, .slice A3 (an3 + bn3) C3, .slice A4 (an4 + bn4) C4, .slice A5 (an5 + bn5) C5, .slice a6 an6 ac6]) := Lib.hid (by simpa using g2)
  have R0 := Lib.hid g70
  have R1 := Lib.hid g71
  have R2 := Lib.hid g72
  have R3 := Lib.hid g73
  have R4 := Lib.hid g74
  clear g2 g3 g4 g5 g6 g70 g71 g72 g73 g74
  go_upto_region 16 with fail
  -- clauses
  obtain ⟨rs, l1, p1, f1, o1, u1⟩ := RX6.out.flatG HF.out (fun _ _ h => one_clause h)
  obtain ⟨qs, l2, p2, f2, o2, u2⟩ := RY6.out.flatG HF.out (fun _ _ h => one_clause h)
  rw [← NX6.out] at f1 u1
  rw [← NY6.out] at f2 u2
  obtain ⟨ex1, ex2⟩ := join_ex (w := W6) (c := ac6) (d := bc6) 28 Tryz.underClause Tryz.infoClause rfl (by decide) (by decide) f1 u1 o1 f2 u2 o2 (by omega) (by omega)
  have Ex1 := Lib.hid ex1; have Ex2 := Lib.hid ex2; have L1 := Lib.hid l1; have L2 := Lib.hid l2; have P1 := Lib.hid p1; have P2' := Lib.hid p2
  have xa := HA.out.cell 6; have ya := HB.out.cell 6
  simp at xa ya
  have za := HA.out.lt; have zb := HB.out.lt
  clear ex1 ex2 l1 l2 p1 p2 f1 f2 o1 o2 u1 u2
  go_cut [] from 97 (fun wx => ∃ v w', JR W6 90 4 (an6 + bn6) (rs.flatten ++ qs.flatten) v w' ∧ wx = w'.setCell ⟨pa, 6, none⟩ v)
  case first =>
    go_region_law (first
      | (refine step_append_ex rfl _ _ _ rfl rfl rfl (Ex2.out _ _ HJ1.out) ?_; rintro vq Wq ⟨Aq, cq, rfl, h3, h4⟩; have HJ2 : Hid (JR W6 90 4 (an6 + bn6) (rs.flatten ++ qs.flatten) (.slice Aq (an6 + bn6) cq) Wq) := Lib.hid ⟨Aq, cq, rfl, h3, h4⟩; have xb := (HA.out.below h4 HA.out.lt).cell 6; have xf := (HA.out.below h4 HA.out.lt).free 6; have xl := (HA.out.below h4 HA.out.lt).lt; simp at xb; clear h3 h4)
      | (refine step_append_ex rfl _ _ _ rfl rfl rfl Ex1.out ?_; rintro vp Wp ⟨Ap, cp, rfl, h3, h4⟩; have HJ1 : Hid (JR W6 90 4 an6 rs.flatten (.slice Ap an6 cp) Wp) := Lib.hid ⟨Ap, cp, rfl, h3, h4⟩; have yb := (HB.out.below h4 HB.out.lt).cell 6; have yl := (HB.out.below h4 HB.out.lt).lt; simp at yb; clear h3 h4))
    all_goals (try go_wp2_with fail)
    all_goals go_meet
    all_goals exact ⟨_, _, HJ2.out, rfl⟩
  case rest =>
  obtain ⟨v, w', hJ, hwx⟩ := hcut
  clear xa ya za zb Ex1 Ex2
  rw [NX6.out, NY6.out] at hJ
  obtain ⟨g1, g2, A6, C6, rfl, g3⟩ := join_done (k := 6) hJ HA.out L1.out L2.out P1.out P2'.out (fun _ _ h => (one_clause h).1) (by rw [← NX6.out, ← NY6.out]; omega)
  rw [← hwx, ← NX6.out, ← NY6.out] at g2
  rw [← hwx] at g1 g3
  have g4 := HF.out.trans g1
  have g5 := g1.blk HB.out hab.symm; have g6 := g1.blk HC.out haz.symm
  have g70 := R0.out.keep (fun b hb => (⟨⟨hb.1, Nat.lt_of_lt_of_le hb.2 g1.bel.size⟩, fun i => g1.cell hb.2 hb.1 i⟩ : (b ≠ pa ∧ b < wc.heap.size) ∧ ∀ i, wc.cell? ⟨b, i, none⟩ = W6.cell? ⟨b, i, none⟩)) (fun _ _ _ h => h)
  have g71 := R1.out.keep (fun b hb => (⟨⟨hb.1, Nat.lt_of_lt_of_le hb.2 g1.bel.size⟩, fun i => g1.cell hb.2 hb.1 i⟩ : (b ≠ pa ∧ b < wc.heap.size) ∧ ∀ i, wc.cell? ⟨b, i, none⟩ = W6.cell? ⟨b, i, none⟩)) (fun _ _ _ h => h)
  have g72 := R2.out.keep (fun b hb => (⟨⟨hb.1, Nat.lt_of_lt_of_le hb.2 g1.bel.size⟩, fun i => g1.cell hb.2 hb.1 i⟩ : (b ≠ pa ∧ b < wc.heap.size) ∧ ∀ i, wc.cell? ⟨b, i, none⟩ = W6.cell? ⟨b, i, none⟩)) (fun _ _ _ h => h)
  have g73 := R3.out.keep (fun b hb => (⟨⟨hb.1, Nat.lt_of_lt_of_le hb.2 g1.bel.size⟩, fun i => g1.cell hb.2 hb.1 i⟩ : (b ≠ pa ∧ b < wc.heap.size) ∧ ∀ i, wc.cell? ⟨b, i, none⟩ = W6.cell? ⟨b, i, none⟩)) (fun _ _ _ h => h)
  have g74 := R4.out.keep (fun b hb => (⟨⟨hb.1, Nat.lt_of_lt_of_le hb.2 g1.bel.size⟩, fun i => g1.cell hb.2 hb.1 i⟩ : (b ≠ pa ∧ b < wc.heap.size) ∧ ∀ i, wc.cell? ⟨b, i, none⟩ = W6.cell? ⟨b, i, none⟩)) (fun _ _ _ h => h)
  have g75 := R5.out.keep (fun b hb => (⟨⟨hb.1, Nat.lt_of_lt_of_le hb.2 g1.bel.size⟩, fun i => g1.cell hb.2 hb.1 i⟩ : (b ≠ pa ∧ b < wc.heap.size) ∧ ∀ i, wc.cell? ⟨b, i, none⟩ = W6.cell? ⟨b, i, none⟩)) (fun _ _ _ h => h)
  obtain ⟨W7, hWn⟩ : ∃ W, W = wc := ⟨_, rfl⟩
  rw [← hWn] at g2 g3 g4 g5 g6 g70 g71 g72 g73 g74 g75 ⊢
  clear HF HA HB HC R0 R1 R2 R3 R4 R5 g1 hJ hwx hWn L1 L2 P1 P2' rs qs
  have HF := Lib.hid g4; have HB := Lib.hid g5; have HC := Lib.hid g6; have R6 := Lib.hid g3
  have HA : Hid (Blk W7 pa 30 #[.slice A0 (an0 + bn0) C0, .slice A1 (an1 + bn1) C1, .slice A2 (an2 + bn2) C2, .slice A3 (an3 + bn3) C3, .slice A4 (an4 + bn4) C4, .slice A5 (an5 + bn5) C5, .slice A6 (an6 + bn6) C6]) := Lib.hid (by simpa using g2)
  have R0 := Lib.hid g70
  have R1 := Lib.hid g71
  have R2 := Lib.hid g72
  have R3 := Lib.hid g73
  have R4 := Lib.hid g74
  have R5 := Lib.hid g75
  clear g2 g3 g4 g5 g6 g70 g71 g72 g73 g74 g75
  have x0 := HA.out.cell 0; have x1 := HA.out.cell 1; have x2 := HA.out.cell 2; have x3 := HA.out.cell 3; have x4 := HA.out.cell 4; have x5 := HA.out.cell 5; have x6 := HA.out.cell 6
  have y0 := HC.out.cell 0; have y1 := HC.out.cell 1; have y2 := HC.out.cell 2; have y3 := HC.out.cell 3; have y4 := HC.out.cell 4; have y5 := HC.out.cell 5; have y6 := HC.out.cell 6
  simp at x0 x1 x2 x3 x4 x5 x6 y0 y1 y2 y3 y4 y5 y6
  have za := HA.out.lt; have zc := HC.out.lt
  have hk0 : ∀ b, (b ≠ pa ∧ b < W0.heap.size) → Old W7 b ∧ ∀ i, W7.cell? ⟨b, i, none⟩ = W0.cell? ⟨b, i, none⟩ := fun b hb => ⟨Nat.lt_of_lt_of_le hb.2 HF.out.bel.size, fun i => HF.out.cell hb.2 hb.1 i⟩
  have hk7 : ∀ b, (b ≠ pa ∧ b < W7.heap.size) → Old W7 b ∧ ∀ i, W7.cell? ⟨b, i, none⟩ = W7.cell? ⟨b, i, none⟩ := fun b hb => ⟨hb.2, fun _ => rfl⟩
  have hZ := CatAt.keep hk0 RZ.out
  have hX : CatAt W7 (Old W7) (x.app y) [.slice A0 (an0 + bn0) C0, .slice A1 (an1 + bn1) C1, .slice A2 (an2 + bn2) C2, .slice A3 (an3 + bn3) C3, .slice A4 (an4 + bn4) C4, .slice A5 (an5 + bn5) C5, .slice A6 (an6 + bn6) C6] := ⟨A0, C0, A1, C1, A2, C2, A3, C3, A4, C4, A5, C5, A6, C6, by
      simp only [Sx.Cat.app, List.length_append, NX0.out, NY0.out, NX1.out, NY1.out, NX2.out, NY2.out, NX3.out, NY3.out, NX4.out, NY4.out, NX5.out, NY5.out, NX6.out, NY6.out], R0.out.keep (P' := CourseAt W7 (Old W7)) hk7 (fun _ _ _ h => CourseAt.keep hk0 h), R1.out.keep hk7 (fun _ _ _ h => h), R2.out.keep (P' := ProgAt W7 (Old W7)) hk7 (fun _ _ _ h => ProgAt.keep hk0 h), R3.out.keep hk7 (fun _ _ _ h => h), R4.out.keep hk7 (fun _ _ _ h => h), R5.out.keep hk7 (fun _ _ _ h => h), R6.out.keep hk7 (fun _ _ _ h => h)⟩
  have Hc := Lib.hid (rSame (x.app y) (x.app y) W7 _ _ hZ hX)
  rw [decide_eq_true rfl] at Hc
  have BF := Lib.hid (B4.out.trans (HF.out.bel.mono hwa))
  clear hZ hX hk0 hk7
  go_wp2_with fail
  refine Hc.out.mono ?_
  rintro e wf ⟨rfl, hb⟩
  have HW := Lib.hid (BF.out.trans (hb.mono BF.out.size))
  clear hb
  go_wp2_with fail
  go_ret
  exact ⟨ret_bool rfl, HW.out⟩
end Go.Proofs.YtjonaidancomgaaGreatDoor
