/- Parts of the proof, joined into one text: QyApp. -/
import Derived.Test.YtjonaidancomgaaDoorZQySame
import Derived.Test.YtjonaidancomgaaDoorZQyFin
import Derived.Deep.RegionHeld

namespace Go.Proofs.YtjonaidancomgaaDoor
open Go.RowKit Go.Maps Go.WideMaps
attribute [local go_sem] Oper.semAt_some

/-- A statement ends in one frame, but for a new row's place; of the world so much is said. -/
def CutA (A : Nat → Nat → Act) (S : World → Prop) : Exit → Act → World → Prop
  | .normal, a, w => (∃ gg cap, a = A gg cap) ∧ S w
  | _, _, _ => False
theorem wpIn_cutA {P : Program} {F : Fence} {n : Nat} {c : Code} {Q : Exit → Act → World → Prop} {a : Act} {w : World} (A : Nat → Nat → Act) (S : World → Prop) (h : c.wpIn F n P (CutA A S) a w) (k : ∀ gg cap w', S w' → Q .normal (A gg cap) w') : c.wpIn F n P Q a w :=
  wpIn_mono h (fun e a' w' hc => by
    cases e with
    | normal =>
      obtain ⟨⟨gg, cap, rfl⟩, hs⟩ := hc
      exact k gg cap w' hs
    | _ => exact hc.elim)
/-- The region with a number. -/
def findReg (n : Nat) : Code → Option Code
  | .region id ops b => if id = n then some (.region id ops b) else none
  | .seq a b => match findReg n a with | some c => some c | none => findReg n b
  | .cond _ a b => match findReg n a with | some c => some c | none => findReg n b
  | .loop c => findReg n c
  | .block _ c => findReg n c
  | .scope c => findReg n c
  | .rangeFunc _ _ a b => match findReg n a with | some c => some c | none => findReg n b
  | _ => none
noncomputable def parseApp : Code := (Tryd.f8.body.bind (findReg 15)).getD .skip
theorem wp_append_run {P : Program} {w w3 : World} {o : Oper} {a : Act} {K : Act → World → Prop} {Q : Exit → Act → World → Prop} (s x : Operand) (t : TypeId)
    (ho : o.op = .call { callee := .builtin .append, args := #[s, x], argTypes := #[t, t] }) {v u r : Value} (hs : a.eval s = v) (hx : a.eval x = u)
    (hr : (Builtin.append_ #[t, t] o.type #[v, u]).run P w = .ok r w3) (h : K (a.put o.dst r) w3) : o.wp P a w K Q := by
  unfold Oper.wp execOp
  simp only [ho, resolve, invoke, builtin, Sem.run_bind, Sem.run_pure, Result.andThen_ok, List.map_toArray, List.map_cons, List.map_nil, hs, hx, hr]
  exact h
theorem cutA_lets (A : Nat → Nat → Act) (S : World → Prop) : ¬ LetsOut (CutA A S) := fun ⟨_, _, h⟩ => h

set_option maxRecDepth 100000 in
set_option maxHeartbeats 4000000 in
theorem parse_app (lr N pb g bx ox bN oN nn ml cq NL cN gg cap : Nat) (Aq : Option Addr) (nm : ByteArray) (w1 w3 : World) (S : World → Prop) (x0 x1 x3 x4 x5 x7 x9 x10 x11 x12 x13 x14 x15 x16 x17 x18 x19 x20 x21 x22 x23 x24 x25 x26 x27 x28 x29 x30 x31 x32 x33 x34 x35 x36 x37 x38 x39 x40 x41 x42 x43 x44 x45 x46 x47 x48 x49 x50 x51 x52 x53 x54 x55 x56 x57 x58 x59 x60 x61 x62 x63 x64 x65 x66 x67 x68 x69 x70 x71 x72 : Value)
    (d3 : w1.cell? ⟨pb, 0, none⟩ = some (.pointer (some ⟨g, 0, none⟩))) (d4 : w1.cell? ⟨g, 3, none⟩ = some (.slice (some ⟨bN, oN, none⟩) NL cN)) (d2 : w1.cell? ⟨bx, ox, none⟩ = some (.int .i64 nn)) (d1 : w1.cell? ⟨bN, oN + nn, none⟩ = some (.string nm))
    (d5 : w1.cell? ⟨N, 0, none⟩ = some (.slice Aq ml cq)) (hnn : nn < NL) (_hNL : NL ≤ 8) (l1 : pb < w1.heap.size) (l2 : g < w1.heap.size) (l3 : bx < w1.heap.size) (l4 : bN < w1.heap.size) (l5 : N < w1.heap.size)
    (n1 : pb ≠ N) (n2 : g ≠ N) (n3 : bx ≠ N) (n4 : bN ≠ N)
    (hr : (Builtin.append_ #[22, 22] 22 #[.slice Aq ml cq, .slice (some ⟨w1.heap.size, 0, none⟩) 1 1]).run Tryd.prog ((w1.alloc (.cells #[.string nm] 9)).drew) = .ok (.slice (some ⟨gg, 0, none⟩) (ml + 1) cap) w3)
    (e0 : w3.cell? ⟨N, 0, none⟩ = some (.slice Aq ml cq)) (ef0 : w3.frozen? ⟨N, 0, none⟩ = false)
    (f3 : (w3.setCell ⟨N, 0, none⟩ (.slice (some ⟨gg, 0, none⟩) (ml + 1) cap)).cell? ⟨pb, 0, none⟩ = some (.pointer (some ⟨g, 0, none⟩))) (f4 : (w3.setCell ⟨N, 0, none⟩ (.slice (some ⟨gg, 0, none⟩) (ml + 1) cap)).cell? ⟨g, 3, none⟩ = some (.slice (some ⟨bN, oN, none⟩) NL cN)) (f2 : (w3.setCell ⟨N, 0, none⟩ (.slice (some ⟨gg, 0, none⟩) (ml + 1) cap)).cell? ⟨bx, ox, none⟩ = some (.int .i64 nn)) (f1 : (w3.setCell ⟨N, 0, none⟩ (.slice (some ⟨gg, 0, none⟩) (ml + 1) cap)).cell? ⟨bN, oN + nn, none⟩ = some (.string nm))
    (hfin : S (w3.setCell ⟨N, 0, none⟩ (.slice (some ⟨gg, 0, none⟩) (ml + 1) cap))) :
    Code.wpIn (Fence.wide.inRound lr) 1 Tryd.prog parseApp (CutA (fun gg cap => ⟨#[x0, x1, .pointer (some ⟨N, 0, none⟩), x3, x4, x5, .pointer (some ⟨pb, 0, none⟩), x7, .pointer (some ⟨bx, ox, none⟩), x9, x10, x11, x12, x13, x14, x15, x16, x17, x18, x19, x20, x21, x22, x23, x24, x25, x26, x27, x28, x29, x30, x31, x32, x33, x34, x35, x36, x37, x38, x39, x40, x41, x42, x43, x44, x45, x46, x47, x48, x49, x50, x51, x52, x53, x54, .pointer (some ⟨N, 0, none⟩), .slice Aq ml cq, .pointer (some ⟨g, 0, none⟩), .pointer (some ⟨g, 0, none⟩), .pointer (some ⟨g, 3, none⟩), .slice (some ⟨bN, oN, none⟩) NL cN, .pointer (some ⟨bx, ox, none⟩), .pointer (some ⟨bx, ox, none⟩), .int .i64 nn, .pointer (some ⟨bN, oN + nn, none⟩), .string nm, .slice (some ⟨w1.heap.size, 0, none⟩) 1 1, .slice (some ⟨gg, 0, none⟩) (ml + 1) cap, .pointer (some ⟨N, 0, none⟩), x69, x70, x71, x72], []⟩) S) ⟨#[x0, x1, .pointer (some ⟨N, 0, none⟩), x3, x4, x5, .pointer (some ⟨pb, 0, none⟩), x7, .pointer (some ⟨bx, ox, none⟩), x9, x10, x11, x12, x13, x14, x15, x16, x17, x18, x19, x20, x21, x22, x23, x24, x25, x26, x27, x28, x29, x30, x31, x32, x33, x34, x35, x36, x37, x38, x39, x40, x41, x42, x43, x44, x45, x46, x47, x48, x49, x50, x51, x52, x53, x54, x55, x56, x57, x58, x59, x60, x61, x62, x63, x64, x65, x66, x67, x68, x69, x70, x71, x72], []⟩ w1 := by
  have far : ∀ (b o : Nat), b ≠ N → w3.cell? ⟨b, o, none⟩ = (w3.setCell ⟨N, 0, none⟩ (.slice (some ⟨gg, 0, none⟩) (ml + 1) cap)).cell? ⟨b, o, none⟩ := fun b o h => (World.cell?_of_block (a := ⟨b, o, none⟩) (Below.heap_setCell w3 ⟨N, 0, none⟩ _ b h)).symm
  have hS3 : (fun w' : World => w'.cell? ⟨pb, 0, none⟩ = some (.pointer (some ⟨g, 0, none⟩)) ∧ w'.cell? ⟨g, 3, none⟩ = some (.slice (some ⟨bN, oN, none⟩) NL cN) ∧ w'.cell? ⟨bx, ox, none⟩ = some (.int .i64 nn) ∧ w'.cell? ⟨bN, oN + nn, none⟩ = some (.string nm)) w3 := ⟨(far _ _ n1).trans f3, (far _ _ n2).trans f4, (far _ _ n3).trans f2, (far _ _ n4).trans f1⟩
  have hSf : (fun w' : World => w'.cell? ⟨pb, 0, none⟩ = some (.pointer (some ⟨g, 0, none⟩)) ∧ w'.cell? ⟨g, 3, none⟩ = some (.slice (some ⟨bN, oN, none⟩) NL cN) ∧ w'.cell? ⟨bx, ox, none⟩ = some (.int .i64 nn) ∧ w'.cell? ⟨bN, oN + nn, none⟩ = some (.string nm)) (w3.setCell ⟨N, 0, none⟩ (.slice (some ⟨gg, 0, none⟩) (ml + 1) cap)) := ⟨f3, f4, f2, f1⟩
  have al : ∀ (b o : Nat) (ob : Obj), b < w1.heap.size → (w1.alloc ob).cell? ⟨b, o, none⟩ = w1.cell? ⟨b, o, none⟩ := fun b o ob h => World.cell?_alloc_lt w1 ob ⟨b, o, none⟩ h
  have hS2 : (fun w' : World => w'.cell? ⟨pb, 0, none⟩ = some (.pointer (some ⟨g, 0, none⟩)) ∧ w'.cell? ⟨g, 3, none⟩ = some (.slice (some ⟨bN, oN, none⟩) NL cN) ∧ w'.cell? ⟨bx, ox, none⟩ = some (.int .i64 nn) ∧ w'.cell? ⟨bN, oN + nn, none⟩ = some (.string nm)) ((w1.alloc (.cells #[.string nm] 9)).drew) := ⟨(al _ _ _ l1).trans d3, (al _ _ _ l2).trans d4, (al _ _ _ l3).trans d2, (al _ _ _ l4).trans d1⟩
  have d5' : (w1.alloc (.cells #[.string nm] 9)).cell? ⟨N, 0, none⟩ = some (.slice Aq ml cq) := (al _ _ _ l5).trans d5
  have hS : (fun w' : World => w'.cell? ⟨pb, 0, none⟩ = some (.pointer (some ⟨g, 0, none⟩)) ∧ w'.cell? ⟨g, 3, none⟩ = some (.slice (some ⟨bN, oN, none⟩) NL cN) ∧ w'.cell? ⟨bx, ox, none⟩ = some (.int .i64 nn) ∧ w'.cell? ⟨bN, oN + nn, none⟩ = some (.string nm)) w1.drew := ⟨d3, d4, d2, d1⟩
  have HS3 := Lib.hid hS3; have HSf := Lib.hid hSf; have HS2 := Lib.hid hS2; have Hr := Lib.hid hr; have Hfin := Lib.hid hfin
  clear far al f1 f2 f3 f4 hS3 hSf hS2 hr hfin
  conv => arg 4; whnf
  refine wpIn_region_held_round (S := (fun w' : World => w'.cell? ⟨pb, 0, none⟩ = some (.pointer (some ⟨g, 0, none⟩)) ∧ w'.cell? ⟨g, 3, none⟩ = some (.slice (some ⟨bN, oN, none⟩) NL cN) ∧ w'.cell? ⟨bx, ox, none⟩ = some (.int .i64 nn) ∧ w'.cell? ⟨bN, oN + nn, none⟩ = some (.string nm))) (cutA_lets _ _) (by kernel_rfl) (by kernel_rfl) ?_
  refine wpAnyH_take (i := 0) (v := ?_) rfl (by kernel_rfl) (by kernel_rfl) (by kernel_rfl) (fun _ _ _ h => h) (Or.inl ⟨by rfl, ?_⟩) hS ?_
  rotate_left
  · intro wz hz
    try dsimp only at hz
    go_simp
    try with_reducible rfl
  simp only [Act.put, List.setIfInBounds_toArray]
  refine wpAnyH_take (i := 2) (v := ?_) rfl (by kernel_rfl) (by kernel_rfl) (by kernel_rfl) (fun _ _ _ h => h) (Or.inl ⟨by rfl, ?_⟩) hS ?_
  rotate_left
  · intro wz hz
    try dsimp only at hz
    go_simp
    try with_reducible rfl
  simp only [Act.put]
  refine wpAnyH_take (i := 3) (v := ?_) rfl (by kernel_rfl) (by kernel_rfl) (by kernel_rfl) (fun _ _ _ h => h) (Or.inl ⟨by rfl, ?_⟩) hS ?_
  rotate_left
  · intro wz hz
    try dsimp only at hz
    go_simp
    try with_reducible rfl
  simp only [Act.put]
  refine wpAnyH_take (i := 4) (v := ?_) rfl (by kernel_rfl) (by kernel_rfl) (by kernel_rfl) (fun _ _ _ h => h) (Or.inl ⟨by rfl, ?_⟩) hS ?_
  rotate_left
  · intro wz hz
    try dsimp only at hz
    go_simp
    try with_reducible rfl
  simp only [Act.put]
  refine wpAnyH_take (i := 5) (v := ?_) rfl (by kernel_rfl) (by kernel_rfl) (by kernel_rfl) (fun _ _ _ h => h) (Or.inl ⟨by rfl, ?_⟩) hS ?_
  rotate_left
  · intro wz hz
    try dsimp only at hz
    go_simp
    try with_reducible rfl
  simp only [Act.put]
  refine wpAnyH_take (i := 6) (v := ?_) rfl (by kernel_rfl) (by kernel_rfl) (by kernel_rfl) (fun _ _ _ h => h) (Or.inl ⟨by rfl, ?_⟩) hS ?_
  rotate_left
  · intro wz hz
    try dsimp only at hz
    go_simp
    try with_reducible rfl
  simp only [Act.put]
  refine wpAnyH_take (i := 7) (v := ?_) rfl (by kernel_rfl) (by kernel_rfl) (by kernel_rfl) (fun _ _ _ h => h) (Or.inl ⟨by rfl, ?_⟩) hS ?_
  rotate_left
  · intro wz hz
    try dsimp only at hz
    go_simp
    try with_reducible rfl
  simp only [Act.put]
  refine wpAnyH_take (i := 8) (v := ?_) rfl (by kernel_rfl) (by kernel_rfl) (by kernel_rfl) (fun _ _ _ h => h) (Or.inl ⟨by rfl, ?_⟩) hS ?_
  rotate_left
  · intro wz hz
    try dsimp only at hz
    go_simp
    try with_reducible rfl
  simp only [Act.put]
  refine wpAnyH_take (i := 9) (v := ?_) rfl (by kernel_rfl) (by kernel_rfl) (by kernel_rfl) (fun _ _ _ h => h) (Or.inl ⟨by rfl, ?_⟩) hS ?_
  rotate_left
  · intro wz hz
    try dsimp only at hz
    go_simp
    try with_reducible rfl
  simp only [Act.put]
  refine wpAnyH_take (i := 10) (v := ?_) rfl (by kernel_rfl) (by kernel_rfl) (by kernel_rfl) (fun _ _ _ h => h) (Or.inl ⟨by rfl, ?_⟩) hS ?_
  rotate_left
  · intro wz hz
    try dsimp only at hz
    go_simp
    try with_reducible rfl
  simp only [Act.put]
  refine wpAnyH_ready (rs := [1, 11]) (by kernel_rfl) (by simp) ?_
  refine AllReadyH.cons rfl (fun K hK => ?_) (AllReadyH.cons rfl (fun K hK => ?_) AllReadyH.nil)
  · skip
    go_simp
    refine hK.out _ _ hS (fun _ => ?_)
    clear hK K
    try simp only [Act.put, List.setIfInBounds_toArray, List.set_cons_zero, List.set_cons_succ]
    refine wpAnyH_ready (rs := [11]) (by kernel_rfl) (by simp) ?_
    refine AllReadyH.cons rfl (fun K hK => ?_) AllReadyH.nil
    go_simp
    refine hK.out _ _ HS2.out (fun _ => ?_)
    clear hK K
    try simp only [Act.put, List.setIfInBounds_toArray, List.set_cons_zero, List.set_cons_succ]
    refine wpAnyH_ready (rs := [12]) (by kernel_rfl) (by simp) ?_
    refine AllReadyH.cons rfl (fun K hK => ?_) AllReadyH.nil
    rw [if_pos (by rfl)]
    refine wp_append_run _ _ _ rfl rfl rfl Hr.out ?_
    refine hK.out _ _ HS3.out (fun _ => ?_)
    clear hK K
    try simp only [Act.put, List.setIfInBounds_toArray]
    refine wpAnyH_ready (rs := [13]) (by kernel_rfl) (by simp) ?_
    refine AllReadyH.cons rfl (fun K hK => ?_) AllReadyH.nil
    go_simp
    refine hK.out _ _ HS3.out (fun _ => ?_)
    clear hK K
    try simp only [Act.put, List.setIfInBounds_toArray, List.set_cons_zero, List.set_cons_succ]
    refine wpAnyH_ready (rs := [14]) (by kernel_rfl) (by simp) ?_
    refine AllReadyH.cons rfl (fun K hK => ?_) AllReadyH.nil
    go_simp
    refine hK.out _ _ HSf.out (fun _ => ?_)
    clear hK K
    try simp only [Act.put, List.setIfInBounds_toArray, List.set_cons_zero, List.set_cons_succ]
    refine wpAnyH_done (by kernel_rfl) ?_ _
    exact ⟨⟨gg, cap, rfl⟩, Hfin.out⟩
  · skip
    go_simp
    refine hK.out _ _ HS2.out (fun _ => ?_)
    clear hK K
    try simp only [Act.put, List.setIfInBounds_toArray, List.set_cons_zero, List.set_cons_succ]
    refine wpAnyH_ready (rs := [1]) (by kernel_rfl) (by simp) ?_
    refine AllReadyH.cons rfl (fun K hK => ?_) AllReadyH.nil
    go_simp
    refine hK.out _ _ HS2.out (fun _ => ?_)
    clear hK K
    try simp only [Act.put, List.setIfInBounds_toArray, List.set_cons_zero, List.set_cons_succ]
    refine wpAnyH_ready (rs := [12]) (by kernel_rfl) (by simp) ?_
    refine AllReadyH.cons rfl (fun K hK => ?_) AllReadyH.nil
    rw [if_pos (by rfl)]
    refine wp_append_run _ _ _ rfl rfl rfl Hr.out ?_
    refine hK.out _ _ HS3.out (fun _ => ?_)
    clear hK K
    try simp only [Act.put, List.setIfInBounds_toArray]
    refine wpAnyH_ready (rs := [13]) (by kernel_rfl) (by simp) ?_
    refine AllReadyH.cons rfl (fun K hK => ?_) AllReadyH.nil
    go_simp
    refine hK.out _ _ HS3.out (fun _ => ?_)
    clear hK K
    try simp only [Act.put, List.setIfInBounds_toArray, List.set_cons_zero, List.set_cons_succ]
    refine wpAnyH_ready (rs := [14]) (by kernel_rfl) (by simp) ?_
    refine AllReadyH.cons rfl (fun K hK => ?_) AllReadyH.nil
    go_simp
    refine hK.out _ _ HSf.out (fun _ => ?_)
    clear hK K
    try simp only [Act.put, List.setIfInBounds_toArray, List.set_cons_zero, List.set_cons_succ]
    refine wpAnyH_done (by kernel_rfl) ?_ _
    exact ⟨⟨gg, cap, rfl⟩, Hfin.out⟩
end Go.Proofs.YtjonaidancomgaaDoor
