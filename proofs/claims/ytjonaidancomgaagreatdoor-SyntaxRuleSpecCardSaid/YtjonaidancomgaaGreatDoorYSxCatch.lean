/- Parts of the proof, joined into one text: SxCatch, SxParB, SxParC, SxRat. -/
import Derived.Test.YtjonaidancomgaaGreatDoorYLxH
import Derived.Defers
import Derived.Recover
import Derived.Laws.EntriesVeiled
import Derived.Test.YtjonaidancomgaaGreatDoorYLxE
import Derived.Deep.QuietTactic
import Derived.BigQuiet

namespace Go.Proofs.YtjonaidancomgaaGreatDoor
open Go.RowKit

theorem assert_failureS (p x : Int) (w : World) : (Instr.typeAssert (.iface 141 (.agg #[.int .i64 p, .int .i64 x])) 20 141 true).run Tryz.prog w = .ok (.tuple #[.agg #[.int .i64 p, .int .i64 x], .bool true]) w := by kernel_rfl

set_option maxHeartbeats 1000000 in
theorem sCatchIdleCat (p q r : Addr) (w : World) :
  CallsD Tryz.prog 82 #[.pointer (some p), .pointer (some q), .pointer (some r)] .returning w fun e u' w' => e = .returned (.tuple #[]) ∧ u' = .returning ∧ w' = w := by
 refine callsD_of_wpS Tryz.func82 rfl fun c₀ cs hu => ?_
 apply wpS_seq
 apply wpS_region
 simp [wpOpsS, go_sem, recoverD, hu, Tryz.ntmps82, Exit.thenS, Array.replicate_succ]
 refine wpS_of_wp ?_
 go_wp2
 cases c₀
 simp_all [bodyPostS, results, Tryz.results82]
set_option maxRecDepth 20000 in
set_option maxHeartbeats 4000000 in
theorem sCatchCat (N : Nat) (p x : Int) (cq : Array Value) (x1 x2 : Value) (hcq : cq.size = 7) (w : World) (h0 : Blk w N 30 cq) (h1 : Blk w (N + 1) 3 #[x1]) (h2 : Blk w (N + 2) 31 #[x2]) :
  CallsD Tryz.prog 82 #[.pointer (some ⟨N, 0, none⟩), .pointer (some ⟨N + 1, 0, none⟩), .pointer (some ⟨N + 2, 0, none⟩)] (.panicking [{ v := .iface 141 (.agg #[.int .i64 p, .int .i64 x]), recovered := false }]) w fun e u' w' =>
   e = .returned (.tuple #[]) ∧ u' = .panicking [{ v := .iface 141 (.agg #[.int .i64 p, .int .i64 x]), recovered := true }] ∧ Blk w' N 30 #[.slice none 0 0, .slice none 0 0, .slice none 0 0, .slice none 0 0, .slice none 0 0, .slice none 0 0, .slice none 0 0] ∧ Blk w' (N + 1) 3 #[.int .i64 p] ∧ Blk w' (N + 2) 31 #[.int .i64 x] ∧ Below N w w' := by
 obtain ⟨y0, y1, y2, y3, y4, y5, y6, rfl⟩ : ∃ y0 y1 y2 y3 y4 y5 y6, cq = #[y0, y1, y2, y3, y4, y5, y6] := by
  obtain ⟨l⟩ := cq
  match l, hcq with
  | [y0, y1, y2, y3, y4, y5, y6], _ => exact ⟨y0, y1, y2, y3, y4, y5, y6, rfl⟩
 refine callsD_of_wpS Tryz.func82 rfl fun c₀ cs hu => ?_
 apply wpS_seq
 apply wpS_region
 simp [wpOpsS, go_sem, recoverD, hu, Tryz.ntmps82, Exit.thenS, Array.replicate_succ]
 refine wpS_of_wp ?_
 have l2 := h2.lt
 have hta := assert_failureS
 go_wp2
 clear hta hcq hu
 obtain ⟨W0, hW0⟩ : ∃ W0, W0 = w.alloc (Obj.cells #[Value.int IntKind.i64 p, Value.int IntKind.i64 x] 141) := ⟨_, rfl⟩
 rw [← hW0]
 have h3b : Blk W0 w.heap.size 141 #[.int .i64 p, .int .i64 x] := by rw [hW0]; exact Blk.new _ _ _
 have hsz0 : W0.heap.size = w.heap.size + 1 := by rw [hW0]; simp
 obtain ⟨W, hW⟩ : ∃ W, W = W0.alloc (Obj.cells #[.slice none 0 0, .slice none 0 0, .slice none 0 0, .slice none 0 0, .slice none 0 0, .slice none 0 0, .slice none 0 0] 30) := ⟨_, rfl⟩
 first
  | rw [← hW]
  | rw [show (w.heap.size + 1) = W0.heap.size from hsz0.symm, ← hW]
 have h0a : Blk W N 30 #[y0, y1, y2, y3, y4, y5, y6] := by rw [hW, hW0]; exact (h0.alloc _).alloc _
 have h1a : Blk W (N + 1) 3 #[x1] := by rw [hW, hW0]; exact (h1.alloc _).alloc _
 have h2a : Blk W (N + 2) 31 #[x2] := by rw [hW, hW0]; exact (h2.alloc _).alloc _
 have h3a : Blk W w.heap.size 141 #[.int .i64 p, .int .i64 x] := by rw [hW]; exact h3b.alloc _
 have h4a : Blk W (w.heap.size + 1) 30 #[.slice none 0 0, .slice none 0 0, .slice none 0 0, .slice none 0 0, .slice none 0 0, .slice none 0 0, .slice none 0 0] := by rw [hW]; exact Blk.new_at _ _ hsz0
 have hbel : Below N w W := by rw [hW, hW0]; exact ((Below.refl _ _).alloc (by omega) _).alloc (by simp; omega) _
 have c0 := h0a.cell 0
 have c1 := h0a.cell 1
 have c2 := h0a.cell 2
 have c3 := h0a.cell 3
 have c4 := h0a.cell 4
 have c5 := h0a.cell 5
 have c6 := h0a.cell 6
 have e1 := h1a.cell 0; have e2 := h2a.cell 0
 have f0 := h0a.free 0
 have f1 := h0a.free 1
 have f2 := h0a.free 2
 have f3 := h0a.free 3
 have f4 := h0a.free 4
 have f5 := h0a.free 5
 have f6 := h0a.free 6
 have g1 := h1a.free 0; have g2 := h2a.free 0
 have k0 := h3a.cell 0; have k1 := h3a.cell 1
 have m0 := h4a.cell 0
 have m1 := h4a.cell 1
 have m2 := h4a.cell 2
 have m3 := h4a.cell 3
 have m4 := h4a.cell 4
 have m5 := h4a.cell 5
 have m6 := h4a.cell 6
 have hne0 : w.heap.size ≠ N := by omega
 have hne1 : w.heap.size ≠ N + 1 := by omega
 have hne2 : w.heap.size ≠ N + 2 := by omega
 have hne3 : w.heap.size + 1 ≠ N := by omega
 simp at c0 c1 c2 c3 c4 c5 c6 e1 e2 k0 k1 m0 m1 m2 m3 m4 m5 m6
 have H0 := Lh h0a; have H1 := Lh h1a; have H2 := Lh h2a; have HB := Lh hbel
 clear hW hW0 h3b h0 h1 h2 h0a h1a h2a h3a h4a hbel
 have HFin : Hid (Blk (((((((((W.setCell ⟨N, 0, none⟩ (.slice none 0 0)).setCell ⟨N, 1, none⟩ (.slice none 0 0)).setCell ⟨N, 2, none⟩ (.slice none 0 0)).setCell ⟨N, 3, none⟩ (.slice none 0 0)).setCell ⟨N, 4, none⟩ (.slice none 0 0)).setCell ⟨N, 5, none⟩ (.slice none 0 0)).setCell ⟨N, 6, none⟩ (.slice none 0 0)).setCell ⟨N + 1, 0, none⟩ (.int .i64 p)).setCell ⟨N + 2, 0, none⟩ (.int .i64 x)).drew N 30 #[.slice none 0 0, .slice none 0 0, .slice none 0 0, .slice none 0 0, .slice none 0 0, .slice none 0 0, .slice none 0 0] ∧ Blk (((((((((W.setCell ⟨N, 0, none⟩ (.slice none 0 0)).setCell ⟨N, 1, none⟩ (.slice none 0 0)).setCell ⟨N, 2, none⟩ (.slice none 0 0)).setCell ⟨N, 3, none⟩ (.slice none 0 0)).setCell ⟨N, 4, none⟩ (.slice none 0 0)).setCell ⟨N, 5, none⟩ (.slice none 0 0)).setCell ⟨N, 6, none⟩ (.slice none 0 0)).setCell ⟨N + 1, 0, none⟩ (.int .i64 p)).setCell ⟨N + 2, 0, none⟩ (.int .i64 x)).drew (N + 1) 3 #[.int .i64 p] ∧ Blk (((((((((W.setCell ⟨N, 0, none⟩ (.slice none 0 0)).setCell ⟨N, 1, none⟩ (.slice none 0 0)).setCell ⟨N, 2, none⟩ (.slice none 0 0)).setCell ⟨N, 3, none⟩ (.slice none 0 0)).setCell ⟨N, 4, none⟩ (.slice none 0 0)).setCell ⟨N, 5, none⟩ (.slice none 0 0)).setCell ⟨N, 6, none⟩ (.slice none 0 0)).setCell ⟨N + 1, 0, none⟩ (.int .i64 p)).setCell ⟨N + 2, 0, none⟩ (.int .i64 x)).drew (N + 2) 31 #[.int .i64 x] ∧ Below N w (((((((((W.setCell ⟨N, 0, none⟩ (.slice none 0 0)).setCell ⟨N, 1, none⟩ (.slice none 0 0)).setCell ⟨N, 2, none⟩ (.slice none 0 0)).setCell ⟨N, 3, none⟩ (.slice none 0 0)).setCell ⟨N, 4, none⟩ (.slice none 0 0)).setCell ⟨N, 5, none⟩ (.slice none 0 0)).setCell ⟨N, 6, none⟩ (.slice none 0 0)).setCell ⟨N + 1, 0, none⟩ (.int .i64 p)).setCell ⟨N + 2, 0, none⟩ (.int .i64 x)).drew) := Lh (by
  refine ⟨?_, ?_, ?_, ?_⟩
  ·have := ((((((((((H0.out).set 0 (.slice none 0 0)).set 1 (.slice none 0 0)).set 2 (.slice none 0 0)).set 3 (.slice none 0 0)).set 4 (.slice none 0 0)).set 5 (.slice none 0 0)).set 6 (.slice none 0 0)).far (p := ⟨N + 1, 0, none⟩) (by simp) (.int .i64 p)).far (p := ⟨N + 2, 0, none⟩) (by simp) (.int .i64 x)).drew
   simpa using this
  ·have := ((((((((((H1.out).far (p := ⟨N, 0, none⟩) (by simp) (.slice none 0 0)).far (p := ⟨N, 1, none⟩) (by simp) (.slice none 0 0)).far (p := ⟨N, 2, none⟩) (by simp) (.slice none 0 0)).far (p := ⟨N, 3, none⟩) (by simp) (.slice none 0 0)).far (p := ⟨N, 4, none⟩) (by simp) (.slice none 0 0)).far (p := ⟨N, 5, none⟩) (by simp) (.slice none 0 0)).far (p := ⟨N, 6, none⟩) (by simp) (.slice none 0 0)).set 0 (.int .i64 p)).far (p := ⟨N + 2, 0, none⟩) (by simp) (.int .i64 x)).drew
   simpa using this
  ·have := ((((((((((H2.out).far (p := ⟨N, 0, none⟩) (by simp) (.slice none 0 0)).far (p := ⟨N, 1, none⟩) (by simp) (.slice none 0 0)).far (p := ⟨N, 2, none⟩) (by simp) (.slice none 0 0)).far (p := ⟨N, 3, none⟩) (by simp) (.slice none 0 0)).far (p := ⟨N, 4, none⟩) (by simp) (.slice none 0 0)).far (p := ⟨N, 5, none⟩) (by simp) (.slice none 0 0)).far (p := ⟨N, 6, none⟩) (by simp) (.slice none 0 0)).far (p := ⟨N + 1, 0, none⟩) (by simp) (.int .i64 p)).set 0 (.int .i64 x)).drew
   simpa using this
  ·exact ((((((((((HB.out).setCell (p := ⟨N, 0, none⟩) (Nat.le_refl _) _).setCell (p := ⟨N, 1, none⟩) (Nat.le_refl _) _).setCell (p := ⟨N, 2, none⟩) (Nat.le_refl _) _).setCell (p := ⟨N, 3, none⟩) (Nat.le_refl _) _).setCell (p := ⟨N, 4, none⟩) (Nat.le_refl _) _).setCell (p := ⟨N, 5, none⟩) (Nat.le_refl _) _).setCell (p := ⟨N, 6, none⟩) (Nat.le_refl _) _).setCell (p := ⟨N + 1, 0, none⟩) (show N ≤ N + 1 by omega) _).setCell (p := ⟨N + 2, 0, none⟩) (show N ≤ N + 2 by omega) _).drew)
 go_region
 all_goals exact ⟨rfl, _, rfl, .tuple #[], by simp [results, Tryz.results82], rfl, rfl, HFin.out⟩

set_option maxHeartbeats 1000000 in
theorem sCatchIdleRule (p q r : Addr) (w : World) :
  CallsD Tryz.prog 106 #[.pointer (some p), .pointer (some q), .pointer (some r)] .returning w fun e u' w' => e = .returned (.tuple #[]) ∧ u' = .returning ∧ w' = w := by
 refine callsD_of_wpS Tryz.func106 rfl fun c₀ cs hu => ?_
 apply wpS_seq
 apply wpS_region
 simp [wpOpsS, go_sem, recoverD, hu, Tryz.ntmps106, Exit.thenS, Array.replicate_succ]
 refine wpS_of_wp ?_
 go_wp2
 cases c₀
 simp_all [bodyPostS, results, Tryz.results106]
set_option maxRecDepth 20000 in
set_option maxHeartbeats 4000000 in
theorem sCatchRule (N : Nat) (p x : Int) (cq : Array Value) (x1 x2 : Value) (hcq : cq.size = 6) (w : World) (h0 : Blk w N 38 cq) (h1 : Blk w (N + 1) 3 #[x1]) (h2 : Blk w (N + 2) 31 #[x2]) :
  CallsD Tryz.prog 106 #[.pointer (some ⟨N, 0, none⟩), .pointer (some ⟨N + 1, 0, none⟩), .pointer (some ⟨N + 2, 0, none⟩)] (.panicking [{ v := .iface 141 (.agg #[.int .i64 p, .int .i64 x]), recovered := false }]) w fun e u' w' =>
   e = .returned (.tuple #[]) ∧ u' = .panicking [{ v := .iface 141 (.agg #[.int .i64 p, .int .i64 x]), recovered := true }] ∧ Blk w' N 38 #[.int .i64 0, .int .i64 0, .string ⟨#[]⟩, .int .i64 0, .int .i64 0, .slice none 0 0] ∧ Blk w' (N + 1) 3 #[.int .i64 p] ∧ Blk w' (N + 2) 31 #[.int .i64 x] ∧ Below N w w' := by
 obtain ⟨y0, y1, y2, y3, y4, y5, rfl⟩ : ∃ y0 y1 y2 y3 y4 y5, cq = #[y0, y1, y2, y3, y4, y5] := by
  obtain ⟨l⟩ := cq
  match l, hcq with
  | [y0, y1, y2, y3, y4, y5], _ => exact ⟨y0, y1, y2, y3, y4, y5, rfl⟩
 refine callsD_of_wpS Tryz.func106 rfl fun c₀ cs hu => ?_
 apply wpS_seq
 apply wpS_region
 simp [wpOpsS, go_sem, recoverD, hu, Tryz.ntmps106, Exit.thenS, Array.replicate_succ]
 refine wpS_of_wp ?_
 have l2 := h2.lt
 have hta := assert_failureS
 go_wp2
 clear hta hcq hu
 obtain ⟨W0, hW0⟩ : ∃ W0, W0 = w.alloc (Obj.cells #[Value.int IntKind.i64 p, Value.int IntKind.i64 x] 141) := ⟨_, rfl⟩
 rw [← hW0]
 have h3b : Blk W0 w.heap.size 141 #[.int .i64 p, .int .i64 x] := by rw [hW0]; exact Blk.new _ _ _
 have hsz0 : W0.heap.size = w.heap.size + 1 := by rw [hW0]; simp
 obtain ⟨W, hW⟩ : ∃ W, W = W0.alloc (Obj.cells #[.int .i64 0, .int .i64 0, .string ⟨#[]⟩, .int .i64 0, .int .i64 0, .slice none 0 0] 38) := ⟨_, rfl⟩
 first
  | rw [← hW]
  | rw [show (w.heap.size + 1) = W0.heap.size from hsz0.symm, ← hW]
 have h0a : Blk W N 38 #[y0, y1, y2, y3, y4, y5] := by rw [hW, hW0]; exact (h0.alloc _).alloc _
 have h1a : Blk W (N + 1) 3 #[x1] := by rw [hW, hW0]; exact (h1.alloc _).alloc _
 have h2a : Blk W (N + 2) 31 #[x2] := by rw [hW, hW0]; exact (h2.alloc _).alloc _
 have h3a : Blk W w.heap.size 141 #[.int .i64 p, .int .i64 x] := by rw [hW]; exact h3b.alloc _
 have h4a : Blk W (w.heap.size + 1) 38 #[.int .i64 0, .int .i64 0, .string ⟨#[]⟩, .int .i64 0, .int .i64 0, .slice none 0 0] := by rw [hW]; exact Blk.new_at _ _ hsz0
 have hbel : Below N w W := by rw [hW, hW0]; exact ((Below.refl _ _).alloc (by omega) _).alloc (by simp; omega) _
 have c0 := h0a.cell 0
 have c1 := h0a.cell 1
 have c2 := h0a.cell 2
 have c3 := h0a.cell 3
 have c4 := h0a.cell 4
 have c5 := h0a.cell 5
 have e1 := h1a.cell 0; have e2 := h2a.cell 0
 have f0 := h0a.free 0
 have f1 := h0a.free 1
 have f2 := h0a.free 2
 have f3 := h0a.free 3
 have f4 := h0a.free 4
 have f5 := h0a.free 5
 have g1 := h1a.free 0; have g2 := h2a.free 0
 have k0 := h3a.cell 0; have k1 := h3a.cell 1
 have m0 := h4a.cell 0
 have m1 := h4a.cell 1
 have m2 := h4a.cell 2
 have m3 := h4a.cell 3
 have m4 := h4a.cell 4
 have m5 := h4a.cell 5
 have hne0 : w.heap.size ≠ N := by omega
 have hne1 : w.heap.size ≠ N + 1 := by omega
 have hne2 : w.heap.size ≠ N + 2 := by omega
 have hne3 : w.heap.size + 1 ≠ N := by omega
 simp at c0 c1 c2 c3 c4 c5 e1 e2 k0 k1 m0 m1 m2 m3 m4 m5
 have H0 := Lh h0a; have H1 := Lh h1a; have H2 := Lh h2a; have HB := Lh hbel
 clear hW hW0 h3b h0 h1 h2 h0a h1a h2a h3a h4a hbel
 have HFin : Hid (Blk ((((((((W.setCell ⟨N, 0, none⟩ (.int .i64 0)).setCell ⟨N, 1, none⟩ (.int .i64 0)).setCell ⟨N, 2, none⟩ (.string ⟨#[]⟩)).setCell ⟨N, 3, none⟩ (.int .i64 0)).setCell ⟨N, 4, none⟩ (.int .i64 0)).setCell ⟨N, 5, none⟩ (.slice none 0 0)).setCell ⟨N + 1, 0, none⟩ (.int .i64 p)).setCell ⟨N + 2, 0, none⟩ (.int .i64 x)).drew N 38 #[.int .i64 0, .int .i64 0, .string ⟨#[]⟩, .int .i64 0, .int .i64 0, .slice none 0 0] ∧ Blk ((((((((W.setCell ⟨N, 0, none⟩ (.int .i64 0)).setCell ⟨N, 1, none⟩ (.int .i64 0)).setCell ⟨N, 2, none⟩ (.string ⟨#[]⟩)).setCell ⟨N, 3, none⟩ (.int .i64 0)).setCell ⟨N, 4, none⟩ (.int .i64 0)).setCell ⟨N, 5, none⟩ (.slice none 0 0)).setCell ⟨N + 1, 0, none⟩ (.int .i64 p)).setCell ⟨N + 2, 0, none⟩ (.int .i64 x)).drew (N + 1) 3 #[.int .i64 p] ∧ Blk ((((((((W.setCell ⟨N, 0, none⟩ (.int .i64 0)).setCell ⟨N, 1, none⟩ (.int .i64 0)).setCell ⟨N, 2, none⟩ (.string ⟨#[]⟩)).setCell ⟨N, 3, none⟩ (.int .i64 0)).setCell ⟨N, 4, none⟩ (.int .i64 0)).setCell ⟨N, 5, none⟩ (.slice none 0 0)).setCell ⟨N + 1, 0, none⟩ (.int .i64 p)).setCell ⟨N + 2, 0, none⟩ (.int .i64 x)).drew (N + 2) 31 #[.int .i64 x] ∧ Below N w ((((((((W.setCell ⟨N, 0, none⟩ (.int .i64 0)).setCell ⟨N, 1, none⟩ (.int .i64 0)).setCell ⟨N, 2, none⟩ (.string ⟨#[]⟩)).setCell ⟨N, 3, none⟩ (.int .i64 0)).setCell ⟨N, 4, none⟩ (.int .i64 0)).setCell ⟨N, 5, none⟩ (.slice none 0 0)).setCell ⟨N + 1, 0, none⟩ (.int .i64 p)).setCell ⟨N + 2, 0, none⟩ (.int .i64 x)).drew) := Lh (by
  refine ⟨?_, ?_, ?_, ?_⟩
  ·have := (((((((((H0.out).set 0 (.int .i64 0)).set 1 (.int .i64 0)).set 2 (.string ⟨#[]⟩)).set 3 (.int .i64 0)).set 4 (.int .i64 0)).set 5 (.slice none 0 0)).far (p := ⟨N + 1, 0, none⟩) (by simp) (.int .i64 p)).far (p := ⟨N + 2, 0, none⟩) (by simp) (.int .i64 x)).drew
   simpa using this
  ·have := (((((((((H1.out).far (p := ⟨N, 0, none⟩) (by simp) (.int .i64 0)).far (p := ⟨N, 1, none⟩) (by simp) (.int .i64 0)).far (p := ⟨N, 2, none⟩) (by simp) (.string ⟨#[]⟩)).far (p := ⟨N, 3, none⟩) (by simp) (.int .i64 0)).far (p := ⟨N, 4, none⟩) (by simp) (.int .i64 0)).far (p := ⟨N, 5, none⟩) (by simp) (.slice none 0 0)).set 0 (.int .i64 p)).far (p := ⟨N + 2, 0, none⟩) (by simp) (.int .i64 x)).drew
   simpa using this
  ·have := (((((((((H2.out).far (p := ⟨N, 0, none⟩) (by simp) (.int .i64 0)).far (p := ⟨N, 1, none⟩) (by simp) (.int .i64 0)).far (p := ⟨N, 2, none⟩) (by simp) (.string ⟨#[]⟩)).far (p := ⟨N, 3, none⟩) (by simp) (.int .i64 0)).far (p := ⟨N, 4, none⟩) (by simp) (.int .i64 0)).far (p := ⟨N, 5, none⟩) (by simp) (.slice none 0 0)).far (p := ⟨N + 1, 0, none⟩) (by simp) (.int .i64 p)).set 0 (.int .i64 x)).drew
   simpa using this
  ·exact (((((((((HB.out).setCell (p := ⟨N, 0, none⟩) (Nat.le_refl _) _).setCell (p := ⟨N, 1, none⟩) (Nat.le_refl _) _).setCell (p := ⟨N, 2, none⟩) (Nat.le_refl _) _).setCell (p := ⟨N, 3, none⟩) (Nat.le_refl _) _).setCell (p := ⟨N, 4, none⟩) (Nat.le_refl _) _).setCell (p := ⟨N, 5, none⟩) (Nat.le_refl _) _).setCell (p := ⟨N + 1, 0, none⟩) (show N ≤ N + 1 by omega) _).setCell (p := ⟨N + 2, 0, none⟩) (show N ≤ N + 2 by omega) _).drew)
 go_region
 all_goals exact ⟨rfl, _, rfl, .tuple #[], by simp [results, Tryz.results106], rfl, rfl, HFin.out⟩

end Go.Proofs.YtjonaidancomgaaGreatDoor

namespace Go.Proofs.YtjonaidancomgaaGreatDoor
open Go.RowKit

theorem tok_cut {w : World} {B b o g : Nat} {t : Lx.Tok} {r : List Lx.Tok} (hT : Toks w B (some ⟨b, o, none⟩) (t :: r)) (hBg : B ≤ g) (u : Value) (b1 o1 : Nat) (h : r ≠ [] → b1 = b ∧ o1 = o + 4) : Toks (w.setCell ⟨g, 0, none⟩ u) B (some ⟨b1, o1, none⟩) r :=
 ⟨fun j y hj => by
  have hr : r ≠ [] := by intro e; rw [e] at hj; simp at hj
  obtain ⟨rfl, rfl⟩ := h hr
  obtain ⟨b2, o2, e2, hb2, h4⟩ := hT.at_ (j + 1) y (by simpa using hj)
  injection e2 with e2
  injection e2 with e3 e4
  subst e3; subst e4
  refine ⟨_, _, rfl, hb2, ?_⟩
  rw [show o + 4 + j * 4 = o + (j + 1) * 4 by omega]
  exact h4.cells fun i => (FrG.set g 0 w u).bel.cell (p := ⟨b1, i, none⟩) (show b1 < g by omega), by have := hT.len; simp only [List.length_cons] at this; omega, fun y hy => hT.texts y (List.mem_cons_of_mem _ hy)⟩
theorem ps_cut {g B b o : Nat} {last : Int} {t : Lx.Tok} {r : List Lx.Tok} {w : World} {v0 : Value} (hb : Blk w g 143 #[v0, .int .i64 last]) (hT : Toks w B (some ⟨b, o, none⟩) (t :: r)) (hB : B ≤ g) (b1 o1 c1 : Nat) (h1 : r ≠ [] → b1 = b ∧ o1 = o + 4) (hc : r.length ≤ c1) :
  PS g B last r (w.setCell ⟨g, 0, none⟩ (.slice (some ⟨b1, o1, none⟩) r.length c1)) ∧ FrG g w (w.setCell ⟨g, 0, none⟩ (.slice (some ⟨b1, o1, none⟩) r.length c1)) :=
 ⟨⟨⟨_, _, by have := hb.set 0 (.slice (some ⟨b1, o1, none⟩) r.length c1); simpa using this, tok_cut hT hB _ _ _ h1, hc⟩, hB⟩, FrG.set g 0 w _⟩

def SkipPost (g B : Nat) (last : Int) (hit : Bool) (l : List Lx.Tok) (w : World) (e : Ending) (w' : World) : Prop := e = .returned (.bool hit) ∧ PS g B last (if hit then l.tail else l) w' ∧ FrG g w w'
set_option maxHeartbeats 1000000 in
theorem sSkip (g B : Nat) (l : List Lx.Tok) (last k : Int) (x : ByteArray) (w : World) (h : PS g B last l w) :
  Calls Tryz.prog 173 #[.pointer (some ⟨g, 0, none⟩), .int .i64 k, .string x] w (SkipPost g B last (Sx.hit k x.data.toList l) l w) := by
 have H := Lh h
 have Hn := Lh (sNext g B l last k x w h)
 cases hh : Sx.hit k x.data.toList l with
 | false =>
  rw [hh] at Hn
  clear h hh
  go_enter Tryz.func173, Tryz.ntmps173
  go_wp2_with fail
  refine Hn.out.mono ?_
  rintro e w1 ⟨rfl, rfl⟩
  go_wp2_with fail
  go_ret
  exact ⟨rfl, H.out, FrG.refl _ _⟩
 | true =>
  rw [hh] at Hn
  obtain ⟨⟨A, c, hb, hT, hcap⟩, hB⟩ := h
  cases l with
  | nil => cases hh
  | cons t r =>
   obtain ⟨b, o, rfl, hbB, -⟩ := hT.at_ 0 t rfl
   have hl := hT.len
   simp only [List.length_cons] at hl hcap
   have c0 := hb.cell 0; have f0 := hb.free 0
   simp at c0
   have Hc := Lh (fun b1 o1 c1 h1 hc => ps_cut hb hT hB b1 o1 c1 h1 hc)
   clear hb hT hh
   go_enter Tryz.func173, Tryz.ntmps173
   go_wp2_with fail
   refine Hn.out.mono ?_
   rintro e w1 ⟨rfl, rfl⟩
   go_wp2_with fail
   ·have hr : r = [] := List.eq_nil_of_length_eq_zero (by omega)
    go_ret
    have := Hc.out b o 0 (fun h => absurd hr h) (by rw [hr]; exact Nat.le_refl 0)
    exact ⟨rfl, by simpa using this.1, by simpa using this.2⟩
   ·go_ret
    have := Hc.out b (o + 4) (c - 1) (fun _ => ⟨rfl, rfl⟩) (by omega)
    exact ⟨rfl, by simpa using this.1, by simpa using this.2⟩
theorem sIsWord (g B : Nat) (l : List Lx.Tok) (last : Int) (x : ByteArray) (w : World) (h : PS g B last l w) :
  Calls Tryz.prog 159 #[.pointer (some ⟨g, 0, none⟩), .string x] w (SkipPost g B last (Sx.hit 1 x.data.toList l) l w) := by
 have Hs := Lh (sSkip g B l last 1 x w h)
 clear h
 go_enter Tryz.func159, Tryz.ntmps159
 go_wp2_with fail
 refine Hs.out.mono ?_
 rintro e w1 ⟨rfl, h1, h2⟩
 have H1 := Lh h1; have H2 := Lh h2
 clear h1 h2
 go_wp2_with fail
 go_ret
 exact ⟨rfl, H1.out, H2.out⟩
theorem sIsSign (g B : Nat) (l : List Lx.Tok) (last : Int) (x : ByteArray) (w : World) (h : PS g B last l w) :
  Calls Tryz.prog 112 #[.pointer (some ⟨g, 0, none⟩), .string x] w (SkipPost g B last (Sx.hit 3 x.data.toList l) l w) := by
 have Hs := Lh (sSkip g B l last 3 x w h)
 clear h
 go_enter Tryz.func112, Tryz.ntmps112
 go_wp2_with fail
 refine Hs.out.mono ?_
 rintro e w1 ⟨rfl, h1, h2⟩
 have H1 := Lh h1; have H2 := Lh h2
 clear h1 h2
 go_wp2_with fail
 go_ret
 exact ⟨rfl, H1.out, H2.out⟩

theorem sWord (g B : Nat) (l : List Lx.Tok) (last : Int) (x : ByteArray) (w : World) (h : PS g B last l w) :
  Calls Tryz.prog 161 #[.pointer (some ⟨g, 0, none⟩), .string x] w (SPar g B last w vUnit (Sx.word last x.data.toList l)) := by
 have Hs := Lh (sIsWord g B l last x w h)
 obtain ⟨R, hR⟩ : ∃ R, R = Sx.word last x.data.toList l := ⟨_, rfl⟩
 rw [← hR]
 unfold Sx.word Sx.need at hR
 clear h
 cases hh : Sx.hit 1 x.data.toList l with
 | true =>
  rw [hh, if_pos rfl] at hR
  rw [hh] at Hs
  have HR := Lh hR
  clear hR hh
  go_enter Tryz.func161, Tryz.ntmps161
  go_wp2_with fail
  refine Hs.out.mono ?_
  rintro e w1 ⟨rfl, h1, h2⟩
  have H1 := Lh h1; have H2 := Lh h2
  clear h1 h2
  go_wp2_with fail
  go_end0
  rw [HR.out]
  exact ⟨_, rfl, rfl, H1.out, H2.out⟩
 | false =>
  rw [hh, if_neg (by simp)] at hR
  rw [hh] at Hs
  have HR := Lh hR
  clear hR hh
  go_enter Tryz.func161, Tryz.ntmps161
  go_wp2_with fail
  refine Hs.out.mono ?_
  rintro e w1 ⟨rfl, h1, h2⟩
  have H2 := Lh h2
  have Hf := Lh (sFail g B l last 100 w1 h1)
  clear h1 h2
  go_wp2_with fail
  refine Hf.out.mono ?_
  rintro e w2 ⟨he, rfl⟩
  unfold FailS at he
  subst he
  exact ⟨rfl, by rw [HR.out]; exact ⟨rfl, H2.out⟩⟩
theorem sSign (g B : Nat) (l : List Lx.Tok) (last : Int) (c : UInt8) (w : World) (h : PS g B last l w) :
  Calls Tryz.prog 111 #[.pointer (some ⟨g, 0, none⟩), .string ⟨#[c]⟩] w (SPar g B last w vUnit (Sx.sign last c l)) := by
 have Hs := Lh (sIsSign g B l last ⟨#[c]⟩ w h)
 obtain ⟨R, hR⟩ : ∃ R, R = Sx.sign last c l := ⟨_, rfl⟩
 rw [← hR]
 unfold Sx.sign Sx.need at hR
 clear h
 rw [show (⟨#[c]⟩ : ByteArray).data.toList = [c] from rfl] at Hs
 cases hh : Sx.hit 3 [c] l with
 | true =>
  rw [hh, if_pos rfl] at hR
  rw [hh] at Hs
  have HR := Lh hR
  clear hR hh
  go_enter Tryz.func111, Tryz.ntmps111
  go_wp2_with fail
  refine Hs.out.mono ?_
  rintro e w1 ⟨rfl, h1, h2⟩
  have H1 := Lh h1; have H2 := Lh h2
  clear h1 h2
  go_wp2_with fail
  go_end0
  rw [HR.out]
  exact ⟨_, rfl, rfl, H1.out, H2.out⟩
 | false =>
  rw [hh, if_neg (by simp)] at hR
  rw [hh] at Hs
  have HR := Lh hR
  clear hR hh
  go_enter Tryz.func111, Tryz.ntmps111
  go_wp2_with fail
  refine Hs.out.mono ?_
  rintro e w1 ⟨rfl, h1, h2⟩
  have H2 := Lh h2
  have Hf := Lh (sFail g B l last 100 w1 h1)
  clear h1 h2
  go_wp2_with fail
  refine Hf.out.mono ?_
  rintro e w2 ⟨he, rfl⟩
  unfold FailS at he
  subst he
  exact ⟨rfl, by rw [HR.out]; exact ⟨rfl, H2.out⟩⟩
end Go.Proofs.YtjonaidancomgaaGreatDoor

namespace Go.Proofs.YtjonaidancomgaaGreatDoor
open Go.RowKit

set_option maxHeartbeats 1000000 in
theorem sName (g B : Nat) (l : List Lx.Tok) (last : Int) (w : World) (h : PS g B last l w) :
  Calls Tryz.prog 157 #[.pointer (some ⟨g, 0, none⟩)] w (SPar g B last w vStr (Sx.name last l)) := by
 have Hf := Lh (sFail g B l last 100 w h)
 obtain ⟨R, hR⟩ : ∃ R, R = Sx.name last l := ⟨_, rfl⟩
 rw [← hR]
 obtain ⟨⟨A, c, hb, hT, hcap⟩, hB⟩ := h
 have c0 := hb.cell 0; have f0 := hb.free 0
 simp at c0
 cases l with
 | nil =>
  have HR : Hid (R = .bad (Sx.front last []) 100) := Lh hR
  clear hb hT hR
  go_enter Tryz.func157, Tryz.ntmps157
  go_wp2_with fail
  refine Hf.out.mono ?_
  rintro e w2 ⟨he, rfl⟩
  unfold FailS at he
  subst he
  exact ⟨rfl, by rw [HR.out]; exact ⟨rfl, FrG.refl _ _⟩⟩
 | cons t r =>
  obtain ⟨b, o, rfl, hbB, q0, q1, q2, q3⟩ := hT.at_ 0 t rfl
  have hl := hT.len
  simp only [List.length_cons] at hl hcap c0
  simp only [Nat.zero_mul, Nat.add_zero] at q0 q1 q2 q3
  have hr0 : ((r.length : Int) + 1 == 0) = false := by simp; omega
  have hbg : b ≠ g := by omega
  have htx := hT.texts t (by simp)
  have Hc := Lh (fun b1 o1 c1 h1 hc => ps_cut hb hT hB b1 o1 c1 h1 hc)
  clear hb hT
  cases hk : t.kind != 1
  ·have HR : Hid (R = .ok t.text r) := Lh (by rw [hR]; unfold Sx.name; simp only; rw [if_pos (by simpa using hk)])
   clear hR
   go_enter Tryz.func157, Tryz.ntmps157
   go_wp2_with fail
   ·have hr : r = [] := List.eq_nil_of_length_eq_zero (by omega)
    go_ret
    rw [HR.out]
    have := Hc.out b o 0 (fun h => absurd hr h) (by rw [hr]; exact Nat.le_refl 0)
    exact ⟨_, rfl, ⟨rfl, htx⟩, by simpa using this.1, by simpa using this.2⟩
   ·go_ret
    rw [HR.out]
    have := Hc.out b (o + 4) (c - 1) (fun _ => ⟨rfl, rfl⟩) (by omega)
    exact ⟨_, rfl, ⟨rfl, htx⟩, by simpa using this.1, by simpa using this.2⟩
  ·have HR : Hid (R = .bad (Sx.front last (t :: r)) 100) := Lh (by rw [hR]; unfold Sx.name; simp only; rw [if_neg (by simpa using hk)]; rfl)
   clear hR
   go_enter Tryz.func157, Tryz.ntmps157
   go_wp2_with fail
   refine Hf.out.mono ?_
   rintro e w2 ⟨he, rfl⟩
   unfold FailS at he
   subst he
   exact ⟨rfl, by rw [HR.out]; exact ⟨rfl, FrG.refl _ _⟩⟩

set_option maxHeartbeats 1000000 in
theorem sNumber (g B : Nat) (l : List Lx.Tok) (last lo hi : Int) (w : World) (h : PS g B last l w) :
  Calls Tryz.prog 109 #[.pointer (some ⟨g, 0, none⟩), .int .i64 lo, .int .i64 hi] w (SPar g B last w vInt (Sx.number last lo hi l)) := by
 have Hf := Lh (sFail g B l last 100 w h)
 obtain ⟨R, hR⟩ : ∃ R, R = Sx.number last lo hi l := ⟨_, rfl⟩
 rw [← hR]
 obtain ⟨⟨A, c, hb, hT, hcap⟩, hB⟩ := h
 have c0 := hb.cell 0; have f0 := hb.free 0
 simp at c0
 cases l with
 | nil =>
  have HR : Hid (R = .bad (Sx.front last []) 100) := Lh hR
  clear hb hT hR
  go_enter Tryz.func109, Tryz.ntmps109
  go_wp2_with fail
  refine Hf.out.mono ?_
  rintro e w2 ⟨he, rfl⟩
  unfold FailS at he
  subst he
  exact ⟨rfl, by rw [HR.out]; exact ⟨rfl, FrG.refl _ _⟩⟩
 | cons t r =>
  obtain ⟨b, o, rfl, hbB, q0, q1, q2, q3⟩ := hT.at_ 0 t rfl
  have hl := hT.len
  simp only [List.length_cons] at hl hcap c0
  simp only [Nat.zero_mul, Nat.add_zero] at q0 q1 q2 q3
  have hr0 : ((r.length : Int) + 1 == 0) = false := by simp; omega
  have hbg : b ≠ g := by omega
  have Hc := Lh (fun b1 o1 c1 h1 hc => ps_cut hb hT hB b1 o1 c1 h1 hc)
  clear hb hT
  by_cases hk : t.kind = 2 ∧ lo ≤ t.n ∧ t.n ≤ hi
  ·have HR : Hid (R = .ok t.n r) := Lh (by rw [hR]; unfold Sx.number; simp only; rw [if_pos hk])
   obtain ⟨hk1, hk2, hk3⟩ := hk
   have hk4 : (t.kind != 2) = false := by simp [hk1]
   clear hR hk1
   go_enter Tryz.func109, Tryz.ntmps109
   go_wp2_with fail
   ·have hr : r = [] := List.eq_nil_of_length_eq_zero (by omega)
    go_ret
    rw [HR.out]
    have := Hc.out b o 0 (fun h => absurd hr h) (by rw [hr]; exact Nat.le_refl 0)
    exact ⟨_, rfl, rfl, by simpa using this.1, by simpa using this.2⟩
   ·go_ret
    rw [HR.out]
    have := Hc.out b (o + 4) (c - 1) (fun _ => ⟨rfl, rfl⟩) (by omega)
    exact ⟨_, rfl, rfl, by simpa using this.1, by simpa using this.2⟩
  ·have HR : Hid (R = .bad (Sx.front last (t :: r)) 100) := Lh (by rw [hR]; unfold Sx.number; simp only; rw [if_neg hk]; rfl)
   clear hR
   cases hk4 : t.kind != 2 with
   | true =>
    clear hk
    go_enter Tryz.func109, Tryz.ntmps109
    go_wp2_with fail
    refine Hf.out.mono ?_
    rintro e w2 ⟨he, rfl⟩
    unfold FailS at he
    subst he
    exact ⟨rfl, by rw [HR.out]; exact ⟨rfl, FrG.refl _ _⟩⟩
   | false =>
    have hk5 : t.kind = 2 := by simpa using hk4
    by_cases hlo : t.n < lo
    ·clear hk hk5
     go_enter Tryz.func109, Tryz.ntmps109
     go_wp2_with fail
     refine Hf.out.mono ?_
     rintro e w2 ⟨he, rfl⟩
     unfold FailS at he
     subst he
     exact ⟨rfl, by rw [HR.out]; exact ⟨rfl, FrG.refl _ _⟩⟩
    ·have hhi : hi < t.n := by
      rcases Int.lt_or_le hi t.n with h | h
      ·exact h
      ·exact absurd ⟨hk5, by omega, h⟩ hk
     have hlo2 : lo ≤ t.n := by omega
     clear hk hk5 hlo
     go_enter Tryz.func109, Tryz.ntmps109
     go_wp2_with fail
     refine Hf.out.mono ?_
     rintro e w2 ⟨he, rfl⟩
     unfold FailS at he
     subst he
     exact ⟨rfl, by rw [HR.out]; exact ⟨rfl, FrG.refl _ _⟩⟩
end Go.Proofs.YtjonaidancomgaaGreatDoor

namespace Go.Proofs.YtjonaidancomgaaGreatDoor
open Go.RowKit

theorem u64_neg (n : Int) (h1 : -1073741824 ≤ n) (h : n < 0) : IntKind.u64.wrap (-IntKind.u64.wrap n) = (n.natAbs : Nat) := by
 unfold IntKind.wrap
 simp only [show IntKind.u64.signed = false from rfl, show IntKind.u64.bits = 64 from rfl, Bool.false_and, Bool.false_eq_true, if_false]
 omega
theorem sSize (n : Int) (h1 : -1073741824 ≤ n) (h2 : n ≤ 1073741824) (w : World) : Calls Tryz.prog 203 #[.int .i64 n] w fun e w' => e = .returned (.int .u64 (n.natAbs : Nat)) ∧ w' = w := by
 by_cases h : n < 0
 ·go_enter Tryz.func203, Tryz.ntmps203
  go_wp2
  go_ret
  exact ⟨ret_int (u64_neg n h1 h), rfl⟩
 ·go_enter Tryz.func203, Tryz.ntmps203
  go_wp2
  go_ret
  exact ⟨ret_int (by omega), rfl⟩
def stepF (sb : Nat) : Value := .func (.func 222) #[] #[.pointer (some ⟨sb, 0, none⟩)]
theorem sStep (sb : Nat) : ∀ (k : Nat) (x y : Nat) (w : World), y ≤ k → x ≤ 1073741824 → y ≤ 1073741824 → w.cell? ⟨sb, 0, none⟩ = some (stepF sb) →
  Calls Tryz.prog 222 #[.int .u64 x, .int .u64 y, .pointer (some ⟨sb, 0, none⟩)] w fun e w' => e = .returned (.int .u64 (Nat.gcd x y : Nat)) ∧ ∃ n, w' = w.drewN n := by
 intro k
 induction k with
 | zero =>
  intro x y w hy _ _ hc
  obtain rfl : y = 0 := by omega
  clear hc
  go_enter Tryz.func222, Tryz.ntmps222
  go_wp2_with fail
  go_ret
  exact ⟨by simp, 0, rfl⟩
 | succ k ih =>
  intro x y w hy hx hy2 hc
  by_cases h0 : y = 0
  ·subst h0
   clear hc
   go_enter Tryz.func222, Tryz.ntmps222
   go_wp2_with fail
   go_ret
   exact ⟨by simp, 0, rfl⟩
  ·have hm : x % y < y := Nat.mod_lt _ (by omega)
   have hy0 : ((y : Int) == 0) = false := by simp; omega
   have hg : Nat.gcd y (x % y) = Nat.gcd x y := by rw [Nat.gcd_comm x y, Nat.gcd_rec y x, Nat.gcd_comm]
   have Hrec := Lh (fun n => ih y (x % y) (w.drewN n) (by omega) hy2 (by omega) hc)
   rw [hg] at Hrec
   have hy1 : 1 ≤ y := by omega
   unfold stepF at hc
   clear hg h0 ih
   go_enter Tryz.func222, Tryz.ntmps222
   go_wp2_with fail
   go_quiet ((go_at_call 222; exact Calls.quiet_of (Hrec.out _)))
   go_wp2_with fail
   go_ret
   exact ⟨rfl, _, rfl⟩
set_option maxRecDepth 20000 in
set_option maxHeartbeats 1000000 in
theorem sCommon (a b : Int) (h1 : -1073741824 ≤ a) (h2 : a ≤ 1073741824) (h3 : -1073741824 ≤ b) (h4 : b ≤ 1073741824) (w : World) :
  Calls Tryz.prog 202 #[.int .i64 a, .int .i64 b] w fun e w' => e = .returned (.int .u64 (Int.gcd a b : Nat)) ∧ Below w.heap.size w w' := by
 have Hs := Lh (fun (W : World) (hc : W.cell? ⟨w.heap.size, 0, none⟩ = some (stepF w.heap.size)) => sStep w.heap.size b.natAbs a.natAbs b.natAbs W (Nat.le_refl _) (by omega) (by omega) hc)
 have hg : Nat.gcd a.natAbs b.natAbs = Int.gcd a b := rfl
 rw [hg] at Hs
 clear hg
 go_enter Tryz.func202, Tryz.ntmps202
 go_wp2_with fail
 go_quiet (first
  | (go_at_call 203; exact Calls.quiet_of_same (sSize _ (by assumption) (by assumption) _))
  | (go_at_call 222; exact Calls.quiet_of (Hs.out _ (by simp [stepF]))))
 go_wp2_with fail
 go_ret
 exact ⟨rfl, bel_drewN ((Below.refl _ _).alloc (Nat.le_refl _) _) _⟩
theorem sSizeN (n : Nat) (h2 : n ≤ 1073741824) (w : World) : Calls Tryz.prog 203 #[.int .i64 n] w fun e w' => e = .returned (.int .u64 n) ∧ w' = w := sSize n (by omega) (by omega) w
theorem sCommonN (a b : Nat) (h2 : a ≤ 1073741824) (h4 : b ≤ 1073741824) (w : World) :
  Calls Tryz.prog 202 #[.int .i64 a, .int .i64 b] w fun e w' => e = .returned (.int .u64 (Nat.gcd a b : Nat)) ∧ Below w.heap.size w w' := sCommon a b (by omega) (by omega) (by omega) (by omega) w

def NewPost (n d : Nat) (w : World) (e : Ending) (w' : World) : Prop := e = .returned (.tuple #[.agg #[.int .i64 (Sx.lowest n d).num, .int .i64 (Sx.lowest n d).den], .int .i64 0]) ∧ Below w.heap.size w w'
set_option maxRecDepth 20000 in
set_option maxHeartbeats 1000000 in
theorem sNew (n d : Nat) (h1 : n ≤ 12000) (h2 : 1 ≤ d) (h3 : d ≤ 1000) (w : World) : Calls Tryz.prog 172 #[.int .i64 n, .int .i64 d] w (NewPost n d w) := by
 have hg1 : 1 ≤ Nat.gcd n d := Nat.gcd_pos_of_pos_right n (by omega)
 have hq1 : n / Nat.gcd n d ≤ n := Nat.div_le_self _ _
 have hq2 : d / Nat.gcd n d ≤ d := Nat.div_le_self _ _
 have hlow : Sx.lowest n d = ⟨((n / Nat.gcd n d : Nat) : Int), ((d / Nat.gcd n d : Nat) : Int)⟩ := by
  unfold Sx.lowest
  rw [show Int.gcd (n : Int) (d : Int) = Nat.gcd n d from rfl]
  simp
 have Hl := Lh hlow
 have Hc := Lh (fun W => sCommonN n d (by omega) (by omega) W)
 obtain ⟨g, hg⟩ : ∃ g, g = Nat.gcd n d := ⟨_, rfl⟩
 rw [← hg] at hg1 hq1 hq2 Hl Hc
 have hgd : g ≤ 1000 := by rw [hg]; exact Nat.le_trans (Nat.gcd_le_right n (by omega)) h3
 have hd0 : ((d : Int) == 0) = false := by simp; omega
 have hg0 : ((g : Int) == 0) = false := by simp; omega
 obtain ⟨q, hq⟩ : ∃ q, q = n / g := ⟨_, rfl⟩
 obtain ⟨r, hr⟩ : ∃ r, r = d / g := ⟨_, rfl⟩
 have e1 : (n : Int) / (g : Int) = (q : Int) := by rw [hq]; rfl
 have e2 : (d : Int) / (g : Int) = (r : Int) := by rw [hr]; rfl
 rw [← hq] at hq1 Hl
 rw [← hr] at hq2 Hl
 clear hlow hg hq hr
 have hn2 : n ≤ 1073741824 := by omega
 have hd2 : d ≤ 1073741824 := by omega
 go_enter Tryz.func172, Tryz.ntmps172
 go_wp2_with fail
 refine (Hc.out _).mono ?_
 rintro e w1 ⟨rfl, hb⟩
 have hx := (Blk.new w 75 #[.int .i64 0, .int .i64 0]).below hb (by simp)
 have hbel := ((Below.refl w.heap.size w).alloc (Nat.le_refl _) (.cells #[.int .i64 0, .int .i64 0] 75)).trans (hb.mono (by simp))
 have x0 := hx.cell 0; have x1 := hx.cell 1; have f0 := hx.free 0; have f1 := hx.free 1
 simp at x0 x1
 have Hbel := Lh hbel; have Hx := Lh hx
 clear hb hx hbel
 go_wp2_with fail
 go_quiet ((go_at_call 203; exact Calls.quiet_of_same (sSizeN _ (by assumption) _)))
 go_wp2_with fail
 obtain ⟨W, hW⟩ : ∃ W, W = ((((w1.drewN nq).setCell ⟨w.heap.size, 0, none⟩ (.int .i64 q)).setCell ⟨w.heap.size, 1, none⟩ (.int .i64 r)).setCell ⟨w.heap.size, 0, none⟩ (.int .i64 q)).setCell ⟨w.heap.size, 1, none⟩ (.int .i64 r) := ⟨_, rfl⟩
 have hB : Blk W w.heap.size 75 #[.int .i64 q, .int .i64 r] := by
  rw [hW]
  have := ((((Hx.out.drewN nq).set 0 (.int .i64 q)).set 1 (.int .i64 r)).set 0 (.int .i64 q)).set 1 (.int .i64 r)
  simpa using this
 have d0 := hB.cell 0; have d1 := hB.cell 1
 simp at d0 d1
 have hb := bel_drewN Hbel.out nq
 have hbW : Below w.heap.size w W := by
  rw [hW]
  exact (((hb.setCell (p := ⟨w.heap.size, 0, none⟩) (Nat.le_refl _) _).setCell (p := ⟨w.heap.size, 1, none⟩) (Nat.le_refl _) _).setCell (p := ⟨w.heap.size, 0, none⟩) (Nat.le_refl _) _).setCell (p := ⟨w.heap.size, 1, none⟩) (Nat.le_refl _) _
 rw [← hW]
 clear hW
 exact bodyPost_ret (v := .tuple #[.agg #[.int .i64 q, .int .i64 r], .int .i64 0]) (by simp [results, Tryz.results172, go_sem, d0, d1]) rfl ⟨by rw [Hl.out], hbW⟩
end Go.Proofs.YtjonaidancomgaaGreatDoor
