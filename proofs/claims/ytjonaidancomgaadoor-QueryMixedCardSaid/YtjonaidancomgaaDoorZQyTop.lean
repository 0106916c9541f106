/- Parts of the proof, joined into one text: QyTop. -/
import Derived.Test.YtjonaidancomgaaDoorZQySame
import Derived.Test.YtjonaidancomgaaDoorZQyApp
import Derived.Test.YtjonaidancomgaaDoorZQyFin
import Derived.StillTailTactics

namespace Go.Proofs.YtjonaidancomgaaDoor
open Go.RowKit Go.Maps Go.WideMaps
attribute [local go_sem] Oper.semAt_some

def nilQ : Value := .agg #[.slice none 0 0, .slice none 0 0, .slice none 0 0, .slice none 0 0]
/-- What Parse returns. -/
def ParsePost (s : List UInt8) (w : World) (e : Ending) (w' : World) : Prop :=
  Below w.heap.size w w' ∧ match Qy.parse s with
    | .ok q => ∃ v, e = .returned (.tuple #[v, .int .i64 0, .int .i64 0]) ∧ QAt w' w'.heap.size v q
    | .bad p x => e = .returned (.tuple #[nilQ, .int .i64 p, .int .i64 x])
def parseDefer (w : World) : List Deferred := [{ target := .fn (.func 24) #[.pointer (some ⟨w.heap.size, 0, none⟩), .pointer (some ⟨w.heap.size + 1, 0, none⟩), .pointer (some ⟨w.heap.size + 1 + 1, 0, none⟩)], args := #[] }]

/-- A statement ends in one frame and one world. -/
def CutAt (A : Act) (W : World) : Exit → Act → World → Prop
  | .normal, a, w => a = A ∧ w = W
  | _, _, _ => False
theorem wp_cut {P : Program} {c : Code} {Q : Exit → Act → World → Prop} {a : Act} {w : World} (A : Act) (W : World) (h : c.wp P (CutAt A W) a w) (k : Q .normal A W) : c.wp P Q a w :=
  Code.wp_mono (fun e a' w' hc => by
    cases e with
    | normal => obtain ⟨rfl, rfl⟩ := hc; exact k
    | _ => exact hc.elim) h
theorem wpIn_cut {P : Program} {F : Fence} {n : Nat} {c : Code} {Q : Exit → Act → World → Prop} {a : Act} {w : World} (A : Act) (W : World) (h : c.wpIn F n P (CutAt A W) a w) (k : Q .normal A W) : c.wpIn F n P Q a w :=
  wpIn_mono h (fun e a' w' hc => by
    cases e with
    | normal => obtain ⟨rfl, rfl⟩ := hc; exact k
    | _ => exact hc.elim)
/-- Parse ends by the parser's own failure. -/
theorem parse_failed (s : List UInt8) (w w1 : World) (p x : Int) (cq : Array Value) (hcq : cq.size = 4) (x1 x2 : Value) (tmps : Array Value) (h2 : tmps[2]? = some (.pointer (some ⟨w.heap.size, 0, none⟩))) (h3 : tmps[3]? = some (.pointer (some ⟨w.heap.size + 1, 0, none⟩))) (h4 : tmps[4]? = some (.pointer (some ⟨w.heap.size + 1 + 1, 0, none⟩)))
    (q0 : Blk w1 w.heap.size 27 cq) (q1 : Blk w1 (w.heap.size + 1) 3 #[x1]) (q2 : Blk w1 (w.heap.size + 1 + 1) 31 #[x2]) (hbel : Below w.heap.size w w1) (hp : Qy.parse s = .bad p x) (n : Nat) :
    LeavesInM Fence.wide n Tryd.prog Tryd.f8 tmps (ParsePost s w) (parseDefer w) (.panicking [{ v := .iface 70 (.agg #[.int .i64 p, .int .i64 x]), recovered := false }]) w1 := by
  refine ⟨by simp, .inr ⟨fun h => (by cases h), _, _, 24, #[.pointer (some ⟨w.heap.size, 0, none⟩), .pointer (some ⟨w.heap.size + 1, 0, none⟩), .pointer (some ⟨w.heap.size + 1 + 1, 0, none⟩)], rfl, by simp [go_sem], fun _ _ => trivial, ?_⟩⟩
  obtain ⟨hF, hC⟩ := qCatch (n - 1) w.heap.size p x cq x1 x2 hcq w1 q0 q1 q2
  refine ⟨hF, fun c cs hc hroom => ?_⟩
  obtain ⟨e, u', w2, fr, ⟨rfl, rfl, r0, r1, r2, hb⟩, hrest⟩ := hC c cs hc hroom
  refine ⟨_, _, w2, fr, ?_, hrest⟩
  have c0 := r0.cell 0; have c1 := r0.cell 1; have c2 := r0.cell 2; have c3 := r0.cell 3; have d1 := r1.cell 0; have d2 := r2.cell 0
  simp at c0 c1 c2 c3 d1 d2
  refine ⟨.tuple #[nilQ, .int .i64 p, .int .i64 x], ?_, hbel.trans hb, ?_⟩
  · simp [results, Tryd.results8, go_sem, h2, h3, h4, c0, c1, c2, c3, d1, d2, nilQ]
  · rw [hp]
/-- Parse ends early: its results are stored once more. -/
theorem parse_early (s : List UInt8) (w w3 : World) (p x : Int) (tmps : Array Value) (h2 : tmps[2]? = some (.pointer (some ⟨w.heap.size, 0, none⟩))) (h3 : tmps[3]? = some (.pointer (some ⟨w.heap.size + 1, 0, none⟩))) (h4 : tmps[4]? = some (.pointer (some ⟨w.heap.size + 1 + 1, 0, none⟩)))
    (q0 : Blk w3 w.heap.size 27 #[.slice none 0 0, .slice none 0 0, .slice none 0 0, .slice none 0 0]) (q1 : Blk w3 (w.heap.size + 1) 3 #[.int .i64 p]) (q2 : Blk w3 (w.heap.size + 1 + 1) 31 #[.int .i64 x]) (hbel : Below w.heap.size w w3) (hp : Qy.parse s = .bad p x) :
    bodyPostM Fence.wide 3 Tryd.prog Tryd.f8 (ParsePost s w) .ret { tmps := tmps, defers := [] }
      ((((((w3.setCell ⟨w.heap.size, 0, none⟩ (.slice none 0 0)).setCell ⟨w.heap.size, 1, none⟩ (.slice none 0 0)).setCell ⟨w.heap.size, 2, none⟩ (.slice none 0 0)).setCell ⟨w.heap.size, 3, none⟩ (.slice none 0 0)).setCell ⟨w.heap.size + 1, 0, none⟩ (.int .i64 p)).setCell ⟨w.heap.size + 1 + 1, 0, none⟩ (.int .i64 x)).drew := by
  obtain ⟨W', hW'⟩ : ∃ W', W' = ((((((w3.setCell ⟨w.heap.size, 0, none⟩ (.slice none 0 0)).setCell ⟨w.heap.size, 1, none⟩ (.slice none 0 0)).setCell ⟨w.heap.size, 2, none⟩ (.slice none 0 0)).setCell ⟨w.heap.size, 3, none⟩ (.slice none 0 0)).setCell ⟨w.heap.size + 1, 0, none⟩ (.int .i64 p)).setCell ⟨w.heap.size + 1 + 1, 0, none⟩ (.int .i64 x)).drew := ⟨_, rfl⟩
  rw [← hW']
  have r0 : Blk W' w.heap.size 27 #[.slice none 0 0, .slice none 0 0, .slice none 0 0, .slice none 0 0] := by
    rw [hW']
    have := ((((((q0.set 0 (.slice none 0 0)).set 1 (.slice none 0 0)).set 2 (.slice none 0 0)).set 3 (.slice none 0 0)).far (p := ⟨w.heap.size + 1, 0, none⟩) (by simp) (.int .i64 p)).far (p := ⟨w.heap.size + 1 + 1, 0, none⟩) (by simp; omega) (.int .i64 x)).drew
    simpa using this
  have r1 : Blk W' (w.heap.size + 1) 3 #[.int .i64 p] := by
    rw [hW']
    have := ((((((q1.far (p := ⟨w.heap.size, 0, none⟩) (by simp) (.slice none 0 0)).far (p := ⟨w.heap.size, 1, none⟩) (by simp) (.slice none 0 0)).far (p := ⟨w.heap.size, 2, none⟩) (by simp) (.slice none 0 0)).far (p := ⟨w.heap.size, 3, none⟩) (by simp) (.slice none 0 0)).set 0 (.int .i64 p)).far (p := ⟨w.heap.size + 1 + 1, 0, none⟩) (by simp) (.int .i64 x)).drew
    simpa using this
  have r2 : Blk W' (w.heap.size + 1 + 1) 31 #[.int .i64 x] := by
    rw [hW']
    have := ((((((q2.far (p := ⟨w.heap.size, 0, none⟩) (by simp; omega) (.slice none 0 0)).far (p := ⟨w.heap.size, 1, none⟩) (by simp; omega) (.slice none 0 0)).far (p := ⟨w.heap.size, 2, none⟩) (by simp; omega) (.slice none 0 0)).far (p := ⟨w.heap.size, 3, none⟩) (by simp; omega) (.slice none 0 0)).far (p := ⟨w.heap.size + 1, 0, none⟩) (by simp) (.int .i64 p)).set 0 (.int .i64 x)).drew
    simpa using this
  have hb : Below w.heap.size w W' := by
    rw [hW']
    exact ((((((hbel.setCell (p := ⟨w.heap.size, 0, none⟩) (Nat.le_refl _) _).setCell (p := ⟨w.heap.size, 1, none⟩) (Nat.le_refl _) _).setCell (p := ⟨w.heap.size, 2, none⟩) (Nat.le_refl _) _).setCell (p := ⟨w.heap.size, 3, none⟩) (Nat.le_refl _) _).setCell (p := ⟨w.heap.size + 1, 0, none⟩) (show w.heap.size ≤ w.heap.size + 1 by omega) _).setCell (p := ⟨w.heap.size + 1 + 1, 0, none⟩) (show w.heap.size ≤ w.heap.size + 1 + 1 by omega) _).drew
  clear hW'
  have c0 := r0.cell 0; have c1 := r0.cell 1; have c2 := r0.cell 2; have c3 := r0.cell 3; have d1 := r1.cell 0; have d2 := r2.cell 0
  simp at c0 c1 c2 c3 d1 d2
  refine ⟨.tuple #[nilQ, .int .i64 p, .int .i64 x], ?_, hb, ?_⟩
  · simp [results, Tryd.results8, go_sem, h2, h3, h4, c0, c1, c2, c3, d1, d2, nilQ]
  · rw [hp]
/-- Parse ends in order. -/
theorem parse_ended (s : List UInt8) (w w1 : World) (v : Value) (tmps : Array Value) (n : Nat) (hr : (results Tryd.f8 tmps).run Tryd.prog w1 = .ok v w1) (hP : ParsePost s w (.returned v) w1) :
    LeavesInM Fence.wide n Tryd.prog Tryd.f8 tmps (ParsePost s w) (parseDefer w) .returning w1 := by
  refine ⟨by simp, .inr ⟨fun h => (by cases h), _, _, 24, #[.pointer (some ⟨w.heap.size, 0, none⟩), .pointer (some ⟨w.heap.size + 1, 0, none⟩), .pointer (some ⟨w.heap.size + 1 + 1, 0, none⟩)], rfl, by simp [go_sem], fun _ _ => trivial, ?_⟩⟩
  obtain ⟨hF, hC⟩ := qCatchIdle (n - 1) ⟨w.heap.size, 0, none⟩ ⟨w.heap.size + 1, 0, none⟩ ⟨w.heap.size + 1 + 1, 0, none⟩ w1
  refine ⟨hF, fun c cs hc hroom => ?_⟩
  obtain ⟨e, u', w2, fr, ⟨rfl, rfl, rfl⟩, hrest⟩ := hC c cs hc hroom
  exact ⟨.returned (.tuple #[]), .returning, _, fr, ⟨v, hr, hP⟩, hrest⟩

/-- Parse's loop is over, and the results are stored once more. -/
theorem parse_done (s : List UInt8) (w W : World) (q : Qy.Query) (D : Nat) (v0 v1 v2 v3 : Value) (tmps : Array Value) (h2 : tmps[2]? = some (.pointer (some ⟨w.heap.size, 0, none⟩))) (h3 : tmps[3]? = some (.pointer (some ⟨w.heap.size + 1, 0, none⟩))) (h4 : tmps[4]? = some (.pointer (some ⟨w.heap.size + 1 + 1, 0, none⟩)))
    (c0 : W.cell? ⟨w.heap.size, 0, none⟩ = some v0) (c1 : W.cell? ⟨w.heap.size, 1, none⟩ = some v1) (c2 : W.cell? ⟨w.heap.size, 2, none⟩ = some v2) (c3 : W.cell? ⟨w.heap.size, 3, none⟩ = some v3) (d1 : W.cell? ⟨w.heap.size + 1, 0, none⟩ = some (.int .i64 0)) (d2 : W.cell? ⟨w.heap.size + 1 + 1, 0, none⟩ = some (.int .i64 0))
    (hbel : Below w.heap.size w W) (hq : QAt W W.heap.size (.agg #[v0, v1, v2, v3]) q) (hp : Qy.parse s = .ok q) (hdef : W.heap[D]? = some (.deferred (some []))) (hD : w.heap.size ≤ D) :
    bodyPostM Fence.wide 3 Tryd.prog Tryd.f8 (ParsePost s w) .ret { tmps := tmps, defers := { target := .collected D, args := #[] } :: parseDefer w }
      ((((((W.setCell ⟨w.heap.size, 0, none⟩ v0).setCell ⟨w.heap.size, 1, none⟩ v1).setCell ⟨w.heap.size, 2, none⟩ v2).setCell ⟨w.heap.size, 3, none⟩ v3).setCell ⟨w.heap.size + 1, 0, none⟩ (.int .i64 0)).setCell ⟨w.heap.size + 1 + 1, 0, none⟩ (.int .i64 0)) := by
  have key : ∀ (X : World) (p : Addr) (u : Value), (∀ a v, W.cell? a = some v → X.cell? a = some v) → W.cell? p = some u → (∀ a v, W.cell? a = some v → (X.setCell p u).cell? a = some v) := fun X p u h hu a v hv => cell_again (h p u hu) a v (h a v hv)
  have k1 := key W ⟨w.heap.size, 0, none⟩ v0 (fun _ _ h => h) c0
  have k2 := key _ ⟨w.heap.size, 1, none⟩ v1 k1 c1
  have k3 := key _ ⟨w.heap.size, 2, none⟩ v2 k2 c2
  have k4 := key _ ⟨w.heap.size, 3, none⟩ v3 k3 c3
  have k5 := key _ ⟨w.heap.size + 1, 0, none⟩ (.int .i64 0) k4 d1
  have k6 := key _ ⟨w.heap.size + 1 + 1, 0, none⟩ (.int .i64 0) k5 d2
  have hb : Below w.heap.size w ((((((W.setCell ⟨w.heap.size, 0, none⟩ v0).setCell ⟨w.heap.size, 1, none⟩ v1).setCell ⟨w.heap.size, 2, none⟩ v2).setCell ⟨w.heap.size, 3, none⟩ v3).setCell ⟨w.heap.size + 1, 0, none⟩ (.int .i64 0)).setCell ⟨w.heap.size + 1 + 1, 0, none⟩ (.int .i64 0)) :=
    (((((hbel.setCell (p := ⟨w.heap.size, 0, none⟩) (Nat.le_refl _) _).setCell (p := ⟨w.heap.size, 1, none⟩) (Nat.le_refl _) _).setCell (p := ⟨w.heap.size, 2, none⟩) (Nat.le_refl _) _).setCell (p := ⟨w.heap.size, 3, none⟩) (Nat.le_refl _) _).setCell (p := ⟨w.heap.size + 1, 0, none⟩) (show w.heap.size ≤ w.heap.size + 1 by omega) _).setCell (p := ⟨w.heap.size + 1 + 1, 0, none⟩) (show w.heap.size ≤ w.heap.size + 1 + 1 by omega) _
  have hd6 := ((((((KeepsOthers.setCell W ⟨w.heap.size, 0, none⟩ v0).trans (KeepsOthers.setCell _ ⟨w.heap.size, 1, none⟩ v1)).trans (KeepsOthers.setCell _ ⟨w.heap.size, 2, none⟩ v2)).trans (KeepsOthers.setCell _ ⟨w.heap.size, 3, none⟩ v3)).trans (KeepsOthers.setCell _ ⟨w.heap.size + 1, 0, none⟩ (.int .i64 0))).trans (KeepsOthers.setCell _ ⟨w.heap.size + 1 + 1, 0, none⟩ (.int .i64 0))).same D _ hdef rfl
  have hsz : W.heap.size = ((((((W.setCell ⟨w.heap.size, 0, none⟩ v0).setCell ⟨w.heap.size, 1, none⟩ v1).setCell ⟨w.heap.size, 2, none⟩ v2).setCell ⟨w.heap.size, 3, none⟩ v3).setCell ⟨w.heap.size + 1, 0, none⟩ (.int .i64 0)).setCell ⟨w.heap.size + 1 + 1, 0, none⟩ (.int .i64 0)).heap.size := by simp
  clear k1 k2 k3 k4 k5 key
  obtain ⟨W6, hW6⟩ : ∃ W6, W6 = ((((((W.setCell ⟨w.heap.size, 0, none⟩ v0).setCell ⟨w.heap.size, 1, none⟩ v1).setCell ⟨w.heap.size, 2, none⟩ v2).setCell ⟨w.heap.size, 3, none⟩ v3).setCell ⟨w.heap.size + 1, 0, none⟩ (.int .i64 0)).setCell ⟨w.heap.size + 1 + 1, 0, none⟩ (.int .i64 0)) := ⟨_, rfl⟩
  rw [← hW6] at k6 hb hd6 hsz ⊢
  clear hW6
  refine ⟨by simp, .inl ⟨D, _, rfl, run_takeDeferred hd6, ?_⟩⟩
  have k7 : ∀ a v, W.cell? a = some v → (W6.putObj D (.deferred none)).cell? a = some v := fun a v h => same_put hd6 _ a v (k6 a v h)
  have hq7 : QAt (W6.putObj D (.deferred none)) (W6.putObj D (.deferred none)).heap.size (.agg #[v0, v1, v2, v3]) q := hq.same k7 (by rw [hsz]; simp [World.putObj])
  have hb7 := below_put hb hD (.deferred none)
  have e0 := k7 _ _ c0; have e1 := k7 _ _ c1; have e2 := k7 _ _ c2; have e3 := k7 _ _ c3; have f1 := k7 _ _ d1; have f2 := k7 _ _ d2
  clear k7 k6
  obtain ⟨W7, hW7⟩ : ∃ W7, W7 = W6.putObj D (.deferred none) := ⟨_, rfl⟩
  rw [← hW7] at hq7 hb7 e0 e1 e2 e3 f1 f2 ⊢
  refine parse_ended s w W7 (.tuple #[.agg #[v0, v1, v2, v3], .int .i64 0, .int .i64 0]) tmps _ ?_ ⟨hb7, ?_⟩
  · simp [results, Tryd.results8, go_sem, h2, h3, h4, e0, e1, e2, e3, f1, f2]
  · rw [hp]
    exact ⟨_, rfl, hq7⟩

/-- The variables met, and what the cells of the variables hold, when so many have come. -/
def Qy.ixM (V : List Int) (j : Nat) : List Int := (Qy.ixList [] (V.take j)).2
def Qy.ixV (V : List Int) (j : Nat) : List Int := (Qy.ixList [] (V.take j)).1 ++ V.drop j
theorem Qy.ixV_at {V : List Int} {j : Nat} {n : Int} (h : V[j]? = some n) : (Qy.ixV V j)[j]? = some n := by
  have hlt := (List.getElem?_eq_some_iff.1 h).1
  have hl : (Qy.ixList [] (V.take j)).1.length = j := by rw [Qy.ixList_len, List.length_take]; omega
  unfold Qy.ixV
  rw [List.getElem?_append_right (by omega), hl, Nat.sub_self, List.getElem?_drop, Nat.add_zero, h]
theorem Qy.ixV_len (V : List Int) (j : Nat) : (Qy.ixV V j).length = V.length := by
  unfold Qy.ixV
  rw [List.length_append, Qy.ixList_len, List.length_take, List.length_drop]; omega
theorem Qy.ix_next {V : List Int} {j : Nat} {n : Int} (h : V[j]? = some n) : Qy.ixM V (j + 1) = (Qy.ix (Qy.ixM V j) n).2 ∧ Qy.ixV V (j + 1) = (Qy.ixV V j).set j (Qy.ix (Qy.ixM V j) n).1 := by
  have hlt := (List.getElem?_eq_some_iff.1 h).1
  have hl : (Qy.ixList [] (V.take j)).1.length = j := by rw [Qy.ixList_len, List.length_take]; omega
  have ht : V.take (j + 1) = V.take j ++ [n] := by rw [List.take_add_one, h]; rfl
  have hd : V.drop j = n :: V.drop (j + 1) := by
    rw [List.drop_eq_getElem_cons hlt]
    have := (List.getElem?_eq_some_iff.1 h).2
    rw [this]
  unfold Qy.ixM Qy.ixV
  rw [ht, Qy.ixList_snoc]
  refine ⟨rfl, ?_⟩
  rw [hd, List.set_append_right _ _ (by omega), hl, Nat.sub_self, List.set_cons_zero]
  simp
theorem Qy.ix_nodup {m : List Int} (h : m.Nodup) (n : Int) : (Qy.ix m n).2.Nodup := by
  unfold Qy.ix
  cases hi : m.findIdx? (· == n) with
  | some i => exact h
  | none =>
    refine List.nodup_append.2 ⟨h, by simp, fun x hx y hy e => ?_⟩
    simp at hy
    subst hy; subst e
    rw [List.findIdx?_eq_none_iff] at hi
    have := hi x hx
    simp at this
theorem Qy.ixList_nodup : ∀ (l : List Int) {m : List Int}, m.Nodup → (Qy.ixList m l).2.Nodup
  | [], _, h => h
  | n :: r, _, h => Qy.ixList_nodup r (Qy.ix_nodup h n)
theorem Qy.ix_mem {m : List Int} {n x : Int} (h : x ∈ (Qy.ix m n).2) : x ∈ m ∨ x = n := by
  unfold Qy.ix at h
  cases hi : m.findIdx? (· == n) with
  | some i => rw [hi] at h; exact .inl h
  | none => rw [hi] at h; simpa using h
theorem Qy.ixList_mem : ∀ (l : List Int) {m : List Int} {x : Int}, x ∈ (Qy.ixList m l).2 → x ∈ m ∨ x ∈ l
  | [], _, _, h => .inl h
  | n :: r, m, x, h => by
    rcases Qy.ixList_mem r h with h1 | h1
    · rcases Qy.ix_mem h1 with h2 | h2
      · exact .inl h2
      · exact .inr (by rw [h2]; simp)
    · exact .inr (List.mem_cons_of_mem _ h1)
theorem Qy.ix_len (m : List Int) (n : Int) : (Qy.ix m n).2.length ≤ m.length + 1 := by
  unfold Qy.ix
  cases m.findIdx? (· == n) <;> simp
theorem Qy.ixList_le : ∀ (l m : List Int), (Qy.ixList m l).2.length ≤ m.length + l.length
  | [], m => Nat.le_refl _
  | n :: r, m => by
    have h1 := Qy.ixList_le r (Qy.ix m n).2
    have h2 := Qy.ix_len m n
    show (Qy.ixList (Qy.ix m n).2 r).2.length ≤ _
    rw [List.length_cons]; omega
theorem Qy.ixM_le (V : List Int) (j : Nat) : (Qy.ixM V j).length ≤ V.length := by
  have h := Qy.ixList_le (V.take j) []
  rw [List.length_take, List.length_nil] at h
  unfold Qy.ixM
  omega
theorem Qy.vars_le : ∀ gs : List Qy.Arg, (gs.flatMap Qy.Arg.vars).length ≤ gs.length
  | [] => Nat.le_refl _
  | ⟨v, n⟩ :: r => by
    have h := Qy.vars_le r
    rw [List.flatMap_cons, List.length_append, List.length_cons]
    cases v
    · simp only [Qy.Arg.vars, Bool.false_eq_true, if_false, List.length_nil]; omega
    · simp only [Qy.Arg.vars, if_true, List.length_cons, List.length_nil]; omega
theorem Qy.allVars_le (shown : List Int) (atoms : List Qy.Atom) (tests : List Qy.Test) : (Qy.allVars shown (Qy.allArgs atoms tests)).length ≤ shown.length + 3 * atoms.length + 2 * tests.length := by
  have h := Qy.vars_le (Qy.allArgs atoms tests)
  unfold Qy.allArgs at h
  rw [List.length_append, flatg_len 3 Qy.aArgs (fun _ => rfl), flatg_len 2 Qy.tArgs (fun _ => rfl)] at h
  unfold Qy.allVars Qy.allArgs
  rw [List.length_append]
  omega
set_option maxRecDepth 20000 in
set_option maxHeartbeats 8000000 in
theorem lQParse (s : ByteArray) (w : World) (hs : s.size ≤ maxLen) (he : EnvQ w) : Calls Tryd.prog 8 #[.string s] w (ParsePost s.data.toList w) := by
  obtain ⟨i0, hi0, hz0, hz1, hz2⟩ := info_parts Tryd.infoStr
  refine (callsIn_wide (n := 3)).1 ?_
  refine callsIn_of_wp_marks Tryd.func8 rfl trivial ?_ rfl
  refine wpIn_wide.2 ?_
  simp only [Tryd.ntmps8, List.size_toArray, List.length_cons, List.length_nil, Nat.reduceAdd, Nat.reduceSub, Array.replicate_succ, Array.replicate_zero, List.push_toArray, List.append_toArray, List.nil_append, List.cons_append]
  go_wp2_with fail
  obtain ⟨W1, hW1⟩ : ∃ W1, W1 = ((w.alloc (.cells #[.slice none 0 0, .slice none 0 0, .slice none 0 0, .slice none 0 0] 27)).alloc (.cells #[.int .i64 0] 3)).alloc (.cells #[.int .i64 0] 31) := ⟨_, rfl⟩
  rw [← hW1]
  have hbel1 : Below w.heap.size w W1 := by rw [hW1]; exact (((Below.refl _ _).alloc (Nat.le_refl _) _).alloc (by simp) _).alloc (by simp; omega) _
  have hsz1 : W1.heap.size = w.heap.size + 3 := by rw [hW1]; simp
  have B0 : Blk W1 w.heap.size 27 #[.slice none 0 0, .slice none 0 0, .slice none 0 0, .slice none 0 0] := by rw [hW1]; exact ((Blk.new_at w _ rfl).alloc _).alloc _
  have B1 : Blk W1 (w.heap.size + 1) 3 #[.int .i64 0] := by rw [hW1]; exact (Blk.new_at _ _ (by simp)).alloc _
  have B2 : Blk W1 (w.heap.size + 1 + 1) 31 #[.int .i64 0] := by rw [hW1]; exact Blk.new_at _ _ (by simp)
  have hE1 := he.next hbel1
  clear hW1
  refine (lLexC s W1 hs hE1.env).mono ?_
  rintro e w2 ⟨hb2, hpost⟩
  have hsz2 := hb2.size
  replace B0 := B0.below hb2 (by omega)
  replace B1 := B1.below hb2 (by omega)
  replace B2 := B2.below hb2 (by omega)
  have hbel2 := hbel1.trans (hb2.mono (by omega))
  have hE2 := hE1.next hb2
  have c0 := B0.cell 0; have c1 := B0.cell 1; have c2 := B0.cell 2; have c3 := B0.cell 3; have d1 := B1.cell 0; have d2 := B2.cell 0
  have e0 := B0.free 0; have e1 := B0.free 1; have e2 := B0.free 2; have e3 := B0.free 3; have f1 := B1.free 0; have f2 := B2.free 0
  simp at c0 c1 c2 c3 d1 d2
  have hN2 : w.heap.size + 2 < w2.heap.size := by omega
  have He0 := Lib.hid he
  have HB0 := Lib.hid B0; have HB1 := Lib.hid B1; have HB2 := Lib.hid B2; have Hbel2 := Lib.hid hbel2; have HE2 := Lib.hid hE2
  clear B0 B1 B2 hbel2 hE2 hE1 hbel1 hb2 he
  by_cases hlong : 65536 < s.data.toList.length
  · rw [if_pos hlong] at hpost
    have Hp : Hid (Qy.parse s.data.toList = .bad 0 2) := Lib.hid (by unfold Qy.parse; rw [if_pos hlong])
    subst hpost
    clear hlong
    go_wp2_with fail
    obtain ⟨w3, hw3⟩ : ∃ w3, w3 = (w2.setCell ⟨w.heap.size + 1, 0, none⟩ (.int .i64 0)).setCell ⟨w.heap.size + 1 + 1, 0, none⟩ (.int .i64 2) := ⟨_, rfl⟩
    rw [← hw3]
    have B0 : Blk w3 w.heap.size 27 #[.slice none 0 0, .slice none 0 0, .slice none 0 0, .slice none 0 0] := by rw [hw3]; exact (HB0.out.far (p := ⟨w.heap.size + 1, 0, none⟩) (by simp) _).far (p := ⟨w.heap.size + 1 + 1, 0, none⟩) (by simp; omega) _
    have B1 : Blk w3 (w.heap.size + 1) 3 #[.int .i64 0] := by rw [hw3]; have := (HB1.out.set 0 (.int .i64 0)).far (p := ⟨w.heap.size + 1 + 1, 0, none⟩) (by simp) (.int .i64 2); simpa using this
    have B2 : Blk w3 (w.heap.size + 1 + 1) 31 #[.int .i64 2] := by rw [hw3]; have := (HB2.out.far (p := ⟨w.heap.size + 1, 0, none⟩) (by simp) (.int .i64 0)).set 0 (.int .i64 2); simpa using this
    have hbel3 : Below w.heap.size w w3 := by rw [hw3]; exact (Hbel2.out.setCell (p := ⟨w.heap.size + 1, 0, none⟩) (show w.heap.size ≤ w.heap.size + 1 by omega) _).setCell (p := ⟨w.heap.size + 1 + 1, 0, none⟩) (show w.heap.size ≤ w.heap.size + 1 + 1 by omega) _
    clear hw3 c0 c1 c2 c3 d1 d2 e0 e1 e2 e3 f1 f2
    have c0 := B0.cell 0; have c1 := B0.cell 1; have c2 := B0.cell 2; have c3 := B0.cell 3; have d1 := B1.cell 0; have d2 := B2.cell 0
    have e0 := B0.free 0; have e1 := B0.free 1; have e2 := B0.free 2; have e3 := B0.free 3; have f1 := B1.free 0; have f2 := B2.free 0
    simp at c0 c1 c2 c3 d1 d2
    have HB3 := Lib.hid hbel3
    have HC0 := Lib.hid B0; have HC1 := Lib.hid B1; have HC2 := Lib.hid B2
    clear B0 B1 B2 hbel3
    apply wp_cut
    case h =>
      go_region
      all_goals exact ⟨rfl, rfl⟩
    case k =>
      go_wp2_with fail
      exact parse_early _ w w3 0 2 _ rfl rfl rfl HC0.out HC1.out HC2.out HB3.out Hp.out
  · rw [if_neg hlong] at hpost
    cases hl : Lx.lex s.data.toList with
    | err P =>
      rw [hl] at hpost
      have Hp : Hid (Qy.parse s.data.toList = .bad P 90) := Lib.hid (by unfold Qy.parse; rw [if_neg hlong, hl])
      simp only at hpost
      subst hpost
      clear hlong hl
      go_wp2_with fail
      obtain ⟨w3, hw3⟩ : ∃ w3, w3 = (w2.setCell ⟨w.heap.size + 1, 0, none⟩ (.int .i64 P)).setCell ⟨w.heap.size + 1 + 1, 0, none⟩ (.int .i64 90) := ⟨_, rfl⟩
      rw [← hw3]
      have B0 : Blk w3 w.heap.size 27 #[.slice none 0 0, .slice none 0 0, .slice none 0 0, .slice none 0 0] := by rw [hw3]; exact (HB0.out.far (p := ⟨w.heap.size + 1, 0, none⟩) (by simp) _).far (p := ⟨w.heap.size + 1 + 1, 0, none⟩) (by simp; omega) _
      have B1 : Blk w3 (w.heap.size + 1) 3 #[.int .i64 P] := by rw [hw3]; have := (HB1.out.set 0 (.int .i64 P)).far (p := ⟨w.heap.size + 1 + 1, 0, none⟩) (by simp) (.int .i64 90); simpa using this
      have B2 : Blk w3 (w.heap.size + 1 + 1) 31 #[.int .i64 90] := by rw [hw3]; have := (HB2.out.far (p := ⟨w.heap.size + 1, 0, none⟩) (by simp) (.int .i64 P)).set 0 (.int .i64 90); simpa using this
      have hbel3 : Below w.heap.size w w3 := by rw [hw3]; exact (Hbel2.out.setCell (p := ⟨w.heap.size + 1, 0, none⟩) (show w.heap.size ≤ w.heap.size + 1 by omega) _).setCell (p := ⟨w.heap.size + 1 + 1, 0, none⟩) (show w.heap.size ≤ w.heap.size + 1 + 1 by omega) _
      clear hw3 c0 c1 c2 c3 d1 d2 e0 e1 e2 e3 f1 f2
      have c0 := B0.cell 0; have c1 := B0.cell 1; have c2 := B0.cell 2; have c3 := B0.cell 3; have d1 := B1.cell 0; have d2 := B2.cell 0
      have e0 := B0.free 0; have e1 := B0.free 1; have e2 := B0.free 2; have e3 := B0.free 3; have f1 := B1.free 0; have f2 := B2.free 0
      simp at c0 c1 c2 c3 d1 d2
      have HB3 := Lib.hid hbel3
      have HC0 := Lib.hid B0; have HC1 := Lib.hid B1; have HC2 := Lib.hid B2
      clear B0 B1 B2 hbel3
      apply wp_cut
      case h =>
        go_region
        all_goals exact ⟨rfl, rfl⟩
      case k =>
        go_wp2_with fail
        exact parse_early _ w w3 P 90 _ rfl rfl rfl HC0.out HC1.out HC2.out HB3.out Hp.out
    | ok l =>
      rw [hl] at hpost
      obtain ⟨A, c, rfl, hT, hcap⟩ := hpost
      have hpt : Qy.parse s.data.toList = Qy.parseToks l s.size := by unfold Qy.parse; rw [if_neg hlong, hl, Lx.ba_len]
      have hvl : ∀ t ∈ l, Lx.valid t = true := fun t ht => (Lx.lex_texts hl t ht).1
      have hss : s.size ≤ 65536 := by rw [Lx.ba_len] at hlong; omega
      have Hpt := Lib.hid hpt; have HT := Lib.hid hT; have Hvl := Lib.hid hvl; have Hcap := Lib.hid hcap
      clear hlong hl hpt hvl hT hcap
      go_wp2_with fail
      obtain ⟨w3, hw3⟩ : ∃ w3, w3 = (w2.setCell ⟨w.heap.size + 1, 0, none⟩ (.int .i64 0)).setCell ⟨w.heap.size + 1 + 1, 0, none⟩ (.int .i64 0) := ⟨_, rfl⟩
      rw [← hw3]
      have B0 : Blk w3 w.heap.size 27 #[.slice none 0 0, .slice none 0 0, .slice none 0 0, .slice none 0 0] := by rw [hw3]; exact (HB0.out.far (p := ⟨w.heap.size + 1, 0, none⟩) (by simp) _).far (p := ⟨w.heap.size + 1 + 1, 0, none⟩) (by simp; omega) _
      have B1 : Blk w3 (w.heap.size + 1) 3 #[.int .i64 0] := by rw [hw3]; have := (HB1.out.set 0 (.int .i64 0)).far (p := ⟨w.heap.size + 1 + 1, 0, none⟩) (by simp) (.int .i64 0); simpa using this
      have B2 : Blk w3 (w.heap.size + 1 + 1) 31 #[.int .i64 0] := by rw [hw3]; have := (HB2.out.far (p := ⟨w.heap.size + 1, 0, none⟩) (by simp) (.int .i64 0)).set 0 (.int .i64 0); simpa using this
      have hbel3 : Below w.heap.size w w3 := by rw [hw3]; exact (Hbel2.out.setCell (p := ⟨w.heap.size + 1, 0, none⟩) (show w.heap.size ≤ w.heap.size + 1 by omega) _).setCell (p := ⟨w.heap.size + 1 + 1, 0, none⟩) (show w.heap.size ≤ w.heap.size + 1 + 1 by omega) _
      have hsz3 : w3.heap.size = w2.heap.size := by rw [hw3]; simp
      have hT3 : Toks w3 w2.heap.size A l := by
        refine ⟨fun k t hk => ?_, HT.out.len, HT.out.texts⟩
        obtain ⟨b, o, e, hlt, h4⟩ := HT.out.at_ k t hk
        have n1 : b ≠ w.heap.size + 1 := fun e1 => by
          have := h4.text
          rw [e1, HB1.out.cell] at this
          simp at this
        have n2 : b ≠ w.heap.size + 1 + 1 := fun e1 => by
          have := h4.text
          rw [e1, HB2.out.cell] at this
          simp at this
        refine ⟨b, o, e, hlt, h4.cells fun i => ?_⟩
        rw [hw3]
        exact World.cell?_of_block (a := ⟨b, i, none⟩) ((Below.heap_setCell _ _ _ _ n2).trans (Below.heap_setCell _ _ _ _ n1))
      have hE3 : EnvQ w3 := He0.out.next hbel3
      have HC0 := Lib.hid B0; have HC1 := Lib.hid B1; have HC2 := Lib.hid B2; have HB3 := Lib.hid hbel3; have HT3 := Lib.hid hT3
      clear hw3 c0 c1 c2 c3 d1 d2 e0 e1 e2 e3 f1 f2 B0 B1 B2 hbel3 hT3 HT HB0 HB1 HB2 HE2
      refine (lKinds w3 hE3).mono ?_
      rintro e w4 ⟨mb, rfl, hmb, hk4, hb4⟩
      have hsz4 := hb4.size
      have Hk4 := Lib.hid hk4; have Hb4 := Lib.hid hb4
      clear hk4 hb4
      go_wp2_with fail
      obtain ⟨w5, hw5⟩ : ∃ w5, w5 = (w4.alloc (.cells #[.slice A l.length c, .int .i64 s.size, .map (some mb), .slice none 0 0, .slice none 0 0, .slice none 0 0, .slice none 0 0, .slice none 0 0] 73)).alloc (.cells #[.pointer (some ⟨w4.heap.size, 0, none⟩)] 71) := ⟨_, rfl⟩
      rw [← hw5]
      have hsz5 : w5.heap.size = w4.heap.size + 2 := by rw [hw5]; simp
      have hb5 : Below w4.heap.size w4 w5 := by rw [hw5]; exact ((Below.refl _ _).alloc (Nat.le_refl _) _).alloc (by simp) _
      have hpar : Blk w5 w4.heap.size 73 #[.slice A l.length c, .int .i64 s.size, .map (some mb), .slice none 0 0, .slice none 0 0, .slice none 0 0, .slice none 0 0, .slice none 0 0] := by rw [hw5]; exact (Blk.new_at w4 _ rfl).alloc _
      have hbox : Blk w5 (w4.heap.size + 1) 71 #[.pointer (some ⟨w4.heap.size, 0, none⟩)] := by rw [hw5]; exact Blk.new_at _ _ (by simp)
      have hmlt : mb < w4.heap.size := by
        obtain ⟨es, clock, hh, _⟩ := Hk4.out
        exact (Array.getElem?_eq_some_iff.1 hh).1
      have hPS : PSt w4.heap.size w2.heap.size mb s.size ⟨l, [], [], [], []⟩ w5 :=
        ⟨⟨A, c, _, _, _, _, hpar, (HT3.out.below Hb4.out (by omega)).below hb5 (by omega), Hcap.out, ⟨⟨rfl, .inl ⟨rfl, rfl⟩⟩, ⟨rfl, .inl ⟨rfl, rfl⟩⟩, ⟨rfl, .inl ⟨rfl, rfl⟩⟩, ⟨rfl, .inl ⟨rfl, rfl⟩⟩⟩⟩, Hk4.out.below hb5, hmlt, by omega, by simp, by simp⟩
      have hInv : Qy.Inv ⟨l, [], [], [], []⟩ := ⟨⟨by simp, by simp, List.nodup_nil, Hvl.out⟩, fun n hn => by simp at hn, List.nodup_nil, by simp, by simp, by simp⟩
      have hbel5 := ((HB3.out.trans (Hb4.out.mono (by omega))).trans (hb5.mono (by omega)))
      have B0 := (HC0.out.below Hb4.out (by omega)).below hb5 (by omega)
      have B1 := (HC1.out.below Hb4.out (by omega)).below hb5 (by omega)
      have B2 := (HC2.out.below Hb4.out (by omega)).below hb5 (by omega)
      have hno : ¬ Owned w5 w4.heap.size (w4.heap.size + 1) := fun ⟨i, v, hi, hc, hv⟩ => by
        rw [hpar.cell i] at hc
        rcases hi with rfl | rfl | rfl | rfl <;> simp at hc <;> subst hc <;> simp [Value.ownBlock] at hv
      have HPS := Lib.hid hPS; have HInv := Lib.hid hInv; have Hbel5 := Lib.hid hbel5; have Hbox := Lib.hid hbox
      have HD0 := Lib.hid B0; have HD1 := Lib.hid B1; have HD2 := Lib.hid B2
      clear hw5 hb5 hpar hbox hPS hInv hbel5 B0 B1 B2 HC0 HC1 HC2 HB3 HT3 Hk4 Hb4 hE3 Hbel2 Hcap Hvl He0
      refine (lParse w4.heap.size w2.heap.size mb s.size ⟨l, [], [], [], []⟩ w5 HPS.out HInv.out rfl).mono ?_
      intro e w6 hpe
      rcases hpe.split with ⟨p, x, hv, rfl, hfr⟩ | ⟨u, s1, hv, rfl, hs1, hfr⟩
      · exact parse_failed _ w w6 p x _ rfl _ _ _ rfl rfl rfl (HD0.out.below hfr.bel (by omega)) (HD1.out.below hfr.bel (by omega)) (HD2.out.below hfr.bel (by omega)) (Hbel5.out.trans (hfr.bel.mono (by omega))) (by rw [Hpt.out]; unfold Qy.parseToks; rw [hv]) 3
      · have hI1 := Qy.parseT_inv s.size (HInv.out.nm.toks) hv
        have hren : Qy.parse s.data.toList = .ok (Qy.renumber s1) := by rw [Hpt.out]; unfold Qy.parseToks; rw [hv]
        have hbox6 : Blk w6 (w4.heap.size + 1) 71 #[.pointer (some ⟨w4.heap.size, 0, none⟩)] := (hfr.keep _ (by omega) (by omega) hno).trans Hbox.out
        have E0 := HD0.out.below hfr.bel (by omega)
        have E1 := HD1.out.below hfr.bel (by omega)
        have E2 := HD2.out.below hfr.bel (by omega)
        have hbel6 := Hbel5.out.trans (hfr.bel.mono (by omega))
        obtain ⟨⟨A1, cc1, vN, vS, vA, vT, hpar6, hT6, hcap6, ho6⟩, _, _, _, hf6, htx6⟩ := hs1
        obtain ⟨AS, cS, rfl, hcS, hLS⟩ := own_lies ho6.s (s1.shown.map intC) (by rw [List.flatMap_def]) (fun c hc => by obtain ⟨x, _, rfl⟩ := List.mem_map.1 hc; rfl) (by rw [List.length_map]) (by have := hI1.1.fits; omega)
        obtain ⟨AA, cA, rfl, hcA, hLA⟩ := own_lies ho6.a (s1.atoms.map atomC) (by rw [List.flatMap_def]) (fun c hc => by obtain ⟨x, _, rfl⟩ := List.mem_map.1 hc; rfl) (by rw [List.length_map]) (by have := hI1.2.2.1; unfold Qy.total at this; omega)
        obtain ⟨AT, cT, rfl, hcT, hLT⟩ := own_lies ho6.t (s1.tests.map testC) (by rw [List.flatMap_def]) (fun c hc => by obtain ⟨x, _, rfl⟩ := List.mem_map.1 hc; rfl) (by rw [List.length_map]) (by have := hI1.2.2.1; unfold Qy.total at this; omega)
        have hsz6 := hfr.bel.size
        have p4 := hpar6.cell 4; have p5 := hpar6.cell 5; have p6 := hpar6.cell 6; have p7 := hpar6.cell 7
        have x0 := hbox6.cell 0
        have c0 := E0.cell 0; have c1 := E0.cell 1; have c2 := E0.cell 2; have c3 := E0.cell 3
        have e0 := E0.free 0; have e1 := E0.free 1; have e2 := E0.free 2; have e3 := E0.free 3
        simp at p4 p5 p6 p7 x0 c0 c1 c2 c3
        have HE0 := Lib.hid E0; have HE1 := Lib.hid E1; have HE2 := Lib.hid E2; have Hbel6 := Lib.hid hbel6; have Hbox6 := Lib.hid hbox6; have Hpar6 := Lib.hid hpar6; have Ho6 := Lib.hid ho6
        have HLS := Lib.hid hLS; have HLA := Lib.hid hLA; have HLT := Lib.hid hLT; have HI1 := Lib.hid hI1; have Htx6 := Lib.hid htx6; have Hren := Lib.hid hren
        clear hpe hv hfr hT6 hcap6 hbox6 hpar6 ho6 hLS hLA hLT hI1 htx6 hren E0 E1 E2 hbel6 HPS HInv Hbel5 Hbox HD0 HD1 HD2 Hpt hno
        have hmm := @run_makeMap Tryd.prog
        unfold uV
        go_wp2_with fail
        clear hmm
        refine (lVariables _ _).mono ?_
        rintro e w7 ⟨rfl, rfl⟩
        go_wp2_with fail
        have hF := loop_fix (w := w) (w6 := w6) (G := w4.heap.size) (v0 := .slice A1 s1.toks.length cc1) (v1 := .int .i64 s.size) (v2 := .map (some mb)) (v4 := .slice none 0 0) (by omega) (by omega) Ho6.out
        have hPI := loop_starts (w := w) (w6 := w6) (G := w4.heap.size) (by omega) (by omega) Ho6.out HE0.out HE1.out HE2.out Hbox6.out Hpar6.out Hbel6.out HLS.out HLA.out HLT.out
        have hpre := fun Y hY => loop_pre (w := w) (w6 := w6) (G := w4.heap.size) (by omega) (by omega) Ho6.out HE0.out HLA.out HLT.out (Y := Y) hY
        have hvl := Qy.var_cells HLS.out HLA.out HLT.out
        have ha1 : 0 < s1.shown.length → ∃ b o, AS = some ⟨b, o, none⟩ := fun h => by
          obtain ⟨b, o, e, _⟩ := HLS.out.at_ 0 _ (by rw [List.getElem?_map, List.getElem?_eq_getElem h]; rfl)
          exact ⟨b, o, e⟩
        have ha2 : 0 < s1.atoms.length → ∃ b o, AA = some ⟨b, o, none⟩ := fun h => by
          obtain ⟨b, o, e, _⟩ := HLA.out.at_ 0 _ (by rw [List.getElem?_map, List.getElem?_eq_getElem h]; rfl)
          exact ⟨b, o, e⟩
        have ha3 : 0 < s1.tests.length → ∃ b o, AT = some ⟨b, o, none⟩ := fun h => by
          obtain ⟨b, o, e, _⟩ := HLT.out.at_ 0 _ (by rw [List.getElem?_map, List.getElem?_eq_getElem h]; rfl)
          exact ⟨b, o, e⟩
        have hn1 : s1.shown.length ≤ 1000 := by have := HI1.out.1.fits; omega
        have hn23 : s1.atoms.length + s1.tests.length ≤ 16 := HI1.out.2.2.1
        change Code.wp _ _ _ _ (loopStart w6 w.heap.size (.slice AS s1.shown.length cS) (.slice AA s1.atoms.length cA) (.slice AT s1.tests.length cT))
        obtain ⟨W0, hW0⟩ : ∃ W0, W0 = loopStart w6 w.heap.size (.slice AS s1.shown.length cS) (.slice AA s1.atoms.length cA) (.slice AT s1.tests.length cT) := ⟨_, rfl⟩
        rw [← hW0] at hF hPI hpre ⊢
        have hszW : W0.heap.size = w6.heap.size + 3 := by rw [hW0]; exact loopStart_size _ _ _ _ _
        have HF := Lib.hid hF; have HPI := Lib.hid hPI; have Hpre := Lib.hid hpre; have Hvl := Lib.hid hvl
        clear hF hPI hpre hvl
        clear p4 p5 p6 p7 x0 c0 c1 c2 c3 e0 e1 e2 e3
        obtain ⟨V, hV⟩ : ∃ V, V = Qy.allVars s1.shown (Qy.allArgs s1.atoms s1.tests) := ⟨_, rfl⟩
        obtain ⟨xs, hxs⟩ : ∃ xs, xs = Qy.varsAt AS AA AT s1.shown.length s1.atoms.length s1.tests.length (Qy.allArgs s1.atoms s1.tests) := ⟨_, rfl⟩
        have hseq := varsSeq 2 (w6.heap.size + 1 + 1) w.heap.size s1.shown.length s1.atoms.length s1.tests.length cS cA cT AS AA AT (Qy.allArgs s1.atoms s1.tests) hn1 (by omega) (by omega) ha1 ha2 ha3
        rw [← hxs] at hseq HPI HF Hvl
        rw [← hV] at HPI Hvl
        have Hseq := Lib.hid hseq; have HV := Lib.hid hV; have Hxs := Lib.hid hxs
        clear hseq hV hxs
        have h0 : ∀ Y, Below W0.heap.size W0 Y → PIx w.heap.size w4.heap.size (w4.heap.size + 1) (w6.heap.size + 1) w6.heap.size w W0 #[.slice A1 s1.toks.length cc1, .int .i64 s.size, .map (some mb), vN, .slice none 0 0, .slice AS s1.shown.length cS, .slice AA s1.atoms.length cA, .slice AT s1.tests.length cT] vN (.slice AS s1.shown.length cS) (.slice AA s1.atoms.length cA) (.slice AT s1.tests.length cT) s1.names xs (rbOf AS AA AT) (Qy.ixM V 0) (Qy.ixV V 0) Y := fun Y hY => by
          have : Qy.ixV V 0 = V := by simp [Qy.ixV, Qy.ixList]
          rw [this]
          exact HPI.out.next HF.out hY
        have H0 := Lib.hid h0
        clear h0
        refine (wpIn_wide (n := 3)).1 ?_
        refine wpIn_rangeB (F := Fence.wide) (n := 3) rfl (fun h => (by cases h)) (gf := 35) (lb := #[.pointer (some ⟨w6.heap.size + 1 + 1, 0, none⟩)]) rfl trivial (enters_of Tryd.func35 (by kernel_rfl) rfl)
          Hseq.out Hpre.out (fun h k => KT.trans h k) (fun W l r r' _ h => KT.put W l r r' h) (fun _ => rfl)
          (fun pre W => W0.heap.size ≤ W.heap.size ∧ PIx w.heap.size w4.heap.size (w4.heap.size + 1) (w6.heap.size + 1) w6.heap.size w W0 #[.slice A1 s1.toks.length cc1, .int .i64 s.size, .map (some mb), vN, .slice none 0 0, .slice AS s1.shown.length cS, .slice AA s1.atoms.length cA, .slice AT s1.tests.length cT] vN (.slice AS s1.shown.length cS) (.slice AA s1.atoms.length cA) (.slice AT s1.tests.length cT) s1.names xs (rbOf AS AA AT) (Qy.ixM V pre.length) (Qy.ixV V pre.length) W)
          (fun _ _ _ => False) (fun pre W W' row hs hg hr => ⟨Nat.le_trans hs.1 hg.size, hs.2.own HF.out hg hr⟩) (fun _ _ _ _ _ hs _ _ => hs) (fun Y hY => ⟨hY.size, H0.out Y hY⟩) ?a1 ?assign ?body ?done ?stop
        case assign =>
          intro lr x W K hK
          gi_wp2
          exact hK
        case body =>
          rintro lr pre x W ⟨hsW, hP⟩ hpx
          have hj : xs[pre.length]? = some x := by
            obtain ⟨tl, htl⟩ := hpx
            rw [← htl]; simp
          obtain ⟨n, hn⟩ : ∃ n, V[pre.length]? = some n := ⟨_, List.getElem?_eq_getElem (by rw [← Hvl.out.1]; exact (List.getElem?_eq_some_iff.1 hj).1)⟩
          have hn8 : 0 ≤ n ∧ n < s1.names.length := Qy.vars_in HI1.out.1 n (by rw [← HV.out]; exact List.mem_of_getElem? hn)
          obtain ⟨nn, rfl⟩ := Int.eq_ofNat_of_zero_le hn8.1
          have hnn : nn < s1.names.length := by omega
          obtain ⟨bx, ox, rfl⟩ : ∃ bx ox, x = ⟨bx, ox, none⟩ := ⟨_, _, HF.out.xnone x (List.mem_of_getElem? hj)⟩
          have hxrb := HF.out.xrb _ (List.mem_of_getElem? hj)
          obtain ⟨tx, csx, hbx, htx⟩ := hP.rows bx hxrb
          have cx := hP.cells _ _ _ hj (Qy.ixV_at hn)
          have cxf := hbx.free ox
          have ci := hP.ibox.cell 0
          simp at ci
          have hnx := Qy.ix_next hn
          obtain ⟨m, hm⟩ : ∃ m, m = Qy.ixM V pre.length := ⟨_, rfl⟩
          have hnd : m.Nodup := by rw [hm]; exact Qy.ixList_nodup _ List.nodup_nil
          rw [← hm] at hP hnx
          have hwf : (Lit.int .i64 (nn : Int)).wf = true := WalkArith.wf_i64 (by omega)
          have hm8 : m.length ≤ 2000 := by
            have h1 : m.length ≤ V.length := by rw [hm]; exact Qy.ixM_le V pre.length
            have h2 := Qy.allVars_le s1.shown s1.atoms s1.tests
            rw [← HV.out] at h2
            omega
          have htne : tx ≠ 63 := by rcases htx with rfl | rfl | rfl <;> decide
          have Htne := Lib.hid htne
          clear htne
          clear HE0 HE1 HE2 Hbel6 Hbox6 Hpar6 Ho6 HLS HLA HLT HI1 Htx6 Hren Hpre Hvl HPI Hseq HV Hxs H0 hs hsz1 hsz2 hN2 hss hsz3 hmb hsz4 hsz5 hmlt hcS hcA hcT hsz6 ha1 ha2 ha3 hn1 hn23 hW0
          obtain ⟨v, ps, hrun, hv⟩ := World.ownsMap.look_ok (w := W.drew) hP.map intLaw Tryd.underlying74 (zeroInt W.drew) (plainElem_int Tryd.underlying3 (WalkArith.wf_i64 (n := 0) (by omega))) (keyOf_int_mk Tryd.underlying3 hwf)
          obtain ⟨cc, rfl, hcc, _⟩ := plainElem_int_inv Tryd.underlying3 hv
          simp only [Prod.mk.injEq] at hcc
          obtain ⟨hat, _⟩ := hcc
          rw [Qy.mapD_at m nn hnd] at hat
          rw [Qy.mapD_has m nn hnd] at hrun
          have HP := Lib.hid hP; have Hj := Lib.hid hj; have Hnx := Lib.hid hnx; have Hbx := Lib.hid hbx; have Hnd := Lib.hid hnd; have Hn := Lib.hid hn; have Hrb := Lib.hid hxrb
          clear hP hj hpx hnx hbx hv hnd hn hxrb hm
          cases hi : m.findIdx? (· == (nn : Int)) with
          | some i =>
            rw [hi] at hrun hat
            injection hat with hat
            injection hat with _ hat
            subst hat
            have hix : Qy.ix m nn = ((i : Int), m) := by unfold Qy.ix; rw [hi]
            have Hix := Lib.hid hix
            clear hi hix
            simp only [Option.isSome_some] at hrun
            gi_wp2
            apply wpIn_cut
            case h =>
              gi_region_with (fail)
              all_goals exact ⟨rfl, rfl⟩
            case k =>
              clear hrun
              gi_wp2
              refine ⟨((KeepsOthers.setCell _ _ _).trans (KeepsOthers.drew _)).from _, (KT.set Hbx.out Htne.out (KT.refl _ W) ox _).drew, ?_⟩
              have hst := (HP.out.store HF.out Hj.out (by rw [Qy.ixV_len]; exact (List.getElem?_eq_some_iff.1 Hn.out).1) (i : Int)).drewN 1
              have h1 := Hnx.out.1
              have h2 := Hnx.out.2
              rw [Hix.out] at h1 h2
              dsimp only
              rw [List.length_append, List.length_singleton, h1, h2]
              exact ⟨by simpa using hsW, hst⟩
          | none =>
            rw [hi] at hrun hat
            injection hat with hat
            injection hat with _ hat
            subst hat
            have hix : Qy.ix m nn = ((m.length : Int), m ++ [(nn : Int)]) := by unfold Qy.ix; rw [hi]
            have Hix := Lib.hid hix
            clear hi hix
            simp only [Option.isSome_none] at hrun
            gi_wp2
            apply wpIn_cut
            case h =>
              gi_region_with (fail)
              all_goals exact ⟨rfl, rfl⟩
            case k =>
              clear hrun
              have hlen := World.ownsMap.len (w := W.drew) HP.out.map Tryd.underlying74 3
              rw [Qy.mapD_size m Hnd.out] at hlen
              gi_wp2
              clear hlen
              obtain ⟨w1, hst, hmp1, htrn⟩ := World.ownsMap.store (w := W.drew.drew) (key := .int .i64 nn) (val := .int .i64 m.length) HP.out.map intLaw Tryd.underlying74 (by unfold maxLen; omega) (keyOf_int_mk Tryd.underlying3 hwf) (plainElem_int Tryd.underlying3 (WalkArith.wf_i64 (n := (m.length : Int)) (by omega)))
              apply wpIn_cut
              case h =>
                gi_region_with (fail)
                all_goals exact ⟨rfl, rfl⟩
              case k =>
                clear hst
                have hg1 := htrn.grown
                have hr1 := (HP.out.drewN 2).kept hg1
                obtain ⟨vq, hq, hownq⟩ := HP.out.res
                obtain ⟨Aq, cq, rfl⟩ := own_form hownq
                have hq1 : Blk w1 w.heap.size 27 #[.slice Aq m.length cq, .slice AS s1.shown.length cS, .slice AA s1.atoms.length cA, .slice AT s1.tests.length cT] := blk_grown (W := W.drewN 2) hq hg1 hr1
                have hownq1 := own_grown (W := W.drewN 2) hownq hg1 hr1
                have hbx1 : Blk w1 bx tx csx := blk_grown (W := W.drewN 2) Hbx.out hg1 hr1
                have hp1 := blk_grown (W := W.drewN 2) HP.out.pbox hg1 hr1
                have hr1' := blk_grown (W := W.drewN 2) HP.out.par hg1 hr1
                have hn1' := own_grown (W := W.drewN 2) HP.out.pn hg1 hr1
                obtain ⟨AN, cN, rfl, hcN, hLN⟩ := own_lies hn1' (s1.names.map strC) (by rw [List.flatMap_def]) (fun c hc => by obtain ⟨x, _, rfl⟩ := List.mem_map.1 hc; rfl) (by rw [List.length_map]) (by omega)
                obtain ⟨nm, hnm⟩ : ∃ nm, s1.names[nn]? = some nm := ⟨_, List.getElem?_eq_getElem hnn⟩
                obtain ⟨bN, oN, rfl, hbN, hcel⟩ := hLN.at_ nn (strC nm) (by rw [List.getElem?_map, hnm]; rfl)
                have d1 := hcel 0 _ rfl
                rw [Nat.mul_one, Nat.add_zero] at d1
                have hgd : s1.names.getD nn [] = nm := by rw [List.getD_eq_getElem?_getD, hnm]; rfl
                have d2 : w1.cell? ⟨bx, ox, none⟩ = some (.int .i64 nn) := (World.cell?_of_block (w := W) (w' := w1) (a := ⟨bx, ox, none⟩) (hbx1.trans Hbx.out.symm)).trans cx
                have d3 := hp1.cell 0; have d4 := hr1'.cell 3; have d5 := hq1.cell 0; have d6 := hq1.free 0
                simp at d3 d4 d5
                have hsz1' : W.heap.size ≤ w1.heap.size := hg1.size
                have l1 := hp1.lt; have l2 := hr1'.lt; have l3 := hbx1.lt; have l5 := hq1.lt
                have n1 := Blk.ne hp1 hq1 (by decide); have n2 := Blk.ne hr1' hq1 (by decide)
                have n3 : bx ≠ w.heap.size := Blk.ne hbx1 hq1 (by rcases htx with rfl | rfl | rfl <;> decide)
                have n4 : bN ≠ w.heap.size := fun e => own_ne hn1' hq1 (by decide) (by rw [e]; rfl)
                obtain ⟨gg, cap, w3', hr, hown3, hgrow3, hat3, hlt3⟩ := run_append_lies (P := Tryd.prog) (w := (w1.alloc (.cells #[.string (Lx.bs nm)] 9)).drew) 22 22 W0.heap.size 9 i0 _ 1 16 Tryd.underlying22 hi0 hz0 hz1 hz2 rfl (by omega) _ m.length _ ((hownq1.alloc _).drew) ⟨w1.heap.size, 0, none⟩ 1 1 [.string (Lx.bs nm)] rfl (World.news_of_block (cs := #[.string (Lx.bs nm)]) (t := 9) (fr := (0, 0)) (heap_alloc_new w1 _)) (by simp [Value.oneCell']) (by omega) (by unfold maxLen; omega) (by omega) (by simp; omega) (w1.heap.size + 1) (by simp)
                have hM := PIx.named HF.out HP.out hq hownq hsW hmp1 hg1 hgd hgrow3 hown3
                have e0 := hM.1.cell 0; have ef0 := hM.1.free 0
                simp at e0
                have hP' := hM.2.1
                have f3 := hP'.pbox.cell 0; have f4 := hP'.par.cell 3
                simp at f3 f4
                have f2 := hP'.cells _ _ _ Hj.out (Qy.ixV_at Hn.out)
                obtain ⟨AN', cN', hAN', _, hLN'⟩ := own_lies hP'.pn (s1.names.map strC) (by rw [List.flatMap_def]) (fun c hc => by obtain ⟨x, _, rfl⟩ := List.mem_map.1 hc; rfl) (by rw [List.length_map]) (by omega)
                injection hAN' with hAN' _ _
                subst hAN'
                obtain ⟨bN', oN', hbo, _, hcel'⟩ := hLN'.at_ nn (strC nm) (by rw [List.getElem?_map, hnm]; rfl)
                injection hbo with hbo
                injection hbo with hb1' hb2'
                subst hb1'; subst hb2'
                have f1 := hcel' 0 _ rfl
                rw [Nat.mul_one, Nat.add_zero] at f1
                have happ := fun x0 x1 x3 x4 x5 x7 x9 x10 x11 x12 x13 x14 x15 x16 x17 x18 x19 x20 x21 x22 x23 x24 x25 x26 x27 x28 x29 x30 x31 x32 x33 x34 x35 x36 x37 x38 x39 x40 x41 x42 x43 x44 x45 x46 x47 x48 x49 x50 x51 x52 x53 x54 x55 x56 x57 x58 x59 x60 x61 x62 x63 x64 x65 x66 x67 x68 x69 x70 x71 x72 => parse_app lr w.heap.size (w4.heap.size + 1) w4.heap.size bx ox bN oN nn m.length cq s1.names.length cN gg cap Aq (Lx.bs nm) w1 w3' (fun w5 => PIx w.heap.size w4.heap.size (w4.heap.size + 1) (w6.heap.size + 1) w6.heap.size w W0 #[.slice A1 s1.toks.length cc1, .int .i64 s.size, .map (some mb), .slice (some ⟨bN, oN, none⟩) s1.names.length cN, .slice none 0 0, .slice AS s1.shown.length cS, .slice AA s1.atoms.length cA, .slice AT s1.tests.length cT] (.slice (some ⟨bN, oN, none⟩) s1.names.length cN) (.slice AS s1.shown.length cS) (.slice AA s1.atoms.length cA) (.slice AT s1.tests.length cT) s1.names xs (rbOf AS AA AT) (m ++ [(nn : Int)]) (Qy.ixV V pre.length) w5 ∧ KeepsFrom W0.heap.size W w5 ∧ KT 63 W w5) x0 x1 x3 x4 x5 x7 x9 x10 x11 x12 x13 x14 x15 x16 x17 x18 x19 x20 x21 x22 x23 x24 x25 x26 x27 x28 x29 x30 x31 x32 x33 x34 x35 x36 x37 x38 x39 x40 x41 x42 x43 x44 x45 x46 x47 x48 x49 x50 x51 x52 x53 x54 x55 x56 x57 x58 x59 x60 x61 x62 x63 x64 x65 x66 x67 x68 x69 x70 x71 x72 d3 d4 d2 d1 d5 hnn hf6 l1 l2 l3 hbN l5 n1 n2 n3 n4 hr e0 ef0 f3 f4 f2 f1 hM.2
                have Happ := Lib.hid happ
                clear happ hM hr hown3 hgrow3 hat3 hlt3 f1 f2 f3 f4 e0 ef0 hP' hLN' hcel' l1 l2 l3 l5 n1 n2 n3 n4 hq hownq hg1 hownq1 hbx1 hp1 hr1' hn1' hcel hLN hnm hcN hq1 hmp1 htrn hgd hr1 d1 d2 d3 d4 d5 d6
                gi_wp2
                refine wpIn_cutA _ _ (Happ.out _ _ _ _ _ _ _ _ _ _ _ _ _ _ _ _ _ _ _ _ _ _ _ _ _ _ _ _ _ _ _ _ _ _ _ _ _ _ _ _ _ _ _ _ _ _ _ _ _ _ _ _ _ _ _ _ _ _ _ _ _ _ _ _ _ _ _ _ _ _) ?_
                · rintro gg cap w5 ⟨hP5, hK5, hT5⟩
                  obtain ⟨tx5, cs5, hb5, ht5⟩ := hP5.rows bx Hrb.out
                  have hx5 := hP5.cells _ _ _ Hj.out (Qy.ixV_at Hn.out)
                  have hf5 := hb5.free ox
                  have hst := (hP5.store HF.out Hj.out (by rw [Qy.ixV_len]; exact (List.getElem?_eq_some_iff.1 Hn.out).1) (m.length : Nat))
                  have hsz5 := hK5.size
                  have hT6 := KT.set hb5 (show tx5 ≠ 63 by rcases ht5 with rfl | rfl | rfl <;> decide) hT5 ox (.int .i64 (m.length : Nat))
                  have HS := Lib.hid hst; have HK5 := Lib.hid hK5; have HT6 := Lib.hid hT6
                  clear hP5 hK5 hT5 hb5 ht5 hst hT6
                  gi_wp2
                  refine ⟨HK5.out.trans ((KeepsOthers.setCell _ _ _).from _), HT6.out, ?_⟩
                  have h1 := Hnx.out.1
                  have h2 := Hnx.out.2
                  rw [Hix.out] at h1 h2
                  dsimp only
                  rw [List.length_append, List.length_singleton, h1, h2]
                  exact ⟨by have := HK5.out.size; simp [World.setCell] at this ⊢; omega, HS.out⟩
        case done =>
          rintro D W hD ⟨hsW, hP⟩ hdef
          have hxl : xs.length = V.length := Hvl.out.1
          rw [hxl] at hP
          have eM : Qy.ixM V V.length = (Qy.ixList [] V).2 := by unfold Qy.ixM; rw [List.take_length]
          have eV : Qy.ixV V V.length = (Qy.ixList [] V).1 := by unfold Qy.ixV; rw [List.take_length, List.drop_length, List.append_nil]
          rw [eM, eV] at hP
          obtain ⟨vq, hq, hownq⟩ := hP.res
          obtain ⟨Aq, cq, rfl⟩ := own_form hownq
          have q0 := hq.cell 0; have q1 := hq.cell 1; have q2 := hq.cell 2; have q3 := hq.cell 3
          have g0 := hq.free 0; have g1 := hq.free 1; have g2 := hq.free 2; have g3 := hq.free 3
          have r1 := hP.r1.cell 0; have r2 := hP.r2.cell 0; have t1 := hP.r1.free 0; have t2 := hP.r2.free 0
          simp at q0 q1 q2 q3 r1 r2
          have HP := Lib.hid hP; have Hq := Lib.hid hq; have Hownq := Lib.hid hownq; have Hdef := Lib.hid hdef
          have hml : (Qy.ixList [] V).2.length ≤ 2000 := by
            have h1 : (Qy.ixList [] V).2.length ≤ V.length := by have := Qy.ixList_le V []; simpa using this
            have h2 := Qy.allVars_le s1.shown s1.atoms s1.tests
            rw [← HV.out] at h2
            omega
          clear hP hq hownq hdef eM eV hxl
          go_wp2_with fail
          refine parse_done _ w W (Qy.renumber s1) D _ _ _ _ _ rfl rfl rfl q0 q1 q2 q3 r1 r2 HP.out.bel ?_ Hren.out Hdef.out (by omega)
          have hPo := HP.out
          have hOw := Hownq.out
          rw [Hxs.out, HV.out, hW0] at hPo
          rw [HV.out, hW0] at hOw
          rw [HV.out] at hml
          have hqn := query_now Ho6.out HE0.out HLS.out HLA.out HLT.out Htx6.out (by omega) hPo (by omega) hOw
          rw [HV.out]
          exact hqn
        case stop =>
          rintro D c pre W _ _ h
          exact h.elim
end Go.Proofs.YtjonaidancomgaaDoor
