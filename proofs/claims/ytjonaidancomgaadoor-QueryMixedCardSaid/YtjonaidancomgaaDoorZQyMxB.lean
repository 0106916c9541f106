/- Parts of the proof, joined into one text: QyMxB, QyMxC, QyRange. -/
import Derived.Test.YtjonaidancomgaaDoorZQyParse
import Derived.RangeFuncNested
import Derived.RangeFuncBound
import Derived.RangeFuncCalls
import Derived.RangeFuncLeaves
import Derived.Test.YtjonaidancomgaaDoorZLxE

namespace Go.Proofs.YtjonaidancomgaaDoor
open Go.RowKit Go.Maps Go.WideMaps

/-- What printed owns: the variables met (ob), the closure (ib), its box of the query (qb), the query that it makes (xb). -/
structure PrD (B ob ib qb xb : Nat) (qcs : Array Value) (m sh : List Int) (at0 : List Qy.Atom) (ts : List Qy.Test) (ns : List (List UInt8)) (w : World) : Prop where
  ex : ∃ vo vn vs va vt, Blk w ob 23 #[vo] ∧ Blk w xb 27 #[vn, vs, va, vt] ∧ w.ownsRow B 3 1 vo m.length (m.flatMap intC) ∧ w.ownsRow B 9 1 vn ns.length (ns.flatMap strC) ∧
    w.ownsRow B 3 1 vs sh.length (sh.flatMap intC) ∧ w.ownsRow B 43 9 va at0.length (at0.flatMap atomC) ∧ w.ownsRow B 45 5 vt ts.length (ts.flatMap testC) ∧ (vs.ownBlock = none ∨ vo.ownBlock ≠ vs.ownBlock)
  idx : Blk w ib 64 #[idxF ob]
  box : Blk w qb 27 qcs
  far : qb ≠ xb
  ge : B ≤ ob ∧ B ≤ ib ∧ B ≤ qb ∧ B ≤ xb
/-- Blocks of other types than int and []int are at0 they were. -/
structure KN (w w' : World) : Prop where
  size : w.heap.size ≤ w'.heap.size
  keep : ∀ (b : Nat) (t : TypeId) (cs : Array Value), Blk w b t cs → t ≠ 23 → t ≠ 3 → Blk w' b t cs
section
variable {B ob ib qb xb : Nat} {qcs : Array Value} {m sh : List Int} {at0 : List Qy.Atom} {ts : List Qy.Test} {ns : List (List UInt8)} {w w' : World}
theorem PrD.next (h : PrD B ob ib qb xb qcs m sh at0 ts ns w) (hb : Below w.heap.size w w') : PrD B ob ib qb xb qcs m sh at0 ts ns w' := by
  obtain ⟨⟨vo, vn, vs, va, vt, h1, h2, h3, h4, h5, h6, h7, h8⟩, hi, hq, hf, hg⟩ := h
  exact ⟨⟨vo, vn, vs, va, vt, h1.below hb h1.lt, h2.below hb h2.lt, own_below h3 hb, own_below h4 hb, own_below h5 hb, own_below h6 hb, own_below h7 hb, h8⟩, hi.below hb hi.lt, hq.below hb hq.lt, hf, hg⟩
/-- A cell of a block beside all these is written. -/
theorem PrD.set (h : PrD B ob ib qb xb qcs m sh at0 ts ns w) {b : Nat} {t : TypeId} {cs : Array Value} (_hb : Blk w b t cs) (hne : b ≠ ob ∧ b ≠ ib ∧ b ≠ qb ∧ b ≠ xb) (ho : ∀ {e : TypeId} {s n : Nat} {v : Value} {x : List Value}, w.ownsRow B e s v n x → v.ownBlock ≠ some b) (i : Nat) (u : Value) : PrD B ob ib qb xb qcs m sh at0 ts ns (w.setCell ⟨b, i, none⟩ u) := by
  obtain ⟨⟨vo, vn, vs, va, vt, h1, h2, h3, h4, h5, h6, h7, h8⟩, hi, hq, hf, hg⟩ := h
  obtain ⟨n1, n2, n3, n4⟩ := hne
  exact ⟨⟨vo, vn, vs, va, vt, h1.far (p := ⟨b, i, none⟩) (fun e => n1 e.symm) u, h2.far (p := ⟨b, i, none⟩) (fun e => n4 e.symm) u, own_setCell_far h3 (ho h3) u, own_setCell_far h4 (ho h4) u, own_setCell_far h5 (ho h5) u, own_setCell_far h6 (ho h6) u, own_setCell_far h7 (ho h7) u, h8⟩,
    hi.far (p := ⟨b, i, none⟩) (fun e => n2 e.symm) u, hq.far (p := ⟨b, i, none⟩) (fun e => n3 e.symm) u, hf, hg⟩
theorem KN.refl (w : World) : KN w w := ⟨Nat.le_refl _, fun _ _ _ h _ _ => h⟩
theorem KN.trans {w'' : World} (h : KN w w') (k : KN w' w'') : KN w w'' := ⟨Nat.le_trans h.size k.size, fun b t cs hb h1 h2 => k.keep b t cs (h.keep b t cs hb h1 h2) h1 h2⟩

theorem PrD.step {vo vo' vn vs va vt : Value} {m' : List Int} (h1 : Blk w ob 23 #[vo]) (h2 : Blk w xb 27 #[vn, vs, va, vt]) (h3 : w.ownsRow B 3 1 vo m.length (m.flatMap intC)) (h4 : w.ownsRow B 9 1 vn ns.length (ns.flatMap strC))
    (h5 : w.ownsRow B 3 1 vs sh.length (sh.flatMap intC)) (h6 : w.ownsRow B 43 9 va at0.length (at0.flatMap atomC)) (h7 : w.ownsRow B 45 5 vt ts.length (ts.flatMap testC)) (h8 : vs.ownBlock = none ∨ vo.ownBlock ≠ vs.ownBlock)
    (hi : Blk w ib 64 #[idxF ob]) (hq : Blk w qb 27 qcs) (hf : qb ≠ xb) (hg : B ≤ ob ∧ B ≤ ib ∧ B ≤ qb ∧ B ≤ xb)
    (k1 : Blk w' ob 23 #[vo']) (k2 : w'.ownsRow B 3 1 vo' m'.length (m'.flatMap intC)) (k3 : vo'.ownBlock = vo.ownBlock ∨ ∃ g, vo'.ownBlock = some g ∧ w.heap.size ≤ g) (k4 : FrO ob vo w w') :
    (PrD B ob ib qb xb qcs m' sh at0 ts ns w' ∧ (∀ i, w'.cell? ⟨xb, i, none⟩ = w.cell? ⟨xb, i, none⟩)) ∧ KN w w' := by
  have hk : KN w w' := ⟨k4.size, fun b t cs hb n1 n2 => k4.blk hb (Blk.ne hb h1 n1) (own_ne h3 hb n2.symm)⟩
  have hx := hk.keep _ _ _ h2 (by decide) (by decide)
  refine ⟨⟨⟨⟨vo', vn, vs, va, vt, k1, hx, k2, k4.own h4 (own_ne h4 h1 (by decide)) ?_, k4.own h5 (own_ne h5 h1 (by decide)) h8, k4.own h6 (own_ne h6 h1 (by decide)) ?_, k4.own h7 (own_ne h7 h1 (by decide)) ?_, ?_⟩, hk.keep _ _ _ hi (by decide) (by decide), hk.keep _ _ _ hq (by decide) (by decide), hf, hg⟩, fun i => by rw [hx.cell i, h2.cell i]⟩, hk⟩
  · rcases own_apart h4 h3 (by decide) with h | h
    · exact .inl h
    · exact .inr fun e => h e.symm
  · rcases own_apart h6 h3 (by decide) with h | h
    · exact .inl h
    · exact .inr fun e => h e.symm
  · rcases own_apart h7 h3 (by decide) with h | h
    · exact .inl h
    · exact .inr fun e => h e.symm
  · rcases k3 with k3 | ⟨g, k3, hgw⟩
    · rw [k3]; exact h8
    · cases hv : vs.ownBlock with
      | none => exact .inl rfl
      | some z =>
        right
        rw [k3]
        intro e
        injection e with e
        have := own_lt h5 hv
        omega
end

/-- What a call of index leaves of all that printed owns. -/
def IdxD (B ob ib qb xb : Nat) (qcs : Array Value) (m sh : List Int) (at0 : List Qy.Atom) (ts : List Qy.Test) (ns : List (List UInt8)) (n : Int) (w : World) (e : Ending) (w' : World) : Prop :=
  e = .returned (.int .i64 (Qy.ix m n).1) ∧ PrD B ob ib qb xb qcs (Qy.ix m n).2 sh at0 ts ns w' ∧ (∀ i, w'.cell? ⟨xb, i, none⟩ = w.cell? ⟨xb, i, none⟩) ∧ KN w w' ∧ Below B w w'
theorem lIdxD {B ob ib qb xb : Nat} {qcs : Array Value} {m sh : List Int} {at0 : List Qy.Atom} {ts : List Qy.Test} {ns : List (List UInt8)} (n : Int) (w : World) (h : PrD B ob ib qb xb qcs m sh at0 ts ns w) (hl : m.length ≤ 1000) :
    Calls Tryd.prog 21 #[.int .i64 n, .pointer (some ⟨ob, 0, none⟩)] w (IdxD B ob ib qb xb qcs m sh at0 ts ns n w) := by
  obtain ⟨⟨vo, vn, vs, va, vt, h1, h2, h3, h4, h5, h6, h7, h8⟩, hi, hq, hf, hg⟩ := h
  refine (lIdx B ob vo m n w h1 h3 hg.1 hl).mono fun e w' ⟨he, vo', k1, k2, k3, k4, k5⟩ => ?_
  obtain ⟨⟨p1, p2⟩, p3⟩ := PrD.step h1 h2 h3 h4 h5 h6 h7 h8 hi hq hf hg k1 k2 k3 k4
  exact ⟨he, p1, p2, p3, k5⟩
def ArgD (B ob ib qb xb : Nat) (qcs : Array Value) (m sh : List Int) (at0 : List Qy.Atom) (ts : List Qy.Test) (ns : List (List UInt8)) (a : Qy.Arg) (w : World) (e : Ending) (w' : World) : Prop :=
  e = .returned (.agg #[.bool (Qy.ixArg m a).1.var, .int .i64 (Qy.ixArg m a).1.n]) ∧ PrD B ob ib qb xb qcs (Qy.ixArg m a).2 sh at0 ts ns w' ∧ (∀ i, w'.cell? ⟨xb, i, none⟩ = w.cell? ⟨xb, i, none⟩) ∧ KN w w' ∧ Below B w w'
theorem lArgD {B ob ib qb xb : Nat} {qcs : Array Value} {m sh : List Int} {at0 : List Qy.Atom} {ts : List Qy.Test} {ns : List (List UInt8)} (a : Qy.Arg) (w : World) (h : PrD B ob ib qb xb qcs m sh at0 ts ns w) (hl : m.length ≤ 1000) :
    Calls Tryd.prog 22 #[.agg #[.bool a.var, .int .i64 a.n], .pointer (some ⟨ib, 0, none⟩)] w (ArgD B ob ib qb xb qcs m sh at0 ts ns a w) := by
  obtain ⟨⟨vo, vn, vs, va, vt, h1, h2, h3, h4, h5, h6, h7, h8⟩, hi, hq, hf, hg⟩ := h
  refine (lArg B ob ib vo m a w h1 h3 hi hg.1 hl).mono fun e w' ⟨he, vo', k1, k2, k3, k4, k5⟩ => ?_
  obtain ⟨⟨p1, p2⟩, p3⟩ := PrD.step h1 h2 h3 h4 h5 h6 h7 h8 hi hq hf hg k1 k2 k3 k4
  exact ⟨he, p1, p2, p3, k5⟩
end Go.Proofs.YtjonaidancomgaaDoor

namespace Go.Proofs.YtjonaidancomgaaDoor
open Go.RowKit Go.Maps Go.WideMaps

section
variable {B ob ib qb xb : Nat} {qcs : Array Value} {m sh : List Int} {at0 : List Qy.Atom} {ts : List Qy.Test} {ns : List (List UInt8)} {w w' : World}
/-- A row of the query that is made has grown, and its slice is written back. -/
theorem grow_own {b s n s2 n2 : Nat} {e e2 : TypeId} {v v2 u : Value} {x x2 : List Value} {w1 w3 : World} {xcs : Array Value} {i : Nat} (h : w.ownsRow b e s v n x) (_h2 : w.ownsRow b e2 s2 v2 n2 x2) (ha : v.ownBlock = none ∨ v.ownBlock ≠ v2.ownBlock)
    (hb1 : Below w.heap.size w w1) (hgrow : w1.grownBy w3 v2.ownBlock) (hx : Blk w3 xb 27 xcs) (he : e ≠ 27) : (w3.setCell ⟨xb, i, none⟩ u).ownsRow b e s v n x := by
  have h3 := (own_below h hb1).kept hgrow ha
  exact own_setCell_far h3 (own_ne h3 hx he) u
theorem grow_blk {b s2 n2 : Nat} {e2 : TypeId} {v2 : Value} {x2 : List Value} {w1 w3 : World} {k : Nat} {t : TypeId} {cs : Array Value} (hk : Blk w k t cs) (h2 : w.ownsRow b e2 s2 v2 n2 x2) (hb1 : Below w.heap.size w w1) (hgrow : w1.grownBy w3 v2.ownBlock) (he : e2 ≠ t) : Blk w3 k t cs :=
  (hk.below hb1 hk.lt).grown hgrow (own_ne h2 hk he)
theorem grow_bel {b s2 n2 : Nat} {e2 : TypeId} {v2 : Value} {x2 : List Value} {w1 w3 : World} (h2 : w.ownsRow b e2 s2 v2 n2 x2) (hb : b ≤ w.heap.size) (hb1 : Below w.heap.size w w1) (hgrow : w1.grownBy w3 v2.ownBlock) : Below b w w3 :=
  Below.grown (hb1.mono hb) hgrow (Nat.le_trans hb hb1.size) (fun _ hk => own_ge h2 hk)

theorem PrD.app1 {vs : Value} (h : PrD B ob ib qb xb qcs m sh at0 ts ns w) (hc : w.cell? ⟨xb, 1, none⟩ = some vs) :
    w.frozen? ⟨xb, 1, none⟩ = false ∧ xb < w.heap.size ∧ B ≤ w.heap.size ∧ w.ownsRow B 3 1 vs sh.length (sh.flatMap intC) ∧
    ∀ (w1 w3 : World) gg cap (x : Int), Below w.heap.size w w1 → w1.grownBy w3 vs.ownBlock → (vs.ownBlock = some gg ∨ w.heap.size ≤ gg) → w3.ownsRow B 3 1 (.slice (some ⟨gg, 0, none⟩) (sh.length + 1) cap) (sh.length + 1) (sh.flatMap intC ++ [.int .i64 x]) →
      (w3.cell? ⟨xb, 1, none⟩ = some vs ∧ w3.frozen? ⟨xb, 1, none⟩ = false) ∧ PrD B ob ib qb xb qcs m (sh ++ [x]) at0 ts ns (w3.setCell ⟨xb, 1, none⟩ (.slice (some ⟨gg, 0, none⟩) (sh.length + 1) cap)) ∧ Below B w (w3.setCell ⟨xb, 1, none⟩ (.slice (some ⟨gg, 0, none⟩) (sh.length + 1) cap)) := by
  obtain ⟨⟨vo, vn, vs', va, vt, h1, h2, h3, h4, h5, h6, h7, h8⟩, hi, hq, hf, hg⟩ := h
  have e1 := h2.cell 1
  rw [hc] at e1
  obtain rfl : vs = vs' := by simpa using e1
  have hBw : B ≤ w.heap.size := by have := h2.lt; omega
  refine ⟨h2.free 1, h2.lt, hBw, h5, fun w1 w3 gg cap x hb1 hgrow hat hown => ?_⟩
  have hx3 := grow_blk h2 h5 hb1 hgrow (by decide)
  have e5 : ([x] : List Int).flatMap intC = [.int .i64 x] := by simp [intC]
  have h8' : vo.ownBlock = none ∨ vo.ownBlock ≠ vs.ownBlock := by
    cases hv : vo.ownBlock with
    | none => exact .inl rfl
    | some z =>
      right
      rcases h8 with h | h
      · rw [h]; exact fun e => by cases e
      · rw [← hv]; exact h
  refine ⟨⟨by rw [hx3.cell 1]; rfl, hx3.free 1⟩, ⟨⟨vo, vn, _, va, vt, (grow_blk h1 h5 hb1 hgrow (by decide)).far (p := ⟨xb, 1, none⟩) (Blk.ne h1 h2 (by decide)) _, by have := hx3.set 1 (.slice (some ⟨gg, 0, none⟩) (sh.length + 1) cap); simpa using this, grow_own h3 h5 h8' hb1 hgrow hx3 (by decide), grow_own h4 h5 (own_apart h4 h5 (by decide)) hb1 hgrow hx3 (by decide), ?_, grow_own h6 h5 (own_apart h6 h5 (by decide)) hb1 hgrow hx3 (by decide), grow_own h7 h5 (own_apart h7 h5 (by decide)) hb1 hgrow hx3 (by decide), ?_⟩,
    (grow_blk hi h5 hb1 hgrow (by decide)).far (p := ⟨xb, 1, none⟩) (Blk.ne hi h2 (by decide)) _, (grow_blk hq h5 hb1 hgrow (by decide)).far (p := ⟨xb, 1, none⟩) hf _, hf, hg⟩, (grow_bel h5 hBw hb1 hgrow).setCell (p := ⟨xb, 1, none⟩) hg.2.2.2 _⟩
  · rw [List.length_append, List.flatMap_append, e5]
    exact own_setCell_far hown (own_ne hown hx3 (by decide)) _
  · right
    rcases hat with h | h
    · rcases h8 with h9 | h9
      · rw [h9] at h; cases h
      · rw [h] at h9; exact h9
    · intro e
      have := own_lt h3 (b := gg) e
      omega
theorem PrD.app0 {vn : Value} (h : PrD B ob ib qb xb qcs m sh at0 ts ns w) (hc : w.cell? ⟨xb, 0, none⟩ = some vn) :
    w.frozen? ⟨xb, 0, none⟩ = false ∧ xb < w.heap.size ∧ B ≤ w.heap.size ∧ w.ownsRow B 9 1 vn ns.length (ns.flatMap strC) ∧
    ∀ (w1 w3 : World) gg cap (x : List UInt8), Below w.heap.size w w1 → w1.grownBy w3 vn.ownBlock → w3.ownsRow B 9 1 (.slice (some ⟨gg, 0, none⟩) (ns.length + 1) cap) (ns.length + 1) (ns.flatMap strC ++ [.string (Lx.bs x)]) →
      (w3.cell? ⟨xb, 0, none⟩ = some vn ∧ w3.frozen? ⟨xb, 0, none⟩ = false) ∧ PrD B ob ib qb xb qcs m sh at0 ts (ns ++ [x]) (w3.setCell ⟨xb, 0, none⟩ (.slice (some ⟨gg, 0, none⟩) (ns.length + 1) cap)) ∧ Below B w (w3.setCell ⟨xb, 0, none⟩ (.slice (some ⟨gg, 0, none⟩) (ns.length + 1) cap)) ∧ ∀ i, (w3.setCell ⟨xb, 0, none⟩ (.slice (some ⟨gg, 0, none⟩) (ns.length + 1) cap)).cell? ⟨ob, i, none⟩ = w.cell? ⟨ob, i, none⟩ := by
  obtain ⟨⟨vo, vn', vs, va, vt, h1, h2, h3, h4, h5, h6, h7, h8⟩, hi, hq, hf, hg⟩ := h
  have e1 := h2.cell 0
  rw [hc] at e1
  obtain rfl : vn = vn' := by simpa using e1
  have hBw : B ≤ w.heap.size := by have := h2.lt; omega
  refine ⟨h2.free 0, h2.lt, hBw, h4, fun w1 w3 gg cap x hb1 hgrow hown => ?_⟩
  have hx3 := grow_blk h2 h4 hb1 hgrow (by decide)
  have e5 : ([x] : List (List UInt8)).flatMap strC = [.string (Lx.bs x)] := by simp [strC]
  refine ⟨⟨by rw [hx3.cell 0]; rfl, hx3.free 0⟩, ⟨⟨vo, _, vs, va, vt, (grow_blk h1 h4 hb1 hgrow (by decide)).far (p := ⟨xb, 0, none⟩) (Blk.ne h1 h2 (by decide)) _, by have := hx3.set 0 (.slice (some ⟨gg, 0, none⟩) (ns.length + 1) cap); simpa using this, grow_own h3 h4 (own_apart h3 h4 (by decide)) hb1 hgrow hx3 (by decide), ?_, grow_own h5 h4 (own_apart h5 h4 (by decide)) hb1 hgrow hx3 (by decide), grow_own h6 h4 (own_apart h6 h4 (by decide)) hb1 hgrow hx3 (by decide), grow_own h7 h4 (own_apart h7 h4 (by decide)) hb1 hgrow hx3 (by decide), h8⟩,
    (grow_blk hi h4 hb1 hgrow (by decide)).far (p := ⟨xb, 0, none⟩) (Blk.ne hi h2 (by decide)) _, (grow_blk hq h4 hb1 hgrow (by decide)).far (p := ⟨xb, 0, none⟩) hf _, hf, hg⟩, (grow_bel h4 hBw hb1 hgrow).setCell (p := ⟨xb, 0, none⟩) hg.2.2.2 _, fun i => by rw [((grow_blk h1 h4 hb1 hgrow (by decide)).far (p := ⟨xb, 0, none⟩) (Blk.ne h1 h2 (by decide)) _).cell i, h1.cell i]⟩
  rw [List.length_append, List.flatMap_append, e5]
  exact own_setCell_far hown (own_ne hown hx3 (by decide)) _
theorem PrD.app2 {va : Value} (h : PrD B ob ib qb xb qcs m sh at0 ts ns w) (hc : w.cell? ⟨xb, 2, none⟩ = some va) :
    w.frozen? ⟨xb, 2, none⟩ = false ∧ xb < w.heap.size ∧ B ≤ w.heap.size ∧ w.ownsRow B 43 9 va at0.length (at0.flatMap atomC) ∧
    ∀ (w1 w3 : World) gg cap (x : Qy.Atom), Below w.heap.size w w1 → w1.grownBy w3 va.ownBlock → w3.ownsRow B 43 9 (.slice (some ⟨gg, 0, none⟩) (at0.length + 1) cap) (at0.length + 1) (at0.flatMap atomC ++ atomC x) →
      (w3.cell? ⟨xb, 2, none⟩ = some va ∧ w3.frozen? ⟨xb, 2, none⟩ = false) ∧ PrD B ob ib qb xb qcs m sh (at0 ++ [x]) ts ns (w3.setCell ⟨xb, 2, none⟩ (.slice (some ⟨gg, 0, none⟩) (at0.length + 1) cap)) ∧ Below B w (w3.setCell ⟨xb, 2, none⟩ (.slice (some ⟨gg, 0, none⟩) (at0.length + 1) cap)) := by
  obtain ⟨⟨vo, vn, vs, va', vt, h1, h2, h3, h4, h5, h6, h7, h8⟩, hi, hq, hf, hg⟩ := h
  have e1 := h2.cell 2
  rw [hc] at e1
  obtain rfl : va = va' := by simpa using e1
  have hBw : B ≤ w.heap.size := by have := h2.lt; omega
  refine ⟨h2.free 2, h2.lt, hBw, h6, fun w1 w3 gg cap x hb1 hgrow hown => ?_⟩
  have hx3 := grow_blk h2 h6 hb1 hgrow (by decide)
  have e5 : ([x] : List Qy.Atom).flatMap atomC = atomC x := by simp
  refine ⟨⟨by rw [hx3.cell 2]; rfl, hx3.free 2⟩, ⟨⟨vo, vn, vs, _, vt, (grow_blk h1 h6 hb1 hgrow (by decide)).far (p := ⟨xb, 2, none⟩) (Blk.ne h1 h2 (by decide)) _, by have := hx3.set 2 (.slice (some ⟨gg, 0, none⟩) (at0.length + 1) cap); simpa using this, grow_own h3 h6 (own_apart h3 h6 (by decide)) hb1 hgrow hx3 (by decide), grow_own h4 h6 (own_apart h4 h6 (by decide)) hb1 hgrow hx3 (by decide), grow_own h5 h6 (own_apart h5 h6 (by decide)) hb1 hgrow hx3 (by decide), ?_, grow_own h7 h6 (own_apart h7 h6 (by decide)) hb1 hgrow hx3 (by decide), h8⟩,
    (grow_blk hi h6 hb1 hgrow (by decide)).far (p := ⟨xb, 2, none⟩) (Blk.ne hi h2 (by decide)) _, (grow_blk hq h6 hb1 hgrow (by decide)).far (p := ⟨xb, 2, none⟩) hf _, hf, hg⟩, (grow_bel h6 hBw hb1 hgrow).setCell (p := ⟨xb, 2, none⟩) hg.2.2.2 _⟩
  rw [List.length_append, List.flatMap_append, e5]
  exact own_setCell_far hown (own_ne hown hx3 (by decide)) _
theorem PrD.app3 {vt : Value} (h : PrD B ob ib qb xb qcs m sh at0 ts ns w) (hc : w.cell? ⟨xb, 3, none⟩ = some vt) :
    w.frozen? ⟨xb, 3, none⟩ = false ∧ xb < w.heap.size ∧ B ≤ w.heap.size ∧ w.ownsRow B 45 5 vt ts.length (ts.flatMap testC) ∧
    ∀ (w1 w3 : World) gg cap (x : Qy.Test), Below w.heap.size w w1 → w1.grownBy w3 vt.ownBlock → w3.ownsRow B 45 5 (.slice (some ⟨gg, 0, none⟩) (ts.length + 1) cap) (ts.length + 1) (ts.flatMap testC ++ testC x) →
      (w3.cell? ⟨xb, 3, none⟩ = some vt ∧ w3.frozen? ⟨xb, 3, none⟩ = false) ∧ PrD B ob ib qb xb qcs m sh at0 (ts ++ [x]) ns (w3.setCell ⟨xb, 3, none⟩ (.slice (some ⟨gg, 0, none⟩) (ts.length + 1) cap)) ∧ Below B w (w3.setCell ⟨xb, 3, none⟩ (.slice (some ⟨gg, 0, none⟩) (ts.length + 1) cap)) := by
  obtain ⟨⟨vo, vn, vs, va, vt', h1, h2, h3, h4, h5, h6, h7, h8⟩, hi, hq, hf, hg⟩ := h
  have e1 := h2.cell 3
  rw [hc] at e1
  obtain rfl : vt = vt' := by simpa using e1
  have hBw : B ≤ w.heap.size := by have := h2.lt; omega
  refine ⟨h2.free 3, h2.lt, hBw, h7, fun w1 w3 gg cap x hb1 hgrow hown => ?_⟩
  have hx3 := grow_blk h2 h7 hb1 hgrow (by decide)
  have e5 : ([x] : List Qy.Test).flatMap testC = testC x := by simp
  refine ⟨⟨by rw [hx3.cell 3]; rfl, hx3.free 3⟩, ⟨⟨vo, vn, vs, va, _, (grow_blk h1 h7 hb1 hgrow (by decide)).far (p := ⟨xb, 3, none⟩) (Blk.ne h1 h2 (by decide)) _, by have := hx3.set 3 (.slice (some ⟨gg, 0, none⟩) (ts.length + 1) cap); simpa using this, grow_own h3 h7 (own_apart h3 h7 (by decide)) hb1 hgrow hx3 (by decide), grow_own h4 h7 (own_apart h4 h7 (by decide)) hb1 hgrow hx3 (by decide), grow_own h5 h7 (own_apart h5 h7 (by decide)) hb1 hgrow hx3 (by decide), grow_own h6 h7 (own_apart h6 h7 (by decide)) hb1 hgrow hx3 (by decide), ?_, h8⟩,
    (grow_blk hi h7 hb1 hgrow (by decide)).far (p := ⟨xb, 3, none⟩) (Blk.ne hi h2 (by decide)) _, (grow_blk hq h7 hb1 hgrow (by decide)).far (p := ⟨xb, 3, none⟩) hf _, hf, hg⟩, (grow_bel h7 hBw hb1 hgrow).setCell (p := ⟨xb, 3, none⟩) hg.2.2.2 _⟩
  rw [List.length_append, List.flatMap_append, e5]
  exact own_setCell_far hown (own_ne hown hx3 (by decide)) _

/-- Beside what printed owns: a block p of its own. -/
structure PrL (B ob ib qb xb : Nat) (qcs : Array Value) (m sh : List Int) (at0 : List Qy.Atom) (ts : List Qy.Test) (ns : List (List UInt8)) (T : TypeId) (p : Nat) (cs : Array Value) (w : World) : Prop where
  pr : PrD B ob ib qb xb qcs m sh at0 ts ns w
  blk : Blk w p T cs
  ge : B ≤ p
  far : ∀ j v, w.cell? ⟨xb, j, none⟩ = some v → v.ownBlock ≠ some p
theorem PrL.new (h : PrD B ob ib qb xb qcs m sh at0 ts ns w) (T : TypeId) (cs : Array Value) : PrL B ob ib qb xb qcs m sh at0 ts ns T w.heap.size cs (w.alloc (.cells cs T)) := by
  have hp := h.next ((Below.refl _ _).alloc (Nat.le_refl _) (.cells cs T))
  obtain ⟨⟨vo, vn, vs, va, vt, h1, h2, h3, h4, h5, h6, h7, h8⟩, hi, hq, hf, hg⟩ := h
  refine ⟨hp, Blk.new _ _ _, by have := h2.lt; omega, fun j v hc e => ?_⟩
  rw [cell_alloc_old w _ xb j h2.lt, h2.cell j] at hc
  match j, hc with
  | 0, hc => obtain rfl : vn = v := by simpa using hc
             exact absurd (own_lt h4 e) (Nat.lt_irrefl _)
  | 1, hc => obtain rfl : vs = v := by simpa using hc
             exact absurd (own_lt h5 e) (Nat.lt_irrefl _)
  | 2, hc => obtain rfl : va = v := by simpa using hc
             exact absurd (own_lt h6 e) (Nat.lt_irrefl _)
  | 3, hc => obtain rfl : vt = v := by simpa using hc
             exact absurd (own_lt h7 e) (Nat.lt_irrefl _)
  | j + 4, hc => simp at hc
variable {T : TypeId} {p : Nat} {cs : Array Value}
theorem PrL.step {m' : List Int} (h : PrL B ob ib qb xb qcs m sh at0 ts ns T p cs w) (hT : T ≠ 23 ∧ T ≠ 3) (k1 : PrD B ob ib qb xb qcs m' sh at0 ts ns w') (k2 : ∀ i, w'.cell? ⟨xb, i, none⟩ = w.cell? ⟨xb, i, none⟩) (k3 : KN w w') :
    PrL B ob ib qb xb qcs m' sh at0 ts ns T p cs w' := ⟨k1, k3.keep _ _ _ h.blk hT.1 hT.2, h.ge, fun j v hc => h.far j v (by rw [← k2 j]; exact hc)⟩
theorem PrL.set (h : PrL B ob ib qb xb qcs m sh at0 ts ns T p cs w) (hT : T ≠ 23 ∧ T ≠ 3 ∧ T ≠ 64 ∧ T ≠ 27) (i : Nat) (u : Value) : PrL B ob ib qb xb qcs m sh at0 ts ns T p (cs.setIfInBounds i u) (w.setCell ⟨p, i, none⟩ u) := by
  obtain ⟨⟨⟨vo, vn, vs, va, vt, h1, h2, h3, h4, h5, h6, h7, h8⟩, hi, hq, hf, hg⟩, hb, hge, hfar⟩ := h
  have n1 : ob ≠ p := Blk.ne h1 hb hT.1.symm
  have n2 : xb ≠ p := Blk.ne h2 hb hT.2.2.2.symm
  have n3 : ib ≠ p := Blk.ne hi hb hT.2.2.1.symm
  have n4 : qb ≠ p := Blk.ne hq hb hT.2.2.2.symm
  have f0 := hfar 0 vn (by rw [h2.cell 0]; rfl)
  have f1 := hfar 1 vs (by rw [h2.cell 1]; rfl)
  have f2 := hfar 2 va (by rw [h2.cell 2]; rfl)
  have f3 := hfar 3 vt (by rw [h2.cell 3]; rfl)
  have hx := h2.far (p := ⟨p, i, none⟩) n2 u
  exact ⟨⟨⟨vo, vn, vs, va, vt, h1.far (p := ⟨p, i, none⟩) n1 u, hx, own_setCell_far h3 (own_ne h3 hb hT.2.1.symm) u, own_setCell_far h4 f0 u, own_setCell_far h5 f1 u, own_setCell_far h6 f2 u, own_setCell_far h7 f3 u, h8⟩, hi.far (p := ⟨p, i, none⟩) n3 u, hq.far (p := ⟨p, i, none⟩) n4 u, hf, hg⟩, hb.set i u, hge, fun j v hc => hfar j v (by rw [h2.cell j, ← hx.cell j]; exact hc)⟩
end
end Go.Proofs.YtjonaidancomgaaDoor

namespace Go.Proofs.YtjonaidancomgaaDoor
open Go.RowKit

section
variable {P : Program} {F : Fence} {n : Nat}
/-- The iterator gives just xs, in order, unless a round says 'no more'. Before its first round it may do what it likes behind the blocks that lay there; Kp: what a round keeps. -/
def SeqB {α : Type} (F : Fence) (n : Nat) (P : Program) (g : Nat) (lb : Array Value) (encs : α → Array Value) (Kp : World → World → Prop) (xs : List α) (Pre : World → Prop) : Prop :=
  ∀ (l : Nat) (J Jx : List α → World → Prop) (W : World), Pre W → (∀ Y, Below W.heap.size W Y → J [] Y) →
    (∀ pre Y k ds o', J pre Y → W.heap.size ≤ k → Y.heap[k]? = some (.deferred ds) → o'.isCells = false → J pre (Y.putObj k o')) → (∀ pre Y k ds o', Jx pre Y → W.heap.size ≤ k → Y.heap[k]? = some (.deferred ds) → o'.isCells = false → Jx pre (Y.putObj k o')) →
    (∀ pre x W1, J pre W1 → pre ++ [x] <+: xs → YieldAt F (n - 1) P l (encs x) W1 fun e W' =>
      (e = .returned (.bool true) ∧ J (pre ++ [x]) W' ∧ Kp W1 W') ∨ (e = .returned (.bool false) ∧ Jx (pre ++ [x]) W' ∧ ∀ (k : Nat) (ds : Option (List Deferred)), W.heap.size ≤ k → W1.heap[k]? = some (.deferred ds) → W'.heap[k]? = some (.deferred ds))) →
    CallsIn F n P g (#[.func (.yield l) #[] #[]] ++ lb) W fun e W' => (∃ v, e = .returned v) ∧ (J xs W' ∨ ∃ pre, pre <+: xs ∧ Jx pre W')

theorem wpIn_rangeB {α : Type} {g : Operand} {ps : Array Tmp} {assign body : Code} {Q : Exit → Act → World → Prop} {a : Act} {w : World}
    (hro : F.round = none) (h1 : F.depth.isSome = true → 1 ≤ n) {gf : Nat} {lb : Array Value} (hg : a.eval g = .func (.func gf) #[] lb) (hFg : F.fn gf) (eg : ∀ args w, (callFunc gf args).run P w = .ok (.enter gf args) w)
    {encs : α → Array Value} {Kp : World → World → Prop} {xs : List α} {Pre : World → Prop} (hseq : SeqB F (n - 1) P gf lb encs Kp xs Pre) (hpre : ∀ Y, Below w.heap.size w Y → Pre Y)
    (hKt : ∀ {A B C : World}, Kp A B → Kp B C → Kp A C) (hKb : ∀ (W : World) (l : Nat) (r r' : Loop), w.heap.size ≤ l → W.heap[l]? = some (.loop r) → Kp W (W.putObj l (.loop r'))) (hps : ∀ x, (encs x).size = ps.size)
    (I : List α → World → Prop) (Ix : Code → List α → World → Prop) (hI : OwnFrom w.heap.size I) (hIx : ∀ c, OwnFrom w.heap.size (Ix c)) (h0 : ∀ Y, Below w.heap.size w Y → I [] Y) (a₁ : α → Act)
    (hassign : ∀ (l : Nat) (x : α) (W : World) (K : Act → World → Prop), K (a₁ x) W →
      assign.wpIn (F.inRound l) (n - 1 - 1) P (Exit.then K (fun _ _ _ => False)) { tmps := (ps.zip (encs x)).foldl (fun t (p, v) => t.setIfInBounds p v) a.tmps, defers := [] } W)
    (hbody : ∀ (l : Nat) (pre : List α) (x : α) (W : World), I pre W → pre ++ [x] <+: xs → body.wpIn (F.inRound l) (n - 1 - 1) P (ownPostG w.heap.size Kp I Ix (pre ++ [x]) W) (a₁ x) W)
    (hdone : ∀ (D : Nat) (W : World), w.heap.size ≤ D → I xs W → W.heap[D]? = some (.deferred (some [])) → Q .normal { a with defers := { target := .collected D, args := #[] } :: a.defers } W)
    (hstop : ∀ (D : Nat) (c : Code) (pre : List α) (W : World), w.heap.size ≤ D → pre <+: xs → Ix c pre W → W.heap[D]? = some (.deferred (some [])) → c.wpIn F n P Q { a with defers := { target := .collected D, args := #[] } :: a.defers } W) :
    (Code.rangeFunc g ps assign body).wpIn F n P Q a w := by
  refine wpIn_rangeFunc ?_
  intro fn hfn
  rw [hro]
  obtain ⟨rec, hrec⟩ : ∃ rec : LoopState → Option Code → Loop, rec = fun st pe => { state := st, pending := pe, fn, tmps := a.tmps, params := ps, assign, body, defers := w.heap.size } := ⟨_, rfl⟩
  obtain ⟨W1, hW1⟩ : ∃ W1, (w.alloc (.deferred (some []))).alloc (.loop (rec .ready none)) = W1 := ⟨_, rfl⟩
  have hL1 : W1.heap[w.heap.size + 1]? = some (.loop (rec .ready none)) := by
    rw [← hW1]; have := World.alloc_heap_new (w.alloc (.deferred (some []))) (.loop (rec .ready none)); rwa [World.size_alloc] at this
  have hK1 : W1.heap[w.heap.size]? = some (.deferred (some [])) := by
    rw [← hW1]; exact (Below.heap_alloc _ _ _ (by simp)).trans (World.alloc_heap_new w _)
  have hsz1 : W1.heap.size = w.heap.size + 2 := by rw [← hW1]; simp
  have hb1 : Below w.heap.size w W1 := by
    rw [← hW1]; exact ((Below.refl _ w).alloc (Nat.le_refl _) _).alloc (by simp) _
  refine ⟨w.heap.size + 1, [{ target := .collected w.heap.size, args := #[] }], W1, { target := .fn (.func gf) lb, args := #[.func (.yield (w.heap.size + 1)) #[] #[]] }, W1, gf,
    #[.func (.yield (w.heap.size + 1)) #[] #[]] ++ lb, W1, ?_, ?_, ?_, ?_, h1, ?_⟩
  · rw [← hW1, hrec]; exact run_enterLoop_outer _ _ _ _ _
  · simp only [resolve, hg]
    simp [go_sem]
  · intro f' hf'; simp [Target.leads] at hf'; subst hf'; exact hFg
  · simp [invoke, go_sem, eg]
  · refine (hseq (w.heap.size + 1)
      (fun pre W => I pre W ∧ W.heap[w.heap.size + 1]? = some (.loop (rec .ready none)) ∧ W.heap[w.heap.size]? = some (.deferred (some [])))
      (fun pre W => ∃ c, Ix c pre W ∧ W.heap[w.heap.size + 1]? = some (.loop (rec .done (some c))) ∧ W.heap[w.heap.size]? = some (.deferred (some [])))
      W1 (hpre W1 hb1)
      (fun Y hY => ⟨h0 Y (hb1.trans (hY.mono (by omega))), (hY.block _ (by omega)).trans hL1, (hY.block _ (by omega)).trans hK1⟩)
      (fun pre Y k ds o' hJ hk hd ho => ⟨hI.putObj _ hJ.1 (by omega) hd rfl, (World.putObj_heap_other (by omega)).trans hJ.2.1, (World.putObj_heap_other (by omega)).trans hJ.2.2⟩)
      (fun pre Y k ds o' hJ hk hd ho => by
        obtain ⟨c, h1, h2, h3⟩ := hJ
        exact ⟨c, (hIx c).putObj _ h1 (by omega) hd rfl, (World.putObj_heap_other (by omega)).trans h2, (World.putObj_heap_other (by omega)).trans h3⟩)
      ?_).mono ?_
    · -- one round
      rintro pre x W ⟨hi, hl, hk⟩ hlen
      have hlt : w.heap.size + 1 < W.heap.size := (Array.getElem?_eq_some_iff.1 hl).1
      have hy := run_yield (P := P) (args := encs x) hl (by rw [hrec]; exact hps x)
      rw [hrec] at hy
      refine ⟨fn, _, assign, body, hy, roundIn_of_wpIn hfn (hassign _ x W _ ?_)⟩
      clear hy
      refine ⟨_, run_beginRound hl (by rw [hrec]), ?_⟩
      have hl2 : (W.putObj (w.heap.size + 1) (.loop { rec .ready none with state := .busy })).heap[w.heap.size + 1]? = some (.loop { rec .ready none with state := .busy }) := World.putObj_heap_same hlt
      have hk2 : (W.putObj (w.heap.size + 1) (.loop { rec .ready none with state := .busy })).heap[w.heap.size]? = some (.deferred (some [])) := (World.putObj_heap_other (by omega)).trans hk
      have hw2 : Kp W (W.putObj (w.heap.size + 1) (.loop { rec .ready none with state := .busy })) := hKb _ _ _ _ (by omega) hl
      refine wpIn_mono (hbody _ pre x _ (hI.putObj _ hi (by omega) hl rfl) hlen) ?_
      have fin : ∀ (jump : Option Code) (W3 : World), KeepsFrom w.heap.size (W.putObj (w.heap.size + 1) (.loop { rec .ready none with state := .busy })) W3 →
          (Instr.endRound (w.heap.size + 1) jump).run P W3 = .ok (.bool jump.isNone) (W3.putObj (w.heap.size + 1) (.loop (rec (if jump.isNone then .ready else .done) jump))) ∧
          W3.heap[w.heap.size + 1]? = some (.loop { rec .ready none with state := .busy }) ∧
          (W3.putObj (w.heap.size + 1) (.loop (rec (if jump.isNone then .ready else .done) jump))).heap[w.heap.size + 1]? = some (.loop (rec (if jump.isNone then .ready else .done) jump)) ∧
          (W3.putObj (w.heap.size + 1) (.loop (rec (if jump.isNone then .ready else .done) jump))).heap[w.heap.size]? = some (.deferred (some [])) := fun jump W3 hk3 => by
        have hl3 := hk3.same _ _ (by omega) hl2 rfl
        have := run_endRound (P := P) jump hl3
        rw [hrec] at this ⊢
        exact ⟨this, by rw [hrec] at hl3; exact hl3, World.putObj_heap_same (Array.getElem?_eq_some_iff.1 hl3).1, (World.putObj_heap_other (by omega)).trans (hk3.same _ _ (Nat.le_refl _) hk2 rfl)⟩
      rintro e a3 W3 hp
      cases e with
      | normal =>
        obtain ⟨hk3, hkp3, hi3⟩ := hp
        obtain ⟨hr, hl3, hl4, hk4⟩ := fin none W3 hk3
        exact ⟨_, _, hr, .inl ⟨rfl, ⟨hI.putObj _ hi3 (by omega) hl3 rfl, hl4, hk4⟩, hKt (hKt hw2 hkp3) (hKb _ _ _ _ (by omega) hl3)⟩⟩
      | ret =>
        obtain ⟨hk3, hi3⟩ := hp
        obtain ⟨hr, hl3, hl4, hk4⟩ := fin (some .ret) W3 hk3
        exact ⟨_, _, hr, .inr ⟨rfl, ⟨.ret, (hIx _).putObj _ hi3 (by omega) hl3 rfl, hl4, hk4⟩, fun k ds hk hd => (World.putObj_heap_other (by omega)).trans (hk3.same k _ (by omega) ((World.putObj_heap_other (by omega)).trans hd) rfl)⟩⟩
      | exit id =>
        obtain ⟨hk3, hi3⟩ := hp
        obtain ⟨hr, hl3, hl4, hk4⟩ := fin (some (.exit id)) W3 hk3
        exact ⟨_, _, hr, .inr ⟨rfl, ⟨.exit id, (hIx _).putObj _ hi3 (by omega) hl3 rfl, hl4, hk4⟩, fun k ds hk hd => (World.putObj_heap_other (by omega)).trans (hk3.same k _ (by omega) ((World.putObj_heap_other (by omega)).trans hd) rfl)⟩⟩
      | goto t =>
        obtain ⟨hk3, hi3⟩ := hp
        obtain ⟨hr, hl3, hl4, hk4⟩ := fin (some (.goto t)) W3 hk3
        exact ⟨_, _, hr, .inr ⟨rfl, ⟨.goto t, (hIx _).putObj _ hi3 (by omega) hl3 rfl, hl4, hk4⟩, fun k ds hk hd => (World.putObj_heap_other (by omega)).trans (hk3.same k _ (by omega) ((World.putObj_heap_other (by omega)).trans hd) rfl)⟩⟩
      | panic ch => exact hp.elim
      | outgrown => exact hp.elim
    · -- behind the iterator
      rintro e W2 ⟨⟨v, rfl⟩, (⟨hi, hl, hk⟩ | ⟨pre, hSp, c, hi, hl, hk⟩)⟩
      · exact ⟨none, _, by have := run_endLoop (P := P) hl (by rw [hrec]; simp); rw [hrec] at this; exact this, hdone _ _ (Nat.le_refl _) (hI.putObj _ hi (by omega) hl rfl) ((World.putObj_heap_other (by omega)).trans hk)⟩
      · exact ⟨some c, _, by have := run_endLoop (P := P) hl (by rw [hrec]; simp); rw [hrec] at this; exact this, hstop _ c pre _ (Nat.le_refl _) hSp ((hIx c).putObj _ hi (by omega) hl rfl) ((World.putObj_heap_other (by omega)).trans hk)⟩
end

/-- Blocks of elements of type T are as they were, and so are blocks of deferred calls. -/
structure KT (T : TypeId) (W W' : World) : Prop where
  size : W.heap.size ≤ W'.heap.size
  rows : ∀ (k : Nat) (cs : Array Value) (fr : Nat × Nat), W.heap[k]? = some (Obj.cells cs T fr) → W'.heap[k]? = some (Obj.cells cs T fr)
  defs : ∀ (k : Nat) (ds : Option (List Deferred)), W.heap[k]? = some (Obj.deferred ds) → W'.heap[k]? = some (Obj.deferred ds)
section
variable {T t : TypeId} {A B C : World}
theorem KT.refl (T : TypeId) (W : World) : KT T W W := ⟨Nat.le_refl _, fun _ _ _ h => h, fun _ _ h => h⟩
theorem KT.trans (h : KT T A B) (k : KT T B C) : KT T A C := ⟨Nat.le_trans h.size k.size, fun i cs fr hi => k.rows i cs fr (h.rows i cs fr hi), fun i ds hi => k.defs i ds (h.defs i ds hi)⟩
theorem KT.put (W : World) (l : Nat) (r r' : Loop) (h : W.heap[l]? = some (.loop r)) : KT T W (W.putObj l (.loop r')) :=
  ⟨by simp [World.putObj], fun k cs fr hk => by
    rw [World.putObj_heap_other]
    · exact hk
    · rintro rfl
      rw [h] at hk
      exact absurd hk (by simp), fun k ds hk => by
    rw [World.putObj_heap_other]
    · exact hk
    · rintro rfl
      rw [h] at hk
      cases hk⟩
theorem KT.set {g : Nat} {cs : Array Value} (hb : Blk B g t cs) (hne : t ≠ T) (h : KT T A B) (i : Nat) (u : Value) : KT T A (B.setCell ⟨g, i, none⟩ u) :=
  ⟨by simpa [World.setCell] using h.size, fun k cs' fr hk => by
    rw [Below.heap_setCell]
    · exact h.rows k cs' fr hk
    · rintro rfl
      have := h.rows _ _ _ hk
      unfold Blk at hb
      rw [hb] at this
      injection this with this
      injection this with _ ht
      exact hne ht, fun k ds hk => by
    rw [Below.heap_setCell]
    · exact h.defs k ds hk
    · rintro rfl
      have := h.defs _ _ hk
      unfold Blk at hb
      rw [hb] at this
      cases this⟩
theorem KT.below (h : KT T A B) (hb : Below B.heap.size B C) : KT T A C := ⟨Nat.le_trans h.size hb.size, fun k cs fr hk => by
  have := h.rows k cs fr hk
  exact (hb.block k (Array.getElem?_eq_some_iff.1 this).1).trans this, fun k ds hk => by
  have := h.defs k ds hk
  exact (hb.block k (Array.getElem?_eq_some_iff.1 this).1).trans this⟩
theorem KT.alloc (h : KT T A B) (o : Obj) : KT T A (B.alloc o) := h.below ((Below.refl _ _).alloc (Nat.le_refl _) o)
theorem KT.drewN (h : KT T A B) (n : Nat) : KT T A (B.drewN n) := ⟨h.size, h.rows, h.defs⟩
theorem KT.drew (h : KT T A B) : KT T A B.drew := ⟨h.size, h.rows, h.defs⟩
theorem KT.grown {base sz m : Nat} {e : TypeId} {v : Value} {xs : List Value} (h : KT T A B) (hown : B.ownsRow base e sz v m xs) (hne : e ≠ T) (hg : B.grownBy C v.ownBlock) : KT T A C :=
  ⟨Nat.le_trans h.size hg.size, fun k cs fr hk => by
    have h1 := h.rows k cs fr hk
    refine (hg.block k (Array.getElem?_eq_some_iff.1 h1).1 (fun e1 => ?_)).trans h1
    rcases hown.2 with ⟨rfl, _⟩ | ⟨g', cap', cur', rfl, _, hh', _⟩
    · simp [Value.ownBlock] at e1
    · have : k = g' := by simpa [Value.ownBlock] using e1
      subst this
      rw [h1] at hh'
      injection hh' with hh'
      injection hh' with _ ht
      exact hne ht.symm, fun k ds hk => by
    have h1 := h.defs k ds hk
    refine (hg.block k (Array.getElem?_eq_some_iff.1 h1).1 (fun e1 => ?_)).trans h1
    rcases hown.2 with ⟨rfl, _⟩ | ⟨g', cap', cur', rfl, _, hh', _⟩
    · simp [Value.ownBlock] at e1
    · have : k = g' := by simpa [Value.ownBlock] using e1
      subst this
      rw [h1] at hh'
      cases hh'⟩
theorem KT.blk {g : Nat} {cs : Array Value} (h : KT T A B) (hb : Blk A g T cs) : Blk B g T cs := h.rows g cs (0, 0) hb
theorem KT.own {base sz m : Nat} {v : Value} {xs : List Value} (h : KT T A B) (hown : A.ownsRow base T sz v m xs) : B.ownsRow base T sz v m xs := by
  refine ⟨hown.1, ?_⟩
  rcases hown.2 with h2 | ⟨g', cap', cur', hv, hb, hh, r⟩
  · exact .inl h2
  · exact .inr ⟨g', cap', cur', hv, hb, h.rows _ _ _ hh, r⟩
end
end Go.Proofs.YtjonaidancomgaaDoor
