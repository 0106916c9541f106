/- Parts of the proof, joined into one text: QyPI, QyPJ, QyLay, QyLayB, QyStart. -/
import Derived.Test.YtjonaidancomgaaDoorZQyArgs
import Derived.Maps.Own

namespace Go.Proofs.YtjonaidancomgaaDoor
open Go.RowKit Go.Maps Go.WideMaps

theorem intLaw : Keyed Tryd.prog 3 := int_keyed Tryd.underlying3
/-- m: the variables met; vals: what the cells of the variables hold. -/
structure PIx (N g p ixb mb : Nat) (w W0 : World) (psr : Array Value) (vPN vS vA vT : Value) (names : List (List UInt8)) (xs : List Addr) (rb : List Nat) (m vals : List Int) (W : World) : Prop where
  bel : Below w.heap.size w W
  res : ∃ vN, Blk W N 27 #[vN, vS, vA, vT] ∧ W.ownsRow W0.heap.size 9 1 vN m.length ((m.map fun i => names.getD i.toNat []).flatMap strC)
  r1 : Blk W (N + 1) 3 #[.int .i64 0]
  r2 : Blk W (N + 1 + 1) 31 #[.int .i64 0]
  pbox : Blk W p 71 #[.pointer (some ⟨g, 0, none⟩)]
  par : Blk W g 73 psr
  ibox : Blk W ixb 74 #[.map (some mb)]
  map : W.ownsMap Tryd.prog 3 (plainElem Tryd.prog 3) mb m.length (Qy.mapD m)
  pn : W.ownsRow w.heap.size 9 1 vPN names.length (names.flatMap strC)
  rows : ∀ b ∈ rb, ∃ t cs, Blk W b t cs ∧ (t = 3 ∨ t = 43 ∨ t = 45)
  cells : ∀ (k : Nat) (a : Addr) (v : Int), xs[k]? = some a → vals[k]? = some v → W.cell? a = some (.int .i64 v)
  rest : ∀ a : Addr, a.block ∈ rb → a ∉ xs → W.cell? a = W0.cell? a
/-- What does not change over the rounds. -/
structure PFix (N g p ixb mb : Nat) (w W0 : World) (psr : Array Value) (vPN : Value) (xs : List Addr) (rb : List Nat) : Prop where
  xrb : ∀ a ∈ xs, a.block ∈ rb
  xnone : ∀ a ∈ xs, a = ⟨a.block, a.off, none⟩
  nodup : xs.Nodup
  rbN : ∀ b ∈ rb, b ≠ N + 1 ∧ b < W0.heap.size ∧ w.heap.size ≤ b
  lt : N < W0.heap.size ∧ p < W0.heap.size ∧ g < W0.heap.size ∧ ixb < W0.heap.size ∧ mb < W0.heap.size ∧ w.heap.size ≤ W0.heap.size
  three : psr[3]? = some vPN
  pnlt : ∀ b, vPN.ownBlock = some b → b < W0.heap.size
  mbw : w.heap.size ≤ mb
  Nw : w.heap.size ≤ N

section
variable {N g p ixb mb : Nat} {w W0 : World} {psr : Array Value} {vPN vS vA vT : Value} {names : List (List UInt8)} {xs : List Addr} {rb : List Nat} {m vals : List Int} {W W' : World}
theorem blk_grown {b : Nat} {t : TypeId} {cs : Array Value} {row : Option Nat} (h : Blk W b t cs) (hg : W.grownBy W' row) (hr : ∀ r, row = some r → ∃ o : Obj, W.heap[r]? = some o ∧ o.isCells = false) : Blk W' b t cs :=
  (hg.block b h.lt (fun e => by
    obtain ⟨o, ho, hc⟩ := hr b e.symm
    unfold Blk at h
    rw [h] at ho
    injection ho with ho
    subst ho
    cases hc)).trans h
theorem own_grown {base n sz : Nat} {e : TypeId} {v : Value} {ys : List Value} {row : Option Nat} (h : W.ownsRow base e sz v n ys) (hg : W.grownBy W' row) (hr : ∀ r, row = some r → ∃ o : Obj, W.heap[r]? = some o ∧ o.isCells = false) : W'.ownsRow base e sz v n ys := by
  refine h.kept hg ?_
  rcases h.2 with ⟨rfl, _⟩ | ⟨g', cap', cur', rfl, _, hh, _⟩
  · exact .inl rfl
  · refine .inr (fun e => ?_)
    obtain ⟨o, ho, hc⟩ := hr g' e.symm
    rw [hh] at ho
    injection ho with ho
    subst ho
    cases hc
theorem cell_grown {a : Addr} {row : Option Nat} (hl : ∃ t cs, Blk W a.block t cs) (hg : W.grownBy W' row) (hr : ∀ r, row = some r → ∃ o : Obj, W.heap[r]? = some o ∧ o.isCells = false) : W'.cell? a = W.cell? a := by
  obtain ⟨t, cs, hb⟩ := hl
  exact World.cell?_of_block ((blk_grown hb hg hr).trans hb.symm)
/-- What is no cells and lies behind the loop's start may turn. -/
theorem PIx.own (F : PFix N g p ixb mb w W0 psr vPN xs rb) (h : PIx N g p ixb mb w W0 psr vPN vS vA vT names xs rb m vals W) {row : Option Nat} (hg : W.grownBy W' row) (hr : ∀ r, row = some r → W0.heap.size ≤ r ∧ ∃ o : Obj, W.heap[r]? = some o ∧ o.isCells = false) :
    PIx N g p ixb mb w W0 psr vPN vS vA vT names xs rb m vals W' := by
  have hr' : ∀ r, row = some r → ∃ o : Obj, W.heap[r]? = some o ∧ o.isCells = false := fun r e => (hr r e).2
  obtain ⟨vN, hN, hown⟩ := h.res
  refine ⟨h.bel.grown hg h.bel.size (fun k e => by have := (hr k e).1; have := F.lt.2.2.2.2.2; omega), ⟨vN, blk_grown hN hg hr', own_grown hown hg hr'⟩, blk_grown h.r1 hg hr', blk_grown h.r2 hg hr', blk_grown h.pbox hg hr', blk_grown h.par hg hr', blk_grown h.ibox hg hr', ?_, own_grown h.pn hg hr', ?_, ?_, ?_⟩
  · exact h.map.kept hg (fun e => by have := (hr mb e.symm).1; have := F.lt.2.2.2.2.1; omega)
  · intro b hb
    obtain ⟨t, cs, h1, h2⟩ := h.rows b hb
    exact ⟨t, cs, blk_grown h1 hg hr', h2⟩
  · intro k a v ha hv
    obtain ⟨t, cs, h1, _⟩ := h.rows a.block (F.xrb a (List.mem_of_getElem? ha))
    rw [cell_grown ⟨t, cs, h1⟩ hg hr']
    exact h.cells k a v ha hv
  · intro a ha hx
    obtain ⟨t, cs, h1, _⟩ := h.rows a.block ha
    rw [cell_grown ⟨t, cs, h1⟩ hg hr']
    exact h.rest a ha hx
theorem PIx.drewN (h : PIx N g p ixb mb w W0 psr vPN vS vA vT names xs rb m vals W) (n : Nat) : PIx N g p ixb mb w W0 psr vPN vS vA vT names xs rb m vals (W.drewN n) :=
  ⟨bel_drewN h.bel n, h.res, h.r1, h.r2, h.pbox, h.par, h.ibox, h.map, h.pn, h.rows, h.cells, h.rest⟩

/-- A variable gets its number. -/
theorem PIx.store (F : PFix N g p ixb mb w W0 psr vPN xs rb) (h : PIx N g p ixb mb w W0 psr vPN vS vA vT names xs rb m vals W) {j : Nat} {x : Addr} (hx : xs[j]? = some x) (hj : j < vals.length) (i : Int) :
    PIx N g p ixb mb w W0 psr vPN vS vA vT names xs rb m (vals.set j i) (W.setCell x (.int .i64 i)) := by
  have hxm := List.mem_of_getElem? hx
  have hxb := F.xrb x hxm
  obtain ⟨hxN, hxlt, hxw⟩ := F.rbN x.block hxb
  obtain ⟨t, cs, hb, ht⟩ := h.rows x.block hxb
  obtain ⟨bx, ox, rfl⟩ : ∃ bx ox, x = ⟨bx, ox, none⟩ := ⟨_, _, F.xnone x hxm⟩
  simp only at hxb hxN hxlt hxw hb
  have hne : ∀ {b : Nat} {t' : TypeId} {cs' : Array Value}, Blk W b t' cs' → t ≠ t' → b ≠ bx := fun h1 h2 e => by
    subst e
    exact Blk.ne hb h1 h2 rfl
  have hty : ∀ t' : TypeId, t' ≠ 3 → t' ≠ 43 → t' ≠ 45 → t ≠ t' := fun t' a b c e => by
    rcases ht with ht | ht | ht
    · exact a (e ▸ ht)
    · exact b (e ▸ ht)
    · exact c (e ▸ ht)
  obtain ⟨vN, hN, hown⟩ := h.res
  refine ⟨h.bel.setCell (p := ⟨bx, ox, none⟩) hxw _, ⟨vN, hN.far (p := ⟨bx, ox, none⟩) (hne hN (hty _ (by decide) (by decide) (by decide))) _, own_setCell_far hown ?_ _⟩, h.r1.far (p := ⟨bx, ox, none⟩) (fun e => hxN e.symm) _,
    h.r2.far (p := ⟨bx, ox, none⟩) (hne h.r2 (hty _ (by decide) (by decide) (by decide))) _, h.pbox.far (p := ⟨bx, ox, none⟩) (hne h.pbox (hty _ (by decide) (by decide) (by decide))) _, h.par.far (p := ⟨bx, ox, none⟩) (hne h.par (hty _ (by decide) (by decide) (by decide))) _,
    h.ibox.far (p := ⟨bx, ox, none⟩) (hne h.ibox (hty _ (by decide) (by decide) (by decide))) _, ?_, own_setCell_far h.pn ?_ _, ?_, ?_, ?_⟩
  · exact own_ne hown hb (hty _ (by decide) (by decide) (by decide)).symm
  · obtain ⟨es, clock, hm, hrest⟩ := h.map
    refine ⟨es, clock, (Below.heap_setCell W _ _ mb (fun e => ?_)).trans hm, hrest⟩
    unfold Blk at hb
    subst e
    rw [hm] at hb
    cases hb
  · exact own_ne h.pn hb (hty _ (by decide) (by decide) (by decide)).symm
  · intro b hbm
    obtain ⟨t2, cs2, h1, h2⟩ := h.rows b hbm
    by_cases e : b = bx
    · subst e
      exact ⟨t2, _, h1.set ox _, h2⟩
    · exact ⟨t2, cs2, h1.far (p := ⟨bx, ox, none⟩) e _, h2⟩
  · intro k a v ha hv
    by_cases e : k = j
    · subst e
      rw [hx] at ha
      injection ha with ha
      subst ha
      rw [List.getElem?_set_self hj] at hv
      injection hv with hv
      subst hv
      have hc := h.cells k _ _ hx (List.getElem?_eq_getElem hj)
      rw [(hb.set ox _).cell ox]
      rw [hb.cell ox] at hc
      rw [Array.getElem?_setIfInBounds_self, if_pos (Array.getElem?_eq_some_iff.1 hc).1]
    · rw [List.getElem?_set_ne (fun e' => e e'.symm)] at hv
      have hc := h.cells k a v ha hv
      have hax : a ≠ ⟨bx, ox, none⟩ := fun e' => by
        subst e'
        exact e ((List.getElem?_inj (List.getElem?_eq_some_iff.1 ha).1 F.nodup).1 (ha.trans hx.symm))
      rw [← hc]
      obtain ⟨ba, oa, rfl⟩ : ∃ ba oa, a = ⟨ba, oa, none⟩ := ⟨_, _, F.xnone a (List.mem_of_getElem? ha)⟩
      by_cases eb : ba = bx
      · subst eb
        rw [(hb.set ox _).cell oa, hb.cell oa, Array.getElem?_setIfInBounds_ne (fun e' => hax (by rw [e']))]
      · exact World.cell?_of_block (a := ⟨ba, oa, none⟩) (Below.heap_setCell W ⟨bx, ox, none⟩ _ ba eb)
  · intro a ha hax
    rw [← h.rest a ha hax]
    by_cases eb : a.block = bx
    · have hne2 : a ≠ ⟨bx, ox, none⟩ := fun e' => hax (by rw [e']; exact hxm)
      exact World.cell?_setCell_other W ⟨bx, ox, none⟩ a _ (fun e => hne2 e.symm)
    · exact World.cell?_of_block (Below.heap_setCell W ⟨bx, ox, none⟩ _ a.block eb)
end
end Go.Proofs.YtjonaidancomgaaDoor

namespace Go.Proofs.YtjonaidancomgaaDoor
open Go.RowKit Go.Maps Go.WideMaps

section
variable {N g p ixb mb : Nat} {w W0 : World} {psr : Array Value} {vPN vS vA vT : Value} {names : List (List UInt8)} {xs : List Addr} {rb : List Nat} {m vals : List Int} {W w1 w2 w3 : World}
/-- The map has been written: all else is as it was. -/
theorem PIx.kept (h : PIx N g p ixb mb w W0 psr vPN vS vA vT names xs rb m vals W) (_hg : W.grownBy w1 (some mb)) : (∀ r, some mb = some r → ∃ o : Obj, W.heap[r]? = some o ∧ o.isCells = false) := fun r e => by
  injection e with e
  subst e
  obtain ⟨es, clock, hm, _⟩ := h.map
  exact ⟨_, hm, rfl⟩
theorem PIx.met (F : PFix N g p ixb mb w W0 psr vPN xs rb) (h : PIx N g p ixb mb w W0 psr vPN vS vA vT names xs rb m vals W) {n : Int} {vN : Value} (hN : Blk W N 27 #[vN, vS, vA, vT]) (hown : W.ownsRow W0.heap.size 9 1 vN m.length ((m.map fun i => names.getD i.toNat []).flatMap strC)) (_hW0 : W0.heap.size ≤ W.heap.size)
    (hmap : w1.ownsMap Tryd.prog 3 (plainElem Tryd.prog 3) mb (m.length + 1) ((Qy.mapD m).put (.int .i64 n) (.lit (.int .i64 (m.length : Nat))))) (hg1 : W.grownBy w1 (some mb))
    (hb2 : Below w1.heap.size w1 w2) {gg cap : Nat} (hg3 : w2.grownBy w3 vN.ownBlock) (hown3 : w3.ownsRow W0.heap.size 9 1 (.slice (some ⟨gg, 0, none⟩) (m.length + 1) cap) (m.length + 1) (((m.map fun i => names.getD i.toNat []).flatMap strC) ++ [.string (Lx.bs (names.getD n.toNat []))])) :
    Blk w3 N 27 #[vN, vS, vA, vT] ∧ PIx N g p ixb mb w W0 psr vPN vS vA vT names xs rb (m ++ [n]) vals (w3.setCell ⟨N, 0, none⟩ (.slice (some ⟨gg, 0, none⟩) (m.length + 1) cap)) := by
  have hr1 := h.kept hg1
  have hs1 := hg1.size
  have hs2 := hb2.size
  -- a block of cells that is no row of strings
  have K : ∀ {b : Nat} {t : TypeId} {cs : Array Value}, Blk W b t cs → t ≠ 9 → Blk w3 b t cs := fun {b t cs} hb ht => by
    have h1 := (blk_grown hb hg1 hr1).below hb2 (blk_grown hb hg1 hr1).lt
    refine (hg3.block b h1.lt (fun e => ?_)).trans h1
    rcases hown.2 with ⟨rfl, _⟩ | ⟨g', cap', cur', rfl, _, hh, _⟩
    · simp [Value.ownBlock] at e
    · have : b = g' := by simpa [Value.ownBlock] using e
      subst this
      unfold Blk at hb
      rw [hb] at hh
      injection hh with hh
      injection hh with _ hh
      exact ht hh
  have hN3 := K hN (by decide)
  have hNset := hN3.set 0 (.slice (some ⟨gg, 0, none⟩) (m.length + 1) cap)
  have far : ∀ {b : Nat} {t : TypeId} {cs : Array Value}, Blk W b t cs → t ≠ 9 → t ≠ 27 → Blk (w3.setCell ⟨N, 0, none⟩ (.slice (some ⟨gg, 0, none⟩) (m.length + 1) cap)) b t cs := fun {b t cs} hb ht hq =>
    (K hb ht).far (p := ⟨N, 0, none⟩) (Blk.ne (K hb ht) hN3 hq) _
  have hcell : ∀ (a : Addr), a.block ∈ rb → (w3.setCell ⟨N, 0, none⟩ (.slice (some ⟨gg, 0, none⟩) (m.length + 1) cap)).cell? a = W.cell? a := fun a ha => by
    obtain ⟨t, cs, hb, ht⟩ := h.rows a.block ha
    have hts : t ≠ 9 := by rcases ht with rfl | rfl | rfl <;> decide
    have htq : t ≠ 27 := by rcases ht with rfl | rfl | rfl <;> decide
    exact World.cell?_of_block ((far hb hts htq).trans hb.symm)
  refine ⟨hN3, ?_, ⟨_, by simpa using hNset, ?_⟩, far h.r1 (by decide) (by decide), far h.r2 (by decide) (by decide), far h.pbox (by decide) (by decide), far h.par (by decide) (by decide), far h.ibox (by decide) (by decide), ?_, ?_, ?_, ?_, ?_⟩
  · refine (((h.bel.grown hg1 h.bel.size (fun k e => by injection e with e; subst e; exact F.mbw)).trans (hb2.mono (by have := h.bel.size; omega))).grown hg3 (by have := h.bel.size; omega) (fun k e => ?_)).setCell (p := ⟨N, 0, none⟩) F.Nw _
    have := (World.ownsRow.lt hown k e).1
    have := F.lt.2.2.2.2.2
    omega
  · have e1 : ([n].map fun i => names.getD i.toNat []).flatMap strC = [.string (Lx.bs (names.getD n.toNat []))] := rfl
    rw [List.map_append, List.flatMap_append, e1, List.length_append]
    exact own_setCell_far hown3 (own_ne hown3 hN3 (by decide)) _
  · rw [Qy.mapD_snoc, List.length_append]
    obtain ⟨es, clock, hm, hrest⟩ := hmap
    have hmlt : mb < w1.heap.size := (Array.getElem?_eq_some_iff.1 hm).1
    refine ⟨es, clock, ?_, hrest⟩
    rw [Below.heap_setCell _ _ _ _ (fun e => ?_)]
    · refine (hg3.block mb (by omega) (fun e => ?_)).trans ((hb2.block mb hmlt).trans hm)
      have := (World.ownsRow.lt hown mb e.symm).1
      have := F.lt.2.2.2.2.1
      omega
    · have hNm : N = mb := e.symm
      unfold Blk at hN
      obtain ⟨es0, clock0, hm0, _⟩ := h.map
      rw [hNm, hm0] at hN
      cases hN
  · have h1 := own_below (own_grown h.pn hg1 hr1) hb2
    have h3 := h1.kept hg3 (by
      rcases h.pn.2 with ⟨hp, _⟩ | ⟨g', cap', cur', hv, _, hh, _⟩
      · rw [hp]; exact .inl rfl
      · refine .inr (fun e => ?_)
        have hb1 : vPN.ownBlock = some g' := by rw [hv]; rfl
        have := F.pnlt g' hb1
        rw [hb1] at e
        have := (World.ownsRow.lt hown g' e.symm).1
        omega)
    exact own_setCell_far h3 (own_ne h3 hN3 (by decide)) _
  · intro b hb
    obtain ⟨t, cs, h1, ht⟩ := h.rows b hb
    have hts : t ≠ 9 := by rcases ht with rfl | rfl | rfl <;> decide
    have htq : t ≠ 27 := by rcases ht with rfl | rfl | rfl <;> decide
    exact ⟨t, cs, far h1 hts htq, ht⟩
  · intro k a v ha hv
    rw [hcell a (F.xrb a (List.mem_of_getElem? ha))]
    exact h.cells k a v ha hv
  · intro a ha hx
    rw [hcell a ha]
    exact h.rest a ha hx
end
end Go.Proofs.YtjonaidancomgaaDoor

namespace Go.Proofs.YtjonaidancomgaaDoor
open Go.RowKit

theorem pair_flat {α β γ : Type} (c : Nat) (f : Nat → List α) (g : β → List γ) (l : List β) (hf : ∀ k, k < l.length → (f k).length = c) (hg : ∀ x, (g x).length = c) :
    ∀ (i : Nat) (a : α) (y : γ), ((List.range l.length).flatMap f)[i]? = some a → (l.flatMap g)[i]? = some y → ∃ (k r : Nat) (x : β), l[k]? = some x ∧ (f k)[r]? = some a ∧ (g x)[r]? = some y := by
  have key : ∀ n, n ≤ l.length → ((List.range n).flatMap f).length = c * n ∧ ((l.take n).flatMap g).length = c * n ∧ ∀ (i : Nat) (a : α) (y : γ), ((List.range n).flatMap f)[i]? = some a → ((l.take n).flatMap g)[i]? = some y → ∃ (k r : Nat) (x : β), l[k]? = some x ∧ (f k)[r]? = some a ∧ (g x)[r]? = some y := by
    intro n
    induction n with
    | zero => exact fun _ => ⟨by simp, by simp, fun i a y h => by simp at h⟩
    | succ n ih =>
      intro hn
      obtain ⟨h1, h2, h3⟩ := ih (by omega)
      obtain ⟨x, hx⟩ : ∃ x, l[n]? = some x := ⟨_, List.getElem?_eq_getElem (by omega)⟩
      have et : (l.take (n + 1)).flatMap g = (l.take n).flatMap g ++ g x := by rw [List.take_add_one, hx]; simp [List.flatMap_append]
      have hfn := hf n (by omega)
      refine ⟨by rw [range_step, List.length_append, h1, hfn, Nat.mul_succ], by rw [et, List.length_append, h2, hg, Nat.mul_succ], fun i a y ha hy => ?_⟩
      rw [range_step] at ha
      rw [et] at hy
      by_cases hi : i < c * n
      · rw [List.getElem?_append_left (by omega)] at ha hy
        exact h3 i a y ha hy
      · rw [List.getElem?_append_right (by omega)] at ha hy
        rw [h1] at ha
        rw [h2] at hy
        exact ⟨n, i - c * n, x, hx, ha, hy⟩
  intro i a y ha hy
  have := key l.length (Nat.le_refl _)
  rw [List.take_length] at this
  exact this.2.2 i a y ha hy
theorem flat_len_eq {α : Type} (c : Nat) (f : Nat → List α) : ∀ n, (∀ k, k < n → (f k).length = c) → ((List.range n).flatMap f).length = c * n
  | 0, _ => by simp
  | n + 1, h => by rw [range_step, List.length_append, flat_len_eq c f n (fun k hk => h k (by omega)), h n (by omega), Nat.mul_succ]
theorem flatg_len {β γ : Type} (c : Nat) (g : β → List γ) (hg : ∀ x, (g x).length = c) : ∀ l : List β, (l.flatMap g).length = c * l.length
  | [] => by simp
  | x :: r => by rw [List.flatMap_cons, List.length_append, hg, flatg_len c g hg r, List.length_cons, Nat.mul_succ]; omega

def Qy.aArgs (x : Qy.Atom) : List Qy.Arg := [x.subj, x.obj, x.val]
def Qy.tArgs (x : Qy.Test) : List Qy.Arg := [x.a, x.b]
def Qy.allArgs (atoms : List Qy.Atom) (tests : List Qy.Test) : List Qy.Arg := atoms.flatMap Qy.aArgs ++ tests.flatMap Qy.tArgs

section
variable {W : World} {B : Nat} {A2 A3 : Option Addr} {atoms : List Qy.Atom} {tests : List Qy.Test}
theorem Qy.args_len_eq (h2 : 0 < atoms.length → ∃ b o, A2 = some ⟨b, o, none⟩) (h3 : 0 < tests.length → ∃ b o, A3 = some ⟨b, o, none⟩) : (Qy.allArgs atoms tests).length = (Qy.argsAt A2 A3 atoms.length tests.length).length := by
  unfold Qy.allArgs Qy.argsAt
  rw [List.length_append, List.length_append, flatg_len 3 Qy.aArgs (fun _ => rfl), flatg_len 2 Qy.tArgs (fun _ => rfl), flat_len_eq 3 _ _ (fun k hk => by obtain ⟨b, o, e⟩ := h2 (by omega); rw [e]; rfl), flat_len_eq 2 _ _ (fun k hk => by obtain ⟨b, o, e⟩ := h3 (by omega); rw [e]; rfl)]
/-- What lies at the place of an argument. -/
theorem Qy.arg_cells (hA : Lies W B A2 9 (atoms.map atomC)) (hT : Lies W B A3 5 (tests.map testC)) (i : Nat) (a : Addr) (y : Qy.Arg) (ha : (Qy.argsAt A2 A3 atoms.length tests.length)[i]? = some a) (hy : (Qy.allArgs atoms tests)[i]? = some y) :
    ∃ b o, a = ⟨b, o, none⟩ ∧ b < B ∧ W.cell? ⟨b, o, none⟩ = some (.bool y.var) ∧ W.cell? ⟨b, o + 1, none⟩ = some (.int .i64 y.n) := by
  have h2 : 0 < atoms.length → ∃ b o, A2 = some ⟨b, o, none⟩ := fun h => by
    obtain ⟨b, o, e, _⟩ := hA.at_ 0 _ (by rw [List.getElem?_map, List.getElem?_eq_getElem h]; rfl)
    exact ⟨b, o, e⟩
  have h3 : 0 < tests.length → ∃ b o, A3 = some ⟨b, o, none⟩ := fun h => by
    obtain ⟨b, o, e, _⟩ := hT.at_ 0 _ (by rw [List.getElem?_map, List.getElem?_eq_getElem h]; rfl)
    exact ⟨b, o, e⟩
  have l2 : ((List.range atoms.length).flatMap (Qy.inAtom A2)).length = 3 * atoms.length := flat_len_eq 3 _ _ (fun k hk => by obtain ⟨b, o, e⟩ := h2 (by omega); rw [e]; rfl)
  have g2 : (atoms.flatMap Qy.aArgs).length = 3 * atoms.length := flatg_len 3 Qy.aArgs (fun _ => rfl) _
  unfold Qy.argsAt at ha
  unfold Qy.allArgs at hy
  by_cases hi : i < 3 * atoms.length
  · rw [List.getElem?_append_left (by omega)] at ha hy
    obtain ⟨k, r, x, hx, hf, hg⟩ := pair_flat 3 (Qy.inAtom A2) Qy.aArgs atoms (fun k hk => by obtain ⟨b, o, e⟩ := h2 (by omega); rw [e]; rfl) (fun _ => rfl) i a y ha hy
    obtain ⟨b, o, e, hb, hc⟩ := hA.at_ k (atomC x) (by rw [List.getElem?_map, hx]; rfl)
    rw [e] at hf
    match r, hf, hg with
    | 0, hf, hg =>
      simp [Qy.inAtom] at hf; simp [Qy.aArgs] at hg; subst hf; subst hg
      exact ⟨b, o + k * 9 + 1, rfl, hb, hc 1 _ rfl, hc 2 _ rfl⟩
    | 1, hf, hg =>
      simp [Qy.inAtom] at hf; simp [Qy.aArgs] at hg; subst hf; subst hg
      exact ⟨b, o + k * 9 + 3, rfl, hb, hc 3 _ rfl, hc 4 _ rfl⟩
    | 2, hf, hg =>
      simp [Qy.inAtom] at hf; simp [Qy.aArgs] at hg; subst hf; subst hg
      exact ⟨b, o + k * 9 + 5, rfl, hb, hc 5 _ rfl, hc 6 _ rfl⟩
    | r + 3, hf, hg => simp [Qy.inAtom] at hf
  · rw [List.getElem?_append_right (by omega)] at ha hy
    rw [l2] at ha
    rw [g2] at hy
    obtain ⟨k, r, x, hx, hf, hg⟩ := pair_flat 2 (Qy.inTest A3) Qy.tArgs tests (fun k hk => by obtain ⟨b, o, e⟩ := h3 (by omega); rw [e]; rfl) (fun _ => rfl) _ a y ha hy
    obtain ⟨b, o, e, hb, hc⟩ := hT.at_ k (testC x) (by rw [List.getElem?_map, hx]; rfl)
    rw [e] at hf
    match r, hf, hg with
    | 0, hf, hg =>
      simp [Qy.inTest] at hf; simp [Qy.tArgs] at hg; subst hf; subst hg
      exact ⟨b, o + k * 5 + 1, rfl, hb, hc 1 _ rfl, hc 2 _ rfl⟩
    | 1, hf, hg =>
      simp [Qy.inTest] at hf; simp [Qy.tArgs] at hg; subst hf; subst hg
      exact ⟨b, o + k * 5 + 3, rfl, hb, hc 3 _ rfl, hc 4 _ rfl⟩
    | r + 2, hf, hg => simp [Qy.inTest] at hf

/-- The numbers of the variables, in order. -/
def Qy.allVars (shown : List Int) (gs : List Qy.Arg) : List Int := shown ++ gs.flatMap Qy.Arg.vars
theorem Qy.sel_vars : ∀ (l : List Addr) (gs : List Qy.Arg), gs.length = l.length → (Qy.sel l gs).length = (gs.flatMap Qy.Arg.vars).length ∧
    ∀ (k : Nat) (a : Addr) (v : Int), (Qy.sel l gs)[k]? = some a → (gs.flatMap Qy.Arg.vars)[k]? = some v → ∃ (i : Nat) (p : Addr) (y : Qy.Arg), l[i]? = some p ∧ gs[i]? = some y ∧ y.var = true ∧ a = ⟨p.block, p.off + 1, none⟩ ∧ v = y.n
  | [], [], _ => ⟨rfl, fun k a v h => by simp [Qy.sel] at h⟩
  | [], y :: gs, h => by simp at h
  | p :: l, [], h => by simp at h
  | p :: l, y :: gs, h => by
    obtain ⟨h1, h2⟩ := Qy.sel_vars l gs (by simpa using h)
    have es : Qy.sel (p :: l) (y :: gs) = (if y.var then [⟨p.block, p.off + 1, none⟩] else []) ++ Qy.sel l gs := by unfold Qy.sel; rw [List.zip_cons_cons, List.flatMap_cons]
    have ev : (y :: gs).flatMap Qy.Arg.vars = (if y.var then [y.n] else []) ++ gs.flatMap Qy.Arg.vars := by rw [List.flatMap_cons]; rfl
    rw [es, ev]
    cases hy : y.var
    · refine ⟨by simpa using h1, fun k a v ha hv => ?_⟩
      obtain ⟨i, p', y', e1, e2, e3, e4, e5⟩ := h2 k a v (by simpa using ha) (by simpa using hv)
      exact ⟨i + 1, p', y', by simpa using e1, by simpa using e2, e3, e4, e5⟩
    · refine ⟨by simpa using h1, fun k a v ha hv => ?_⟩
      cases k with
      | zero =>
        simp at ha hv
        exact ⟨0, p, y, rfl, rfl, hy, ha.symm, hv.symm⟩
      | succ k =>
        obtain ⟨i, p', y', e1, e2, e3, e4, e5⟩ := h2 k a v (by simpa using ha) (by simpa using hv)
        exact ⟨i + 1, p', y', by simpa using e1, by simpa using e2, e3, e4, e5⟩
end
end Go.Proofs.YtjonaidancomgaaDoor

namespace Go.Proofs.YtjonaidancomgaaDoor
open Go.RowKit

theorem grid_nodup (f : Nat → List Addr) (b o s : Nat) (hf : ∀ i a, a ∈ f i → a.block = b ∧ o + i * s ≤ a.off ∧ a.off < o + (i + 1) * s) (hn : ∀ i, (f i).Nodup) : ∀ n, ((List.range n).flatMap f).Nodup ∧ ∀ a ∈ (List.range n).flatMap f, a.block = b ∧ a.off < o + n * s
  | 0 => by simp
  | n + 1 => by
    obtain ⟨h1, h2⟩ := grid_nodup f b o s hf hn n
    rw [range_step]
    refine ⟨List.nodup_append.2 ⟨h1, hn n, fun x hx y hy e => ?_⟩, fun a ha => ?_⟩
    · subst e
      have := h2 x hx
      have := hf n x hy
      omega
    · rcases List.mem_append.1 ha with h | h
      · have := h2 a h
        refine ⟨this.1, ?_⟩
        rw [Nat.succ_mul]; omega
      · have := hf n a h
        exact ⟨this.1, this.2.2⟩
def incA (a : Addr) : Addr := ⟨a.block, a.off + 1, none⟩
theorem Qy.sel_sub : ∀ (l : List Addr) (gs : List Qy.Arg), (Qy.sel l gs).Sublist (l.map incA)
  | [], gs => by simp [Qy.sel]
  | p :: l, [] => by simp [Qy.sel]
  | p :: l, y :: gs => by
    have es : Qy.sel (p :: l) (y :: gs) = (if y.var then [⟨p.block, p.off + 1, none⟩] else []) ++ Qy.sel l gs := by unfold Qy.sel; rw [List.zip_cons_cons, List.flatMap_cons]
    rw [es, List.map_cons]
    have ih := Qy.sel_sub l gs
    cases y.var
    · exact ih.cons _
    · exact ih.cons_cons _
def Qy.S1 (A1 : Option Addr) (n1 : Nat) : List Addr := (List.range n1).flatMap (Qy.inShow A1)
def Qy.S2 (A2 : Option Addr) (n2 : Nat) : List Addr := (List.range n2).flatMap fun i => (Qy.inAtom A2 i).map incA
def Qy.S3 (A3 : Option Addr) (n3 : Nat) : List Addr := (List.range n3).flatMap fun i => (Qy.inTest A3 i).map incA
theorem Qy.args_inc (A2 A3 : Option Addr) (n2 n3 : Nat) : (Qy.argsAt A2 A3 n2 n3).map incA = Qy.S2 A2 n2 ++ Qy.S3 A3 n3 := by
  unfold Qy.argsAt Qy.S2 Qy.S3
  rw [List.map_append, List.map_flatMap, List.map_flatMap]
theorem flat_nil {α : Type} (f : Nat → List α) (h : ∀ i, f i = []) (n : Nat) : (List.range n).flatMap f = [] := by
  rw [List.flatMap_eq_nil_iff]
  exact fun i _ => h i
theorem Qy.s1_ok (A : Option Addr) (n : Nat) : (Qy.S1 A n).Nodup ∧ ∀ a ∈ Qy.S1 A n, ∃ x, A = some x ∧ a.block = x.block ∧ a = ⟨a.block, a.off, none⟩ ∧ a.off < x.off + n := by
  unfold Qy.S1
  cases A with
  | none => rw [flat_nil (Qy.inShow none) (fun _ => rfl)]; simp
  | some x =>
    obtain ⟨h1, h2⟩ := grid_nodup (Qy.inShow (some x)) x.block x.off 1 (fun i a ha => by simp [Qy.inShow] at ha; subst ha; exact ⟨rfl, by simp, by simp⟩) (fun i => by simp [Qy.inShow]) n
    refine ⟨h1, fun a ha => ⟨x, rfl, (h2 a ha).1, ?_, by have := (h2 a ha).2; omega⟩⟩
    obtain ⟨i, _, hi⟩ := List.mem_flatMap.1 ha
    simp [Qy.inShow] at hi
    subst hi
    rfl
theorem Qy.s2_ok (A : Option Addr) (n : Nat) : (Qy.S2 A n).Nodup ∧ ∀ a ∈ Qy.S2 A n, ∃ x, A = some x ∧ a.block = x.block ∧ a = ⟨a.block, a.off, none⟩ ∧ ∃ i, i < n ∧ (a.off = x.off + i * 9 + 2 ∨ a.off = x.off + i * 9 + 4 ∨ a.off = x.off + i * 9 + 6) := by
  unfold Qy.S2
  cases A with
  | none => rw [flat_nil (fun i => (Qy.inAtom none i).map incA) (fun _ => rfl)]; simp
  | some x =>
    obtain ⟨h1, h2⟩ := grid_nodup (fun i => (Qy.inAtom (some x) i).map incA) x.block x.off 9 (fun i a ha => by
      simp [Qy.inAtom, incA] at ha
      rcases ha with rfl | rfl | rfl
      · exact ⟨rfl, by simp; omega, by simp; omega⟩
      · exact ⟨rfl, by simp; omega, by simp; omega⟩
      · exact ⟨rfl, by simp; omega, by simp; omega⟩) (fun i => by simp [Qy.inAtom, incA]) n
    refine ⟨h1, fun a ha => ?_⟩
    obtain ⟨i, hi, ha⟩ := List.mem_flatMap.1 ha
    have hin : i < n := by simpa using hi
    simp [Qy.inAtom, incA] at ha
    rcases ha with rfl | rfl | rfl
    · exact ⟨x, rfl, rfl, rfl, i, hin, Or.inl rfl⟩
    · exact ⟨x, rfl, rfl, rfl, i, hin, Or.inr (Or.inl rfl)⟩
    · exact ⟨x, rfl, rfl, rfl, i, hin, Or.inr (Or.inr rfl)⟩
theorem Qy.s3_ok (A : Option Addr) (n : Nat) : (Qy.S3 A n).Nodup ∧ ∀ a ∈ Qy.S3 A n, ∃ x, A = some x ∧ a.block = x.block ∧ a = ⟨a.block, a.off, none⟩ ∧ ∃ i, i < n ∧ (a.off = x.off + i * 5 + 2 ∨ a.off = x.off + i * 5 + 4) := by
  unfold Qy.S3
  cases A with
  | none => rw [flat_nil (fun i => (Qy.inTest none i).map incA) (fun _ => rfl)]; simp
  | some x =>
    obtain ⟨h1, h2⟩ := grid_nodup (fun i => (Qy.inTest (some x) i).map incA) x.block x.off 5 (fun i a ha => by
      simp [Qy.inTest, incA] at ha
      rcases ha with rfl | rfl
      · exact ⟨rfl, by simp; omega, by simp; omega⟩
      · exact ⟨rfl, by simp; omega, by simp; omega⟩) (fun i => by simp [Qy.inTest, incA]) n
    refine ⟨h1, fun a ha => ?_⟩
    obtain ⟨i, hi, ha⟩ := List.mem_flatMap.1 ha
    have hin : i < n := by simpa using hi
    simp [Qy.inTest, incA] at ha
    rcases ha with rfl | rfl
    · exact ⟨x, rfl, rfl, rfl, i, hin, Or.inl rfl⟩
    · exact ⟨x, rfl, rfl, rfl, i, hin, Or.inr rfl⟩
/-- Three rows lie in three blocks. -/
structure Apart3 (A1 A2 A3 : Option Addr) : Prop where
  x12 : ∀ x y, A1 = some x → A2 = some y → x.block ≠ y.block
  x13 : ∀ x y, A1 = some x → A3 = some y → x.block ≠ y.block
  x23 : ∀ x y, A2 = some x → A3 = some y → x.block ≠ y.block
theorem Qy.vars_nodup {A1 A2 A3 : Option Addr} (h : Apart3 A1 A2 A3) (n1 n2 n3 : Nat) (gs : List Qy.Arg) : (Qy.varsAt A1 A2 A3 n1 n2 n3 gs).Nodup := by
  obtain ⟨d1, m1⟩ := Qy.s1_ok A1 n1
  obtain ⟨d2, m2⟩ := Qy.s2_ok A2 n2
  obtain ⟨d3, m3⟩ := Qy.s3_ok A3 n3
  have hs := Qy.sel_sub (Qy.argsAt A2 A3 n2 n3) gs
  rw [Qy.args_inc] at hs
  have h23 : (Qy.S2 A2 n2 ++ Qy.S3 A3 n3).Nodup := List.nodup_append.2 ⟨d2, d3, fun x hx y hy e => by
    subst e
    obtain ⟨u, e1, e2, _⟩ := m2 x hx
    obtain ⟨v, e3, e4, _⟩ := m3 x hy
    exact h.x23 u v e1 e3 (by rw [← e2, ← e4])⟩
  refine List.nodup_append.2 ⟨d1, h23.sublist hs, fun x hx y hy e => ?_⟩
  subst e
  obtain ⟨u, e1, e2, _⟩ := m1 x hx
  rcases List.mem_append.1 (hs.subset hy) with h1 | h1
  · obtain ⟨v, e3, e4, _⟩ := m2 x h1
    exact h.x12 u v e1 e3 (by rw [← e2, ← e4])
  · obtain ⟨v, e3, e4, _⟩ := m3 x h1
    exact h.x13 u v e1 e3 (by rw [← e2, ← e4])
theorem Qy.vars_mem {A1 A2 A3 : Option Addr} {n1 n2 n3 : Nat} {gs : List Qy.Arg} {a : Addr} (ha : a ∈ Qy.varsAt A1 A2 A3 n1 n2 n3 gs) : a ∈ Qy.S1 A1 n1 ∨ a ∈ Qy.S2 A2 n2 ∨ a ∈ Qy.S3 A3 n3 := by
  have hs := Qy.sel_sub (Qy.argsAt A2 A3 n2 n3) gs
  rw [Qy.args_inc] at hs
  unfold Qy.varsAt at ha
  rcases List.mem_append.1 ha with h | h
  · exact Or.inl h
  · rcases List.mem_append.1 (hs.subset h) with h1 | h1
    · exact Or.inr (Or.inl h1)
    · exact Or.inr (Or.inr h1)
end Go.Proofs.YtjonaidancomgaaDoor

namespace Go.Proofs.YtjonaidancomgaaDoor
open Go.RowKit Go.Maps Go.WideMaps

section
variable {N g p ixb mb : Nat} {w W0 : World} {psr : Array Value} {vPN vS vA vT : Value} {names : List (List UInt8)} {xs : List Addr} {rb : List Nat} {m vals : List Int} {W W' : World}
theorem PIx.next (F : PFix N g p ixb mb w W0 psr vPN xs rb) (h : PIx N g p ixb mb w W0 psr vPN vS vA vT names xs rb m vals W) (hb : Below W.heap.size W W') : PIx N g p ixb mb w W0 psr vPN vS vA vT names xs rb m vals W' := by
  obtain ⟨vN, hN, hown⟩ := h.res
  have hcell : ∀ a : Addr, a.block ∈ rb → W'.cell? a = W.cell? a := fun a ha => by
    obtain ⟨t, cs, h1, _⟩ := h.rows a.block ha
    exact World.cell?_of_block ((h1.below hb h1.lt).trans h1.symm)
  refine ⟨h.bel.trans (hb.mono h.bel.size), ⟨vN, hN.below hb hN.lt, own_below hown hb⟩, h.r1.below hb h.r1.lt, h.r2.below hb h.r2.lt, h.pbox.below hb h.pbox.lt, h.par.below hb h.par.lt, h.ibox.below hb h.ibox.lt, ?_, own_below h.pn hb, ?_, ?_, ?_⟩
  · obtain ⟨es, clock, hm, hrest⟩ := h.map
    exact ⟨es, clock, (hb.block mb (Array.getElem?_eq_some_iff.1 hm).1).trans hm, hrest⟩
  · intro b hbm
    obtain ⟨t, cs, h1, h2⟩ := h.rows b hbm
    exact ⟨t, cs, h1.below hb h1.lt, h2⟩
  · intro k a v ha hv
    rw [hcell a (F.xrb a (List.mem_of_getElem? ha))]
    exact h.cells k a v ha hv
  · intro a ha hx
    rw [hcell a ha]
    exact h.rest a ha hx
end

def blkOf (A : Option Addr) : List Nat := match A with | some a => [a.block] | none => []
/-- An owned row's address: its block holds elements of its type, and is owned. -/
theorem own_addr {w : World} {base sz n c : Nat} {e : TypeId} {A : Option Addr} {ys : List Value} (h : w.ownsRow base e sz (.slice A n c) n ys) {a : Addr} (ha : A = some a) : (∃ cs, Blk w a.block e cs) ∧ a.off = 0 ∧ base ≤ a.block ∧ a.block < w.heap.size := by
  subst ha
  have hlt := World.ownsRow.lt h a.block rfl
  rcases h.2 with ⟨hv, _⟩ | ⟨g', cap', cur', hv, _, hh, _⟩
  · cases hv
  · injection hv with hv _ _
    injection hv with hv
    subst hv
    exact ⟨⟨cur', hh⟩, rfl, hlt⟩
theorem own_apart3 {w : World} {G : Nat} {names : List (List UInt8)} {shown : List Int} {atoms : List Qy.Atom} {tests : List Qy.Test} {vN : Value} {AS AA AT : Option Addr} {cS cA cT : Nat} (h : POwn G names shown atoms tests vN (.slice AS shown.length cS) (.slice AA atoms.length cA) (.slice AT tests.length cT) w) : Apart3 AS AA AT := by
  refine ⟨fun x y e1 e2 e => ?_, fun x y e1 e2 e => ?_, fun x y e1 e2 e => ?_⟩
  · obtain ⟨⟨c1, h1⟩, _⟩ := own_addr h.s e1
    obtain ⟨⟨c2, h2⟩, _⟩ := own_addr h.a e2
    exact Blk.ne h1 h2 (by decide) e
  · obtain ⟨⟨c1, h1⟩, _⟩ := own_addr h.s e1
    obtain ⟨⟨c2, h2⟩, _⟩ := own_addr h.t e2
    exact Blk.ne h1 h2 (by decide) e
  · obtain ⟨⟨c1, h1⟩, _⟩ := own_addr h.a e1
    obtain ⟨⟨c2, h2⟩, _⟩ := own_addr h.t e2
    exact Blk.ne h1 h2 (by decide) e

/-- The world in which the loop starts. -/
def loopStart (w6 : World) (N : Nat) (vS vA vT : Value) : World :=
  (((((((w6.setCell ⟨N, 0, none⟩ (.slice none 0 0)).setCell ⟨N, 1, none⟩ vS).setCell ⟨N, 2, none⟩ vA).setCell ⟨N, 3, none⟩ vT).alloc (.map #[] 0)).alloc (.cells #[.map (some w6.heap.size)] 74)).alloc (.cells #[.pointer (some ⟨N, 0, none⟩)] 58))
theorem loopStart_size (w6 : World) (N : Nat) (vS vA vT : Value) : (loopStart w6 N vS vA vT).heap.size = w6.heap.size + 3 := by simp [loopStart]
theorem loopStart_far {w6 : World} {N : Nat} {vS vA vT : Value} {b : Nat} {t : TypeId} {cs : Array Value} (h : Blk w6 b t cs) (hne : b ≠ N) : Blk (loopStart w6 N vS vA vT) b t cs :=
  ((((((h.far (p := ⟨N, 0, none⟩) hne _).far (p := ⟨N, 1, none⟩) hne _).far (p := ⟨N, 2, none⟩) hne _).far (p := ⟨N, 3, none⟩) hne _).alloc _).alloc _).alloc _
theorem loopStart_q {w6 : World} {N : Nat} {vS vA vT x0 x1 x2 x3 : Value} (h : Blk w6 N 27 #[x0, x1, x2, x3]) : Blk (loopStart w6 N vS vA vT) N 27 #[.slice none 0 0, vS, vA, vT] := by
  have := (((h.set 0 (.slice none 0 0)).set 1 vS).set 2 vA).set 3 vT
  simp at this
  exact ((this.alloc _).alloc _).alloc _
theorem loopStart_below {w w6 : World} {N : Nat} {vS vA vT : Value} (h : Below w.heap.size w w6) (hN : w.heap.size ≤ N) : Below w.heap.size w (loopStart w6 N vS vA vT) := by
  have hs := h.size
  exact ((((((h.setCell (p := ⟨N, 0, none⟩) hN _).setCell (p := ⟨N, 1, none⟩) hN _).setCell (p := ⟨N, 2, none⟩) hN _).setCell (p := ⟨N, 3, none⟩) hN _).alloc (by simp; omega) _).alloc (by simp; omega) _).alloc (by simp; omega) _
end Go.Proofs.YtjonaidancomgaaDoor
