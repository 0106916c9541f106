/- Parts of the proof, joined into one text: SxTakeM, SxReqI. -/
import Derived.Test.YtjonaidancomgaaGreatDoorYSxKids

namespace Go.Proofs.YtjonaidancomgaaGreatDoor
open Go.RowKit

theorem LSt.grown {g B : Nat} {last : Int} {l : List Lx.Tok} {p : Nat} {t : TypeId} {cs : Array Value} {w0 w w3 : World} {ob : Option Nat} (h : LSt g B last l p t cs w0 w) (hgrow : w.grownBy w3 ob) (hob : ∀ z, ob = some z → p < z) : LSt g B last l p t cs w0 w3 := by
  have h1 := h.fr.bel.size
  have h2 := h.old
  have h3 := h.lt
  have h4 := h.blk.lt
  have hbel : Below g w w3 := Below.grown (Below.refl _ _) hgrow (by omega) (fun z hz => by have := hob z hz; omega)
  refine ⟨?_, ⟨h.fr.bel.trans hbel, fun k hk hn => (hgrow.block k (by omega) (fun e => by have := hob k e.symm; omega)).trans (h.fr.keep k hk hn)⟩, h.blk.grown hgrow (fun e => by have := hob p e; omega), h.old, h.lt⟩
  obtain ⟨⟨A, c, q1, q2, q3⟩, hB⟩ := h.ps
  exact ⟨⟨A, c, q1.grown hgrow (fun e => by have := hob g e; omega), q2.below hbel hB, q3⟩, hB⟩
structure TakeM (g B : Nat) (last : Int) (p r0 : Nat) (w0 : World) (nm : List UInt8) (cr : Int) (gv hv cN cF vN vF : Value) (xs : List (List UInt8)) (ys : List Int) (nb : Option (Nat × List UInt8)) (fb : Option (Nat × Int)) (l : List Lx.Tok) (w : World) : Prop where
  st : LSt g B last l p 108 #[.string (Lx.bs nm), .int .i64 cr, gv, hv, cN, cF] w0 w
  res : Blk w r0 108 #[.string ⟨#[]⟩, .int .i64 0, .int .i64 0, .bool false, .slice none 0 0, .slice none 0 0]
  names : w.ownsRow p 9 1 vN xs.length (xs.map strV)
  froms : w.ownsRow p 3 1 vF ys.length (ys.map intV)
  rp : r0 < p
  gr : g < r0
  farN : vN.ownBlock ≠ some p
  farF : vF.ownBlock ≠ some p
  bN : ∀ b x, nb = some (b, x) → p < b ∧ Blk w b 9 #[strV x]
  bF : ∀ b n, fb = some (b, n) → p < b ∧ Blk w b 3 #[intV n]
section
variable {g B : Nat} {last : Int} {p r0 : Nat} {w0 w w' : World} {nm : List UInt8} {cr : Int} {gv hv cN cF vN vF : Value} {xs : List (List UInt8)} {ys : List Int} {nb : Option (Nat × List UInt8)} {fb : Option (Nat × Int)} {l l' : List Lx.Tok}
theorem TakeM.gp (h : TakeM g B last p r0 w0 nm cr gv hv cN cF vN vF xs ys nb fb l w) : g < p := by have := h.rp; have := h.gr; omega
theorem TakeM.oN (h : TakeM g B last p r0 w0 nm cr gv hv cN cF vN vF xs ys nb fb l w) : ∀ z, vN.ownBlock = some z → p < z := fun z hz => by
  have h1 := own_ge h.names hz
  have : z ≠ p := fun e => h.farN (by rw [hz, e])
  omega
theorem TakeM.oF (h : TakeM g B last p r0 w0 nm cr gv hv cN cF vN vF xs ys nb fb l w) : ∀ z, vF.ownBlock = some z → p < z := fun z hz => by
  have h1 := own_ge h.froms hz
  have : z ≠ p := fun e => h.farF (by rw [hz, e])
  omega
theorem TakeM.step (h : TakeM g B last p r0 w0 nm cr gv hv cN cF vN vF xs ys nb fb l w) (hf : FrG g w w') (hs : PS g B last l' w') : TakeM g B last p r0 w0 nm cr gv hv cN cF vN vF xs ys nb fb l' w' :=
  ⟨h.st.step hf hs, hf.blk h.res (by have := h.gr; omega), own_frg hf h.names h.gp, own_frg hf h.froms h.gp, h.rp, h.gr, h.farN, h.farF,
   fun b x e => ⟨(h.bN b x e).1, hf.blk (h.bN b x e).2 (by have := (h.bN b x e).1; have := h.gp; omega)⟩, fun b x e => ⟨(h.bF b x e).1, hf.blk (h.bF b x e).2 (by have := (h.bF b x e).1; have := h.gp; omega)⟩⟩
theorem TakeM.allocN (h : TakeM g B last p r0 w0 nm cr gv hv cN cF vN vF xs ys none fb l w) (x : List UInt8) : TakeM g B last p r0 w0 nm cr gv hv cN cF vN vF xs ys (some (w.heap.size, x)) fb l (w.alloc (.cells #[.string (Lx.bs x)] 9)) :=
  have hb : Below w.heap.size w (w.alloc (.cells #[.string (Lx.bs x)] 9)) := (Below.refl _ _).alloc (Nat.le_refl _) _
  have h2 := h.step (FrG.below hb h.st.ps.lt) (h.st.ps.alloc _)
  ⟨h2.st, h2.res, h2.names, h2.froms, h2.rp, h2.gr, h2.farN, h2.farF, fun b y e => by
    injection e with e
    injection e with e1 e2
    subst e1; subst e2
    exact ⟨h.st.blk.lt, Blk.new _ _ _⟩, h2.bF⟩
theorem TakeM.allocF (h : TakeM g B last p r0 w0 nm cr gv hv cN cF vN vF xs ys nb none l w) (x : Int) : TakeM g B last p r0 w0 nm cr gv hv cN cF vN vF xs ys nb (some (w.heap.size, x)) l (w.alloc (.cells #[.int .i64 x] 3)) :=
  have hb : Below w.heap.size w (w.alloc (.cells #[.int .i64 x] 3)) := (Below.refl _ _).alloc (Nat.le_refl _) _
  have h2 := h.step (FrG.below hb h.st.ps.lt) (h.st.ps.alloc _)
  ⟨h2.st, h2.res, h2.names, h2.froms, h2.rp, h2.gr, h2.farN, h2.farF, h2.bN, fun b y e => by
    injection e with e
    injection e with e1 e2
    subst e1; subst e2
    exact ⟨h.st.blk.lt, Blk.new _ _ _⟩⟩
theorem kinds_ne {b1 b2 s1 s2 n1 n2 : Nat} {e1 e2 : TypeId} {v1 v2 : Value} {x1 x2 : List Value} (h1 : w.ownsRow b1 e1 s1 v1 n1 x1) (h2 : w.ownsRow b2 e2 s2 v2 n2 x2) (hne : e1 ≠ e2) : v1.ownBlock = none ∨ v1.ownBlock ≠ v2.ownBlock := by
  cases h : v1.ownBlock with
  | none => exact .inl rfl
  | some z =>
    right
    intro e
    rcases h1.2 with ⟨a, -⟩ | ⟨z1, c1, u1, a, _, k1, _⟩
    · rw [a] at h; simp [Value.ownBlock] at h
    rcases h2.2 with ⟨b, -⟩ | ⟨z2, c2, u2, b, _, k2, _⟩
    · rw [b] at e; simp [Value.ownBlock] at e
    rw [a] at h; rw [b] at e
    simp [Value.ownBlock] at h e
    subst h
    rw [← e] at k2
    rw [k1] at k2
    simp at k2
    exact hne k2.2
theorem TakeM.grownN {gg cap : Nat} {w3 : World} {b : Nat} {x : List UInt8} (h : TakeM g B last p r0 w0 nm cr gv hv cN cF vN vF xs ys (some (b, x)) fb l w) (hgrow : w.grownBy w3 vN.ownBlock) (hat : vN.ownBlock = some gg ∨ gg = w.heap.size) (hown : w3.ownsRow p 9 1 (.slice (some ⟨gg, 0, none⟩) (xs.length + 1) cap) (xs.length + 1) (xs.map strV ++ [strV x])) :
    TakeM g B last p r0 w0 nm cr gv hv cN cF (.slice (some ⟨gg, 0, none⟩) (xs.length + 1) cap) vF (xs ++ [x]) ys none fb l w3 := by
  have hgg : p < gg := by
    rcases hat with e | e
    · exact h.oN gg e
    · have := h.st.blk.lt; omega
  refine ⟨h.st.grown hgrow h.oN, h.res.grown hgrow (fun e => by have := h.oN r0 e; have := h.rp; omega), ?_, h.froms.kept hgrow (kinds_ne h.froms h.names (by decide)), h.rp, h.gr, fun e => ?_, h.farF, fun b y e => (by cases e), fun b n e => ⟨(h.bF b n e).1, (h.bF b n e).2.grown hgrow (own_ne h.names (h.bF b n e).2 (by decide))⟩⟩
  · rw [show (xs ++ [x]).length = xs.length + 1 by simp, show (xs ++ [x]).map strV = xs.map strV ++ [strV x] by simp]
    exact hown
  · have e1 : gg = p := by simpa [Value.ownBlock] using e
    omega
theorem TakeM.grownF {gg cap : Nat} {w3 : World} {b : Nat} {x : Int} (h : TakeM g B last p r0 w0 nm cr gv hv cN cF vN vF xs ys nb (some (b, x)) l w) (hgrow : w.grownBy w3 vF.ownBlock) (hat : vF.ownBlock = some gg ∨ gg = w.heap.size) (hown : w3.ownsRow p 3 1 (.slice (some ⟨gg, 0, none⟩) (ys.length + 1) cap) (ys.length + 1) (ys.map intV ++ [intV x])) :
    TakeM g B last p r0 w0 nm cr gv hv cN cF vN (.slice (some ⟨gg, 0, none⟩) (ys.length + 1) cap) xs (ys ++ [x]) nb none l w3 := by
  have hgg : p < gg := by
    rcases hat with e | e
    · exact h.oF gg e
    · have := h.st.blk.lt; omega
  refine ⟨h.st.grown hgrow h.oF, h.res.grown hgrow (fun e => by have := h.oF r0 e; have := h.rp; omega), h.names.kept hgrow (kinds_ne h.names h.froms (by decide)), ?_, h.rp, h.gr, h.farN, fun e => ?_, fun b n e => ⟨(h.bN b n e).1, (h.bN b n e).2.grown hgrow (own_ne h.froms (h.bN b n e).2 (by decide))⟩, fun b y e => (by cases e)⟩
  · rw [show (ys ++ [x]).length = ys.length + 1 by simp, show (ys ++ [x]).map intV = ys.map intV ++ [intV x] by simp]
    exact hown
  · have e1 : gg = p := by simpa [Value.ownBlock] using e
    omega
theorem TakeM.store (h : TakeM g B last p r0 w0 nm cr gv hv cN cF vN vF xs ys none none l w) : TakeM g B last p r0 w0 nm cr gv hv vN vF vN vF xs ys none none l ((w.setCell ⟨p, 4, none⟩ vN).setCell ⟨p, 5, none⟩ vF) := by
  have hL := (h.st.set 4 vN).set 5 vF
  refine ⟨by simpa using hL, (h.res.far (p := ⟨p, 4, none⟩) (show r0 ≠ p by have := h.rp; omega) _).far (p := ⟨p, 5, none⟩) (show r0 ≠ p by have := h.rp; omega) _, ownsRow_setCell_other (ownsRow_setCell_other h.names h.farN _) h.farN _, ownsRow_setCell_other (ownsRow_setCell_other h.froms h.farF _) h.farF _, h.rp, h.gr, h.farN, h.farF, fun b y e => (by cases e), fun b y e => (by cases e)⟩
theorem TakeM.setG (h : TakeM g B last p r0 w0 nm cr gv hv cN cF vN vF xs ys none none l w) (u : Value) : TakeM g B last p r0 w0 nm cr u hv cN cF vN vF xs ys none none l (w.setCell ⟨p, 2, none⟩ u) :=
  ⟨by simpa using h.st.set 2 u, h.res.far (p := ⟨p, 2, none⟩) (show r0 ≠ p by have := h.rp; omega) _, ownsRow_setCell_other h.names h.farN _, ownsRow_setCell_other h.froms h.farF _, h.rp, h.gr, h.farN, h.farF, fun b y e => (by cases e), fun b y e => (by cases e)⟩
theorem TakeM.setH (h : TakeM g B last p r0 w0 nm cr gv hv cN cF vN vF xs ys none none l w) (u : Value) : TakeM g B last p r0 w0 nm cr gv u cN cF vN vF xs ys none none l (w.setCell ⟨p, 3, none⟩ u) :=
  ⟨by simpa using h.st.set 3 u, h.res.far (p := ⟨p, 3, none⟩) (show r0 ≠ p by have := h.rp; omega) _, ownsRow_setCell_other h.names h.farN _, ownsRow_setCell_other h.froms h.farF _, h.rp, h.gr, h.farN, h.farF, fun b y e => (by cases e), fun b y e => (by cases e)⟩
theorem one_flat {α : Type} (f : α → Value) : ∀ xs : List α, (xs.map fun x => [f x]).flatten = xs.map f
  | [] => rfl
  | x :: xs => by simp [one_flat f xs]
theorem TakeM.rows (h : TakeM g B last p r0 w0 nm cr gv hv cN cF vN vF xs ys nb fb l w) (hx : xs.length ≤ 1000001) (hy : ys.length ≤ 1000001) (hl : ∀ x ∈ xs, x.length ≤ 140737488351232) :
    ∃ A c B' d, vN = .slice A xs.length c ∧ vF = .slice B' ys.length d ∧ Row w (fun b => p < b ∧ b < w.heap.size) A 1 StrAt xs ∧ Row w (fun b => p < b ∧ b < w.heap.size) B' 1 (OneAt intV) ys := by
  have hN := h.names
  have hF := h.froms
  rw [← one_flat strV xs] at hN
  rw [← one_flat intV ys] at hF
  obtain ⟨A, c, a1, a2⟩ := own_row (P := StrAt) (S := fun b => p < b ∧ b < w.heap.size) hN (by simp) rfl (fun cs hcs => by obtain ⟨x, _, rfl⟩ := List.mem_map.1 hcs; rfl) (fun k x cs hk hc => by
    rw [List.getElem?_map, hk] at hc
    have : cs = [strV x] := by simpa using hc.symm
    exact ⟨this, hl x (List.mem_of_getElem? hk)⟩) (fun z hz => ⟨h.oN z hz, own_lt h.names hz⟩) (by omega)
  obtain ⟨B', d, b1, b2⟩ := own_row (P := OneAt intV) (S := fun b => p < b ∧ b < w.heap.size) hF (by simp) rfl (fun cs hcs => by obtain ⟨x, _, rfl⟩ := List.mem_map.1 hcs; rfl) (fun k x cs hk hc => by
    rw [List.getElem?_map, hk] at hc
    have : cs = [intV x] := by simpa using hc.symm
    exact this) (fun z hz => ⟨h.oF z hz, own_lt h.froms hz⟩) (by omega)
  exact ⟨A, c, B', d, a1, b1, a2, b2⟩
def vReq (lo : Nat) (x : Sx.Req) (v : Value) (w : World) : Prop := ∃ cs : List Value, v = .agg cs.toArray ∧ ReqAt w (fun b => lo ≤ b ∧ b < w.heap.size) x cs
theorem TakeM.stepN {P : Program} {b : Nat} {x : List UInt8} (h : TakeM g B last p r0 w0 nm cr gv hv cN cF vN vF xs ys (some (b, x)) fb l w) (hfew : xs.length ≤ 1000000)
    {ops : Array Oper} {o : Oper} {a : Act} {K : Act → World → Prop} {Q : Exit → Act → World → Prop} {E : Prop} (hgd : o.guard = none) (s y : Operand) (t : TypeId)
    (ho : o.op = .call { callee := .builtin .append, args := #[s, y], argTypes := #[t, t] }) (inf : TypeInfo) (z : Value) (ht : P.underlying t = some (.slice 9)) (hi : P.info? 9 = some inf) (hz : inf.zero = some z)
    (hsize : inf.size = 1) (hby : inf.bytes = 16) (hzs : z.cells.size = 1) (hs : a.eval s = vN) (hy : a.eval y = .slice (some ⟨b, 0, none⟩) 1 1)
    (hK : ∀ gg cap w3, TakeM g B last p r0 w0 nm cr gv hv cN cF (.slice (some ⟨gg, 0, none⟩) (xs.length + 1) cap) vF (xs ++ [x]) ys none fb l w3 → K (a.put o.dst (.slice (some ⟨gg, 0, none⟩) (xs.length + 1) cap)) w3) :
    if Region.wanted o (yielded ops a.tmps) = true then Oper.wp P o a w K Q else E := by
  refine step_append_lies _ hgd s y t ho p 9 inf z 1 16 ht hi hz hsize hby hzs (by omega) vN xs.length (xs.map strV) hs h.names ⟨b, 0, none⟩ 1 1 [strV x] hy rfl (World.news_of_block (cs := #[strV x]) (t := 9) (fr := (0, 0)) (h.bN b x rfl).2) (by simp [strV, Value.oneCell']) (by omega) (by unfold maxLen; omega) (by omega) (by have := h.st.blk.lt; omega) w.heap.size rfl ?_
  intro gg cap w3 hown hgrow hat hlt
  exact hK gg cap w3 (h.grownN hgrow hat hown)
theorem TakeM.stepF {P : Program} {b : Nat} {x : Int} (h : TakeM g B last p r0 w0 nm cr gv hv cN cF vN vF xs ys nb (some (b, x)) l w) (hfew : ys.length ≤ 1000000)
    {ops : Array Oper} {o : Oper} {a : Act} {K : Act → World → Prop} {Q : Exit → Act → World → Prop} {E : Prop} (hgd : o.guard = none) (s y : Operand) (t : TypeId)
    (ho : o.op = .call { callee := .builtin .append, args := #[s, y], argTypes := #[t, t] }) (inf : TypeInfo) (z : Value) (ht : P.underlying t = some (.slice 3)) (hi : P.info? 3 = some inf) (hz : inf.zero = some z)
    (hsize : inf.size = 1) (hby : inf.bytes = 8) (hzs : z.cells.size = 1) (hs : a.eval s = vF) (hy : a.eval y = .slice (some ⟨b, 0, none⟩) 1 1)
    (hK : ∀ gg cap w3, TakeM g B last p r0 w0 nm cr gv hv cN cF vN (.slice (some ⟨gg, 0, none⟩) (ys.length + 1) cap) xs (ys ++ [x]) nb none l w3 → K (a.put o.dst (.slice (some ⟨gg, 0, none⟩) (ys.length + 1) cap)) w3) :
    if Region.wanted o (yielded ops a.tmps) = true then Oper.wp P o a w K Q else E := by
  refine step_append_lies _ hgd s y t ho p 3 inf z 1 8 ht hi hz hsize hby hzs (by omega) vF ys.length (ys.map intV) hs h.froms ⟨b, 0, none⟩ 1 1 [intV x] hy rfl (World.news_of_block (cs := #[intV x]) (t := 3) (fr := (0, 0)) (h.bF b x rfl).2) (by simp [intV, Value.oneCell']) (by omega) (by unfold maxLen; omega) (by omega) (by have := h.st.blk.lt; omega) w.heap.size rfl ?_
  intro gg cap w3 hown hgrow hat hlt
  exact hK gg cap w3 (h.grownF hgrow hat hown)
end
end Go.Proofs.YtjonaidancomgaaGreatDoor

namespace Go.Proofs.YtjonaidancomgaaGreatDoor
open Go.RowKit

structure ReqI (g B : Nat) (last : Int) (p : Nat) (x0 x1 x2 x3 x4 x5 : Value) (w0 : World) (qs : List Sx.Req) (css : List (List Value)) (v : Value) (l : List Lx.Tok) (w : World) : Prop where
 st : LSt g B last l p 78 #[x0, x1, x2, x3, x4, x5, v] w0 w
 own : w.ownsRow p 108 6 v qs.length css.flatten
 len : css.length = qs.length
 kid : ∀ (i : Nat) r cs, qs[i]? = some r → css[i]? = some cs → ReqAt w (fun b => p < b ∧ b < w.heap.size ∧ v.ownBlock ≠ some b) r cs
 far : v.ownBlock ≠ some p
theorem ReqAt.length {w : World} {S : Nat → Prop} {x : Sx.Req} {cs : List Value} (h : ReqAt w S x cs) : cs.length = 6 := by
 obtain ⟨A, c, B, d, rfl, _⟩ := h
 rfl
section
variable {g B : Nat} {last : Int} {p : Nat} {x0 x1 x2 x3 x4 x5 : Value} {w0 w w' : World} {qs : List Sx.Req} {css : List (List Value)} {v : Value} {l l' : List Lx.Tok}
theorem ReqI.gp (h : ReqI g B last p x0 x1 x2 x3 x4 x5 w0 qs css v l w) : g < p := by have := h.st.old; have := h.st.lt; omega
theorem ReqI.oV (h : ReqI g B last p x0 x1 x2 x3 x4 x5 w0 qs css v l w) : ∀ z, v.ownBlock = some z → p < z := fun z hz => by
 have h1 := own_ge h.own hz
 have : z ≠ p := fun e => h.far (by rw [hz, e])
 omega
theorem ReqI.step (h : ReqI g B last p x0 x1 x2 x3 x4 x5 w0 qs css v l w) (hf : FrG g w w') (hs : PS g B last l' w') : ReqI g B last p x0 x1 x2 x3 x4 x5 w0 qs css v l' w' :=
 ⟨h.st.step hf hs, own_frg hf h.own h.gp, h.len, fun i r cs h1 h2 => ReqAt.keep (fun b hb => ⟨⟨hb.1, Nat.lt_of_lt_of_le hb.2.1 hf.bel.size, hb.2.2⟩, fun j => hf.cell hb.2.1 (by have := h.gp; have := hb.1; omega) j⟩) (h.kid i r cs h1 h2), h.far⟩
theorem ReqI.start (h : LSt g B last l p 78 #[x0, x1, x2, x3, x4, x5, .slice none 0 0] w0 w) : ReqI g B last p x0 x1 x2 x3 x4 x5 w0 [] [] (.slice none 0 0) l w :=
 ⟨h, ⟨rfl, .inl ⟨rfl, rfl⟩⟩, rfl, fun i r cs h1 _ => by simp at h1, by simp [Value.ownBlock]⟩
theorem ReqI.grow {gg cap lo : Nat} {r : Sx.Req} {cs : List Value} {w1 w3 : World} (h : ReqI g B last p x0 x1 x2 x3 x4 x5 w0 qs css v l w) (hr : ReqAt w (fun b => lo ≤ b ∧ b < w.heap.size) r cs) (hlo : p < lo) (hrow : ∀ z, v.ownBlock = some z → z < lo)
  (hb1 : Below w.heap.size w w1) (hgrow : w1.grownBy w3 v.ownBlock) (hat : v.ownBlock = some gg ∨ w.heap.size ≤ gg) (hown : w3.ownsRow p 108 6 (.slice (some ⟨gg, 0, none⟩) (qs.length + 1) cap) (qs.length + 1) (css.flatten ++ cs)) :
  (w3.cell? ⟨p, 6, none⟩ = some v ∧ w3.frozen? ⟨p, 6, none⟩ = false) ∧ ReqI g B last p x0 x1 x2 x3 x4 x5 w0 (qs ++ [r]) (css ++ [cs]) (.slice (some ⟨gg, 0, none⟩) (qs.length + 1) cap) l (w3.setCell ⟨p, 6, none⟩ (.slice (some ⟨gg, 0, none⟩) (qs.length + 1) cap)) := by
 have hgp := h.gp
 have hpl := h.st.blk.lt
 have hz1 := hb1.size
 have hz3 := hgrow.size
 have hkeep : ∀ b, b < w.heap.size → v.ownBlock ≠ some b → w3.heap[b]? = w.heap[b]? := fun b hb hn => (hgrow.block b (by omega) (fun e => hn e.symm)).trans (hb1.block b hb)
 have hL1 := h.st.step (FrG.below hb1 (by omega)) (h.st.ps.next hb1)
 have hL3 : LSt g B last l p 78 #[x0, x1, x2, x3, x4, x5, v] w0 w3 := hL1.grown hgrow h.oV
 have hgg : p < gg := by
  rcases hat with e | e
  ·exact h.oV gg e
  ·omega
 have hne : (Value.slice (some ⟨gg, 0, none⟩) (qs.length + 1) cap).ownBlock ≠ some p := by
  intro e
  have e1 : gg = p := by simpa [Value.ownBlock] using e
  omega
 have hng : ∀ b, b < w.heap.size → v.ownBlock ≠ some b → b ≠ gg := fun b h1 h2 e => by
  rcases hat with h3 | h3
  ·exact h2 (by rw [e]; exact h3)
  ·omega
 have hsz : (w3.setCell ⟨p, 6, none⟩ (.slice (some ⟨gg, 0, none⟩) (qs.length + 1) cap)).heap.size = w3.heap.size := by simp [World.setCell]
 have hS : ∀ b, p < b → b < w.heap.size → v.ownBlock ≠ some b → (p < b ∧ b < (w3.setCell ⟨p, 6, none⟩ (.slice (some ⟨gg, 0, none⟩) (qs.length + 1) cap)).heap.size ∧ (Value.slice (some ⟨gg, 0, none⟩) (qs.length + 1) cap).ownBlock ≠ some b) ∧ ∀ i, (w3.setCell ⟨p, 6, none⟩ (.slice (some ⟨gg, 0, none⟩) (qs.length + 1) cap)).cell? ⟨b, i, none⟩ = w.cell? ⟨b, i, none⟩ := fun b h1 h2 h3 =>
  ⟨⟨h1, by rw [hsz]; omega, fun e => hng b h2 h3 (by simpa [Value.ownBlock] using e.symm)⟩, fun i => World.cell?_of_block (a := ⟨b, i, none⟩) ((Below.heap_setCell w3 ⟨p, 6, none⟩ _ b (show b ≠ p by omega)).trans (hkeep b h2 h3))⟩
 refine ⟨⟨?_, ?_⟩, ?_⟩
 ·exact hL3.blk.cell 6
 ·exact hL3.blk.free 6
 ·refine ⟨?_, ?_, by simp [h.len], ?_, hne⟩
  ·have := hL3.set 6 (.slice (some ⟨gg, 0, none⟩) (qs.length + 1) cap)
   simpa using this
  ·rw [show (qs ++ [r]).length = qs.length + 1 by simp, show (css ++ [cs]).flatten = css.flatten ++ cs by simp]
   exact ownsRow_setCell_other hown hne _
  ·intro i r1 cs1 h1 h2
   rcases Nat.lt_or_ge i qs.length with hi | hi
   ·rw [List.getElem?_append_left hi] at h1
    rw [List.getElem?_append_left (by rw [h.len]; exact hi)] at h2
    exact ReqAt.keep (fun b hb => hS b hb.1 hb.2.1 hb.2.2) (h.kid i r1 cs1 h1 h2)
   ·rw [List.getElem?_append_right hi] at h1
    rw [List.getElem?_append_right (by rw [h.len]; exact hi)] at h2
    rw [h.len] at h2
    cases hd : i - qs.length with
    | succ m => rw [hd] at h1; simp at h1
    | zero =>
     rw [hd] at h1 h2
     simp at h1 h2
     subst h1; subst h2
     exact ReqAt.keep (fun b hb => hS b (by have := hb.1; omega) hb.2 (fun e => by have := hrow b e; have := hb.1; omega)) hr
theorem ReqI.out (h : ReqI g B last p x0 x1 x2 x3 x4 x5 w0 qs css v l w) (hq : qs.length ≤ 64) : ∃ A c, v = .slice A qs.length c ∧ Row w (fun b => p < b ∧ b < w.heap.size) A 6 (ReqAt w (fun b => p < b ∧ b < w.heap.size)) qs :=
 own_row (P := ReqAt w (fun b => p < b ∧ b < w.heap.size)) (S := fun b => p < b ∧ b < w.heap.size) h.own h.len rfl (fun cs hcs => by
  obtain ⟨i, hi⟩ := List.getElem?_of_mem hcs
  have hl := (List.getElem?_eq_some_iff.1 hi).1
  rw [h.len] at hl
  exact (h.kid i qs[i] cs (List.getElem?_eq_getElem hl) hi).length) (fun k x cs h1 h2 => ReqAt.keep (fun b hb => ⟨⟨hb.1, hb.2.1⟩, fun _ => rfl⟩) (h.kid k x cs h1 h2)) (fun z hz => ⟨h.oV z hz, own_lt h.own hz⟩) (by omega)
theorem ReqI.form (h : ReqI g B last p x0 x1 x2 x3 x4 x5 w0 qs css v l w) : ∃ A c, v = .slice A qs.length c := by
 rcases h.own.2 with ⟨e, e0⟩ | ⟨z, cap, cur, e, -⟩
 ·exact ⟨_, _, by rw [e, e0]⟩
 ·exact ⟨_, _, e⟩
theorem ReqI.step_append {P : Program} {lo : Nat} {x : Sx.Req} {cs : List Value} (h : ReqI g B last p x0 x1 x2 x3 x4 x5 w0 qs css v l w) (hx : ReqAt w (fun b => lo ≤ b ∧ b < w.heap.size) x cs) (hlo : p < lo) (hrow : ∀ z, v.ownBlock = some z → z < lo) (hfew : qs.length ≤ 64)
  {ops : Array Oper} {o : Oper} {a : Act} {K : Act → World → Prop} {Q : Exit → Act → World → Prop} {E : Prop} (hgd : o.guard = none) (s y : Operand) (t : TypeId)
  (ho : o.op = .call { callee := .builtin .append, args := #[s, y], argTypes := #[t, t] }) (inf : TypeInfo) (z : Value) (ht : P.underlying t = some (.slice 108)) (hi : P.info? 108 = some inf) (hz : inf.zero = some z)
  (hsize : inf.size = 6) (hby : inf.bytes = 88) (hzs : z.cells.size = 6) (hs : a.eval s = v) (hy : a.eval y = .slice (some ⟨w.heap.size, 0, none⟩) 1 1) (h1 : ∀ u ∈ cs, u.oneCell' = true)
  (hK : ∀ gg cap w3, w3.cell? ⟨p, 6, none⟩ = some v → w3.frozen? ⟨p, 6, none⟩ = false → ReqI g B last p x0 x1 x2 x3 x4 x5 w0 (qs ++ [x]) (css ++ [cs]) (.slice (some ⟨gg, 0, none⟩) (qs.length + 1) cap) l (w3.setCell ⟨p, 6, none⟩ (.slice (some ⟨gg, 0, none⟩) (qs.length + 1) cap)) → K (a.put o.dst (.slice (some ⟨gg, 0, none⟩) (qs.length + 1) cap)) w3) :
  if Region.wanted o (yielded ops a.tmps) = true then Oper.wp P o a (w.alloc (.cells cs.toArray 108)) K Q else E := by
 have hpl := h.st.blk.lt
 refine step_append_lies _ hgd s y t ho p 108 inf z 6 88 ht hi hz hsize hby hzs (by omega) v qs.length css.flatten hs (h.own.alloc _) ⟨w.heap.size, 0, none⟩ 1 1 cs hy (by rw [hx.length]) (World.news_of_block (cs := cs.toArray) (t := 108) (fr := (0, 0)) (heap_alloc_new w _)) h1 (by omega) (by unfold maxLen; omega) (by omega) (by simp; omega) (w.heap.size + 1) (by simp) ?_
 intro gg cap w3 hown hgrow hat hlt
 have hG := h.grow hx hlo hrow ((Below.refl _ _).alloc (Nat.le_refl _) _) hgrow (hat.imp id (fun h => by omega)) hown
 exact hK gg cap w3 hG.1.1 hG.1.2 hG.2
end
end Go.Proofs.YtjonaidancomgaaGreatDoor
