/- Parts of the proof, joined into one text: SxJnM, SxJnR. -/
import Derived.Test.YtjonaidancomgaaGreatDoorZSxPrP
import Derived.Test.YtjonaidancomgaaGreatDoorZSxKids
import Derived.Deep.AppendLies
import Derived.Deep.Upon
import Derived.Test.YtjonaidancomgaaGreatDoorZSxAll

namespace Go.Proofs.YtjonaidancomgaaGreatDoor
open Go.RowKit

theorem CellsAt.app {w : World} {b o : Nat} {cs ds : List Value} (h : CellsAt w b o cs) (k : CellsAt w b (o + cs.length) ds) : CellsAt w b o (cs ++ ds) := fun j v hj => by
  by_cases hl : j < cs.length
  · rw [List.getElem?_append_left hl] at hj
    exact h j v hj
  · rw [List.getElem?_append_right (by omega)] at hj
    have := k (j - cs.length) v hj
    rw [show o + cs.length + (j - cs.length) = o + j by omega] at this
    exact this
theorem flat_from {α : Type} {w : World} {b o sz : Nat} {P : α → List Value → Prop} (hsz : ∀ x cs, P x cs → cs.length = sz) : ∀ (l : List α) (k : Nat), (∀ i x, l[i]? = some x → ∃ cs, P x cs ∧ CellsAt w b (o + (k + i) * sz) cs) →
    ∃ rs : List (List Value), rs.length = l.length ∧ (∀ (i : Nat) x cs, l[i]? = some x → rs[i]? = some cs → P x cs) ∧ CellsAt w b (o + k * sz) rs.flatten
  | [], k, _ => ⟨[], rfl, fun i x cs h => by simp at h, fun j v h => by simp at h⟩
  | x :: l, k, h => by
    obtain ⟨cs, hP, hc⟩ := h 0 x rfl
    obtain ⟨rs, h1, h2, h3⟩ := flat_from hsz l (k + 1) (fun i y hi => by
      have := h (i + 1) y (by simpa using hi)
      rwa [show k + (i + 1) = k + 1 + i by omega] at this)
    refine ⟨cs :: rs, by simp [h1], fun i y ds hi hd => ?_, ?_⟩
    · cases i with
      | zero =>
        simp at hi hd
        subst hi; subst hd
        exact hP
      | succ i => exact h2 i y ds (by simpa using hi) (by simpa using hd)
    · rw [List.flatten_cons]
      refine CellsAt.app (by simpa using hc) ?_
      rw [hsz x cs hP, show o + k * sz + sz = o + (k + 1) * sz by rw [Nat.add_mul]; omega]
      exact h3
/-- A row's cells, one behind the other. -/
theorem Row.flat {α : Type} {w : World} {S : Nat → Prop} {A : Option Addr} {sz : Nat} {P : α → List Value → Prop} {l : List α} (h : Row w S A sz P l) (hsz : ∀ x cs, P x cs → cs.length = sz) :
    ∃ rs : List (List Value), rs.length = l.length ∧ (∀ (i : Nat) x cs, l[i]? = some x → rs[i]? = some cs → P x cs) ∧ (l = [] ∨ ∃ b o, A = some ⟨b, o, none⟩ ∧ S b ∧ CellsAt w b o rs.flatten) := by
  cases l with
  | nil => exact ⟨[], rfl, fun i x cs h => by simp at h, .inl rfl⟩
  | cons x l =>
    obtain ⟨b, o, cs0, rfl, hS, _⟩ := h.at_ 0 x rfl
    obtain ⟨rs, h1, h2, h3⟩ := flat_from (w := w) (b := b) (o := o) hsz (x :: l) 0 (fun i y hi => by
      obtain ⟨b', o', cs, e, _, hP, hc⟩ := h.at_ i y hi
      injection e with e
      injection e with e1 e2
      subst e1; subst e2
      exact ⟨cs, hP, by simpa using hc⟩)
    exact ⟨rs, h1, h2, .inr ⟨b, o, rfl, hS, by simpa using h3⟩⟩
theorem flatten_len {sz : Nat} : ∀ (rs : List (List Value)), (∀ cs ∈ rs, cs.length = sz) → rs.flatten.length = rs.length * sz
  | [], _ => by simp
  | c :: rs, h => by rw [List.flatten_cons, List.length_append, flatten_len rs fun d hd => h d (by simp [hd]), h c (by simp), List.length_cons, Nat.add_mul]; omega
theorem own_slice {w : World} {base sz n : Nat} {e : TypeId} {v : Value} {xs : List Value} (h : w.ownsRow base e sz v n xs) : ∃ A c, v = .slice A n c ∧ n ≤ c := by
  rcases h.2 with ⟨rfl, h0⟩ | ⟨g, cap, cur, rfl, _, _, hc, _⟩
  · exact ⟨none, 0, by rw [h0], by omega⟩
  · exact ⟨_, cap, rfl, hc⟩
/-- One row appended to another. -/
theorem append_flat {w : World} {base : Nat} {t e : TypeId} {i : TypeInfo} {z : Value} {sz bytes n m c : Nat} {v : Value} {fx fy : List Value} {A : Option Addr} (ty : TypeId) (ht : Tryz.prog.underlying t = some (.slice e)) (hi : Tryz.prog.info? e = some i) (hz : i.zero = some z) (hsize : i.size = sz) (hby : i.bytes = bytes) (hzs : z.cells.size = sz) (hsz : 0 < sz)
    (hown : w.ownsRow base e sz v n fx) (hl : fy.length = m * sz) (hy : m = 0 ∨ ∃ b o, A = some ⟨b, o, none⟩ ∧ CellsAt w b o fy) (h1 : ∀ u ∈ fy, u.oneCell' = true) (h63 : n + m ≤ maxLen) (hbytes : (n + m) * bytes ≤ 140737488355328) (hbase : base ≤ w.heap.size) :
    ∃ A' c' w', (Builtin.append_ #[t, t] ty #[v, .slice A m c]).run Tryz.prog w = .ok (.slice A' (n + m) c') w' ∧ w'.ownsRow base e sz (.slice A' (n + m) c') (n + m) (fx ++ fy) ∧ Below base w w' := by
  rcases Nat.eq_zero_or_pos m with h0 | h0
  · subst h0
    have hfy : fy = [] := List.eq_nil_of_length_eq_zero (by simpa using hl)
    subst hfy
    obtain ⟨B, cap, rfl, hc⟩ := own_slice hown
    refine ⟨B, cap, w, run_append_nothing w t t ty e i ht hi B n cap hc _ ?_, by simpa using hown, Below.refl _ _⟩
    cases A with
    | none => exact Src.ofNil (w := w) ht c
    | some a => exact Src.ofSlice (w := w) ht a 0 c [] (by simp) (by simp) (by simp)
  · rcases hy with hy | ⟨b, o, rfl, hc⟩
    · omega
    · obtain ⟨g, cap, w', hr, h2, h3, _, _⟩ := run_append_lies (P := Tryz.prog) w t ty base e i z sz bytes ht hi hz hsize hby hzs hsz v n fx hown ⟨b, o, none⟩ m c fy hl (fun j u hj => by
        have hadd : (⟨b, o, none⟩ : Addr).add j = ⟨b, o + j, none⟩ := by unfold Addr.add; split <;> simp_all
        rw [hadd]; exact hc j u hj) h1 h0 h63 hbytes hbase _ rfl
      exact ⟨_, _, w', hr, h2, (Below.refl _ _).grown h3 hbase (fun k hk => own_ge hown hk)⟩
/-- At a step of a region that draws its order. -/
theorem step_append_ex {ops : Array Oper} {o : Oper} {a : Act} {w : World} {K : Act → World → Prop} {Q : Exit → Act → World → Prop} {E : Prop} (hgd : o.guard = none) (s x : Operand) (t : TypeId)
    (ho : o.op = .call { callee := .builtin .append, args := #[s, x], argTypes := #[t, t] }) {v u : Value} (hs : a.eval s = v) (hx : a.eval x = u) {R : Value → World → Prop} (hr : ∃ v' w', (Builtin.append_ #[t, t] o.type #[v, u]).run Tryz.prog w = .ok v' w' ∧ R v' w')
    (h : ∀ v' w', R v' w' → K (a.put o.dst v') w') : if Region.wanted o (yielded ops a.tmps) = true then Oper.wp Tryz.prog o a w K Q else E := by
  have hw : Region.wanted o (yielded ops a.tmps) = true := by simp [Region.wanted, hgd]
  rw [if_pos hw]
  obtain ⟨v', w', hr, hR⟩ := hr
  unfold Oper.wp execOp
  simp only [ho, resolve, invoke, builtin, Sem.run_bind, Sem.run_pure, Result.andThen_ok, List.map_toArray, List.map_cons, List.map_nil, hs, hx, hr]
  exact h v' w' hR
end Go.Proofs.YtjonaidancomgaaGreatDoor

namespace Go.Proofs.YtjonaidancomgaaGreatDoor
open Go.RowKit

theorem Tryz.infoCourse : (Tryz.prog.info? 58).map (fun i => (i.zero, i.size, i.bytes)) = some (some (.agg #[.string ⟨#[]⟩, .int .i64 0, .int .i64 0, .int .i64 0, .int .i64 0, .int .i64 0, .string ⟨#[]⟩, .int .i64 0, .int .i64 0, .slice none 0 0, .int .i64 0, .int .i64 0, .string ⟨#[]⟩, .int .i64 0, .int .i64 0, .slice none 0 0]), 16, 184) := by kernel_rfl
theorem Tryz.underCourse : Tryz.prog.underlying 23 = some (.slice 58) := by kernel_rfl
theorem Tryz.infoPairJ : (Tryz.prog.info? 71).map (fun i => (i.zero, i.size, i.bytes)) = some (some (.agg #[.string ⟨#[]⟩, .string ⟨#[]⟩, .int .i64 0, .int .i64 0]), 4, 48) := by kernel_rfl
theorem Tryz.underPair : Tryz.prog.underlying 24 = some (.slice 71) := by kernel_rfl
theorem Tryz.infoProg : (Tryz.prog.info? 78).map (fun i => (i.zero, i.size, i.bytes)) = some (some (.agg #[.string ⟨#[]⟩, .int .i64 0, .int .i64 0, .int .i64 0, .int .i64 0, .int .i64 0, .slice none 0 0]), 7, 80) := by kernel_rfl
theorem Tryz.underProg : Tryz.prog.underlying 25 = some (.slice 78) := by kernel_rfl
theorem Tryz.infoCls : (Tryz.prog.info? 82).map (fun i => (i.zero, i.size, i.bytes)) = some (some (.agg #[.string ⟨#[]⟩, .int .i64 0, .int .i64 0, .int .i64 0]), 4, 40) := by kernel_rfl
theorem Tryz.underCls : Tryz.prog.underlying 26 = some (.slice 82) := by kernel_rfl
theorem Tryz.infoFee : (Tryz.prog.info? 86).map (fun i => (i.zero, i.size, i.bytes)) = some (some (.agg #[.string ⟨#[]⟩, .int .i64 0]), 2, 24) := by kernel_rfl
theorem Tryz.underFee : Tryz.prog.underlying 27 = some (.slice 86) := by kernel_rfl
theorem Tryz.infoClause : (Tryz.prog.info? 90).map (fun i => (i.zero, i.size, i.bytes)) = some (some (.agg #[.int .i64 0, .int .i64 0, .int .i64 0, .int .i64 0]), 4, 32) := by kernel_rfl
theorem Tryz.underClause : Tryz.prog.underlying 28 = some (.slice 90) := by kernel_rfl
/-- Behind the appends: a row of one's own, all else as it was. -/
def JR (w : World) (e : TypeId) (sz n : Nat) (fx : List Value) (v : Value) (w' : World) : Prop := ∃ A c, v = .slice A n c ∧ w'.ownsRow w.heap.size e sz (.slice A n c) n fx ∧ Below w.heap.size w w'
theorem join_ex {w : World} {t e : TypeId} {z : Value} {sz bytes n m c d : Nat} {fx fy : List Value} {A B : Option Addr} (ty : TypeId) (ht : Tryz.prog.underlying t = some (.slice e)) (hi : (Tryz.prog.info? e).map (fun i => (i.zero, i.size, i.bytes)) = some (some z, sz, bytes)) (hzs : z.cells.size = sz) (hsz : 0 < sz) (hby : bytes ≤ 1000)
    (hl : fx.length = n * sz) (hx : n = 0 ∨ ∃ b o, A = some ⟨b, o, none⟩ ∧ b < w.heap.size ∧ CellsAt w b o fx) (h1 : ∀ u ∈ fx, u.oneCell' = true) (hl2 : fy.length = m * sz) (hy : m = 0 ∨ ∃ b o, B = some ⟨b, o, none⟩ ∧ b < w.heap.size ∧ CellsAt w b o fy) (h2 : ∀ u ∈ fy, u.oneCell' = true) (hn : n ≤ 100000) (hm : m ≤ 100000) :
    (∃ v' w', (Builtin.append_ #[t, t] ty #[.slice (some ⟨w.heap.size, 0, none⟩) 0 0, .slice A n c]).run Tryz.prog (w.alloc (.cells #[] e)).drew = .ok v' w' ∧ JR w e sz n fx v' w') ∧
    ∀ v1 w1, JR w e sz n fx v1 w1 → ∃ v' w', (Builtin.append_ #[t, t] ty #[v1, .slice B m d]).run Tryz.prog w1 = .ok v' w' ∧ JR w e sz (n + m) (fx ++ fy) v' w' := by
  obtain ⟨i, hi0, hz, hs, hb⟩ := info_parts hi
  have hbn : (n + m) * bytes ≤ 140737488355328 := Nat.le_trans (Nat.mul_le_mul_left _ hby) (by omega)
  have hbn0 : (0 + n) * bytes ≤ 140737488355328 := Nat.le_trans (Nat.mul_le_mul_left _ hby) (by omega)
  constructor
  · have hw0 : Below w.heap.size w (w.alloc (.cells #[] e)).drew := ((Below.refl _ _).alloc (Nat.le_refl _) _).drew
    have hown : (w.alloc (.cells #[] e)).drew.ownsRow w.heap.size e sz (.slice (some ⟨w.heap.size, 0, none⟩) 0 0) 0 [] := ⟨by simp, .inr ⟨w.heap.size, 0, #[], rfl, Nat.le_refl _, heap_alloc_new w _, Nat.le_refl _, by unfold maxLen; omega, by simp, by simp⟩⟩
    obtain ⟨A', c', w', hr, h3, h4⟩ := append_flat (w := (w.alloc (.cells #[] e)).drew) (base := w.heap.size) (A := A) (c := c) ty ht hi0 hz hs hb hzs hsz hown hl (hx.imp id fun ⟨b, o, h5, h6, h7⟩ => ⟨b, o, h5, h7.below' hw0 h6⟩) h1 (by unfold maxLen; omega) hbn0 (Nat.le_of_lt (by simp))
    rw [Nat.zero_add, List.nil_append] at h3
    rw [Nat.zero_add] at hr
    exact ⟨_, w', hr, A', c', rfl, h3, hw0.trans h4⟩
  · rintro v1 w1 ⟨A1, c1, rfl, h3, h4⟩
    obtain ⟨A', c', w', hr, h5, h6⟩ := append_flat (w := w1) (base := w.heap.size) (A := B) (c := d) ty ht hi0 hz hs hb hzs hsz h3 hl2 (hy.imp id fun ⟨b, o, h5, h6, h7⟩ => ⟨b, o, h5, h7.below' h4 h6⟩) h2 (by unfold maxLen; omega) hbn h4.size
    exact ⟨_, w', hr, A', c', rfl, h5, h4.trans h6⟩
/-- The whole statement: the field of the first catalogue's block holds the joined row. -/
theorem join_done {α : Type} {w w' : World} {e : TypeId} {sz pa k : Nat} {P : α → List Value → Prop} {xs ys : List α} {rs qs : List (List Value)} {v : Value} {va : Array Value} {t : TypeId} (hJ : JR w e sz (xs.length + ys.length) (rs.flatten ++ qs.flatten) v w') (hpa : Blk w pa t va)
    (h1 : rs.length = xs.length) (h2 : qs.length = ys.length) (p1 : ∀ (i : Nat) x cs, xs[i]? = some x → rs[i]? = some cs → P x cs) (p2 : ∀ (i : Nat) x cs, ys[i]? = some x → qs[i]? = some cs → P x cs) (hsz : ∀ x cs, P x cs → cs.length = sz) (hm : xs.length + ys.length ≤ 140737488351232) :
    FrG pa w (w'.setCell ⟨pa, k, none⟩ v) ∧ Blk (w'.setCell ⟨pa, k, none⟩ v) pa t (va.setIfInBounds k v) ∧ ∃ A c, v = .slice A (xs.length + ys.length) c ∧ Row (w'.setCell ⟨pa, k, none⟩ v) (fun b => b ≠ pa ∧ b < (w'.setCell ⟨pa, k, none⟩ v).heap.size) A sz P (xs ++ ys) := by
  obtain ⟨A, c, rfl, hown, hb⟩ := hJ
  have hlt := hpa.lt
  have hne : ∀ z, (Value.slice A (xs.length + ys.length) c).ownBlock = some z → z ≠ pa := fun z hz => by have := own_ge hown hz; omega
  refine ⟨(FrG.below hb hlt).trans (FrG.set _ _ _ _), (hpa.below hb hlt).set k _, A, c, rfl, ?_⟩
  have hown2 : (w'.setCell ⟨pa, k, none⟩ (.slice A (xs.length + ys.length) c)).ownsRow w.heap.size e sz (.slice A (xs.length + ys.length) c) (xs.length + ys.length) (rs ++ qs).flatten := by
    rw [List.flatten_append]
    exact own_setCell_far hown (by
      intro h
      exact hne pa h rfl) _
  have hall : ∀ cs ∈ rs ++ qs, cs.length = sz := fun cs hcs => by
    rcases List.mem_append.1 hcs with h | h
    · obtain ⟨i, hi⟩ := List.mem_iff_getElem?.1 h
      have hl := (List.getElem?_eq_some_iff.1 hi).1
      exact hsz _ cs (p1 i (xs[i]'(by omega)) cs (List.getElem?_eq_getElem _) hi)
    · obtain ⟨i, hi⟩ := List.mem_iff_getElem?.1 h
      have hl := (List.getElem?_eq_some_iff.1 hi).1
      exact hsz _ cs (p2 i (ys[i]'(by omega)) cs (List.getElem?_eq_getElem _) hi)
  obtain ⟨A', c', hv, hrow⟩ := own_row (P := P) (xs := xs ++ ys) (S := fun b => b ≠ pa ∧ b < (w'.setCell ⟨pa, k, none⟩ (.slice A (xs.length + ys.length) c)).heap.size) hown2 (by simp [h1, h2]) (by simp) hall (fun i x cs hi hc => by
    by_cases hl : i < xs.length
    · rw [List.getElem?_append_left hl] at hi
      rw [List.getElem?_append_left (by omega)] at hc
      exact p1 i x cs hi hc
    · rw [List.getElem?_append_right (by omega)] at hi
      rw [List.getElem?_append_right (by omega), h1] at hc
      exact p2 _ x cs hi hc) (fun z hz => ⟨hne z hz, own_lt hown2 hz⟩) (by simpa using hm)
  injection hv with hv _ _
  subst hv
  exact hrow
theorem one_course {w : World} {S : Nat → Prop} {x : Sx.Course} {cs : List Value} (h : CourseAt w S x cs) : cs.length = 16 ∧ ∀ u ∈ cs, u.oneCell' = true := by
  obtain ⟨_, _, _, _, _, _, _, _, _, _, _, _, _, _, _, _, _, _, _, _, rfl⟩ := form_course h
  exact ⟨rfl, by simp [Value.oneCell']⟩
theorem one_pair {x : Sx.Pair} {cs : List Value} (h : PairAt x cs) : cs.length = 4 ∧ ∀ u ∈ cs, u.oneCell' = true := by
  obtain ⟨_, _, _, _, rfl⟩ := form_pair h
  exact ⟨rfl, by simp [Value.oneCell']⟩
theorem one_prog {w : World} {S : Nat → Prop} {x : Sx.Prog} {cs : List Value} (h : ProgAt w S x cs) : cs.length = 7 ∧ ∀ u ∈ cs, u.oneCell' = true := by
  obtain ⟨_, _, _, _, _, _, _, _, _, rfl⟩ := form_prog h
  exact ⟨rfl, by simp [Value.oneCell']⟩
theorem one_cls {x : Sx.Cls} {cs : List Value} (h : ClsAt x cs) : cs.length = 4 ∧ ∀ u ∈ cs, u.oneCell' = true := by
  obtain ⟨_, _, _, _, rfl⟩ := form_cls h
  exact ⟨rfl, by simp [Value.oneCell']⟩
theorem one_fee {x : Sx.Fee} {cs : List Value} (h : FeeAt x cs) : cs.length = 2 ∧ ∀ u ∈ cs, u.oneCell' = true := by
  obtain ⟨_, _, rfl⟩ := form_fee h
  exact ⟨rfl, by simp [Value.oneCell']⟩
theorem one_clause {x : Sx.Clause} {cs : List Value} (h : ClauseAt x cs) : cs.length = 4 ∧ ∀ u ∈ cs, u.oneCell' = true := by
  obtain ⟨_, _, _, _, rfl⟩ := form_clause h
  exact ⟨rfl, by simp [Value.oneCell']⟩
/-- A row's cells at a later world. -/
theorem Row.flatG {α : Type} {W w : World} {pa sz : Nat} {A : Option Addr} {P : α → List Value → Prop} {l : List α} (h : Row W (fun b => b ≠ pa ∧ b < W.heap.size) A sz P l) (hfr : FrG pa W w) (h1 : ∀ x cs, P x cs → cs.length = sz ∧ ∀ u ∈ cs, u.oneCell' = true) :
    ∃ rs : List (List Value), rs.length = l.length ∧ (∀ (i : Nat) x cs, l[i]? = some x → rs[i]? = some cs → P x cs) ∧ rs.flatten.length = l.length * sz ∧ (∀ u ∈ rs.flatten, u.oneCell' = true) ∧ (l.length = 0 ∨ ∃ b o, A = some ⟨b, o, none⟩ ∧ b < w.heap.size ∧ CellsAt w b o rs.flatten) := by
  obtain ⟨rs, h2, h3, h4⟩ := h.flat fun x cs hx => (h1 x cs hx).1
  have hall : ∀ cs ∈ rs, cs.length = sz ∧ ∀ u ∈ cs, u.oneCell' = true := fun cs hcs => by
    obtain ⟨i, hi⟩ := List.mem_iff_getElem?.1 hcs
    have hl := (List.getElem?_eq_some_iff.1 hi).1
    exact h1 _ cs (h3 i (l[i]'(by omega)) cs (List.getElem?_eq_getElem _) hi)
  refine ⟨rs, h2, h3, by rw [flatten_len rs fun cs hcs => (hall cs hcs).1, h2], fun u hu => ?_, ?_⟩
  · obtain ⟨cs, hcs, hu⟩ := List.mem_flatten.1 hu
    exact (hall cs hcs).2 u hu
  · rcases h4 with h4 | ⟨b, o, h5, ⟨h6, h7⟩, h8⟩
    · exact .inl (by rw [h4]; rfl)
    · exact .inr ⟨b, o, h5, Nat.lt_of_lt_of_le h7 hfr.bel.size, fun j v hj => (hfr.cell h7 h6 _).trans (h8 j v hj)⟩
end Go.Proofs.YtjonaidancomgaaGreatDoor
