/- Parts of the proof, joined into one text: QyStartB, QyCheckP, QyPut. -/
import Derived.Test.YtjonaidancomgaaDoorZQyPI
import Derived.Deep.AppendLies
import Derived.Deep.RegionWith
import Derived.StillTailTactics

namespace Go.Proofs.YtjonaidancomgaaDoor
open Go.RowKit Go.Maps Go.WideMaps

theorem own_base {w : World} {b b' sz n : Nat} {e : TypeId} {v : Value} {ys : List Value} (h : w.ownsRow b e sz v n ys) (hb : b' ≤ b) : w.ownsRow b' e sz v n ys := by
  refine ⟨h.1, ?_⟩
  rcases h.2 with h2 | ⟨g, cap, cur, hv, hg, r⟩
  · exact .inl h2
  · exact .inr ⟨g, cap, cur, hv, Nat.le_trans hb hg, r⟩
theorem loopStart_own {w6 : World} {N base n sz : Nat} {e : TypeId} {v vS vA vT : Value} {ys : List Value} (h : w6.ownsRow base e sz v n ys) (hne : v.ownBlock ≠ some N) : (loopStart w6 N vS vA vT).ownsRow base e sz v n ys :=
  ((((own_setCell_far (p := ⟨N, 3, none⟩) (own_setCell_far (p := ⟨N, 2, none⟩) (own_setCell_far (p := ⟨N, 1, none⟩) (own_setCell_far (p := ⟨N, 0, none⟩) h hne _) hne _) hne _) hne _).alloc _).alloc _).alloc _)
theorem loopStart_cell {w6 : World} {N : Nat} {vS vA vT : Value} {b o : Nat} (hlt : b < w6.heap.size) (hne : b ≠ N) : (loopStart w6 N vS vA vT).cell? ⟨b, o, none⟩ = w6.cell? ⟨b, o, none⟩ := by
  refine World.cell?_of_block (a := ⟨b, o, none⟩) ?_
  show (loopStart w6 N vS vA vT).heap[b]? = w6.heap[b]?
  unfold loopStart
  rw [Below.heap_alloc _ _ _ (by simp; omega), Below.heap_alloc _ _ _ (by simp; omega), Below.heap_alloc _ _ _ (by simp; omega), Below.heap_setCell _ _ _ _ hne, Below.heap_setCell _ _ _ _ hne, Below.heap_setCell _ _ _ _ hne, Below.heap_setCell _ _ _ _ hne]

/-- The cells of the variables hold their numbers. -/
theorem Qy.var_cells {W : World} {B : Nat} {A1 A2 A3 : Option Addr} {shown : List Int} {atoms : List Qy.Atom} {tests : List Qy.Test} (hS : Lies W B A1 1 (shown.map intC)) (hA : Lies W B A2 9 (atoms.map atomC)) (hT : Lies W B A3 5 (tests.map testC)) :
    (Qy.varsAt A1 A2 A3 shown.length atoms.length tests.length (Qy.allArgs atoms tests)).length = (Qy.allVars shown (Qy.allArgs atoms tests)).length ∧
    ∀ (k : Nat) (a : Addr) (v : Int), (Qy.varsAt A1 A2 A3 shown.length atoms.length tests.length (Qy.allArgs atoms tests))[k]? = some a → (Qy.allVars shown (Qy.allArgs atoms tests))[k]? = some v → ∃ b o, a = ⟨b, o, none⟩ ∧ b < B ∧ W.cell? ⟨b, o, none⟩ = some (.int .i64 v) := by
  have h1 : 0 < shown.length → ∃ b o, A1 = some ⟨b, o, none⟩ := fun h => by
    obtain ⟨b, o, e, _⟩ := hS.at_ 0 _ (by rw [List.getElem?_map, List.getElem?_eq_getElem h]; rfl)
    exact ⟨b, o, e⟩
  have h2 : 0 < atoms.length → ∃ b o, A2 = some ⟨b, o, none⟩ := fun h => by
    obtain ⟨b, o, e, _⟩ := hA.at_ 0 _ (by rw [List.getElem?_map, List.getElem?_eq_getElem h]; rfl)
    exact ⟨b, o, e⟩
  have h3 : 0 < tests.length → ∃ b o, A3 = some ⟨b, o, none⟩ := fun h => by
    obtain ⟨b, o, e, _⟩ := hT.at_ 0 _ (by rw [List.getElem?_map, List.getElem?_eq_getElem h]; rfl)
    exact ⟨b, o, e⟩
  have l1 : ((List.range shown.length).flatMap (Qy.inShow A1)).length = 1 * shown.length := flat_len_eq 1 _ _ (fun k hk => by obtain ⟨b, o, e⟩ := h1 (by omega); rw [e]; rfl)
  obtain ⟨hs1, hs2⟩ := Qy.sel_vars (Qy.argsAt A2 A3 atoms.length tests.length) (Qy.allArgs atoms tests) (Qy.args_len_eq h2 h3)
  unfold Qy.varsAt Qy.allVars
  refine ⟨by rw [List.length_append, List.length_append, l1, hs1]; omega, fun k a v ha hv => ?_⟩
  by_cases hk : k < shown.length
  · rw [List.getElem?_append_left (by omega)] at ha hv
    obtain ⟨j, r, x, hx, hf, hg⟩ := pair_flat 1 (Qy.inShow A1) (fun (n : Int) => [n]) shown (fun k hk => by obtain ⟨b, o, e⟩ := h1 (by omega); rw [e]; rfl) (fun _ => rfl) k a v ha (by rw [show shown.flatMap (fun n => [n]) = shown by simp]; exact hv)
    obtain ⟨b, o, e, hb, hc⟩ := hS.at_ j (intC x) (by rw [List.getElem?_map, hx]; rfl)
    rw [e] at hf
    match r, hf, hg with
    | 0, hf, hg =>
      simp [Qy.inShow] at hf; simp at hg; subst hf; subst hg
      refine ⟨b, o + j, rfl, hb, ?_⟩
      have := hc 0 _ rfl
      rwa [Nat.mul_one, Nat.add_zero] at this
    | r + 1, hf, hg => simp [Qy.inShow] at hf
  · rw [List.getElem?_append_right (by omega)] at ha hv
    rw [l1, Nat.one_mul] at ha
    obtain ⟨i, q, y, e1, e2, _, e4, e5⟩ := hs2 _ a v ha hv
    obtain ⟨b, o, e6, hb, _, hc⟩ := Qy.arg_cells hA hT i q y e1 e2
    subst e6
    exact ⟨b, o + 1, e4, hb, by rw [e5]; exact hc⟩

section
variable {w w6 : World} {G : Nat} {names : List (List UInt8)} {shown : List Int} {atoms : List Qy.Atom} {tests : List Qy.Test} {v0 v1 v2 v4 vN : Value} {AS AA AT : Option Addr} {cS cA cT : Nat}
def rbOf (AS AA AT : Option Addr) : List Nat := blkOf AS ++ blkOf AA ++ blkOf AT
theorem rb_mem {b : Nat} (h : b ∈ rbOf AS AA AT) : (∃ a, AS = some a ∧ a.block = b) ∨ (∃ a, AA = some a ∧ a.block = b) ∨ (∃ a, AT = some a ∧ a.block = b) := by
  unfold rbOf blkOf at h
  simp only [List.mem_append] at h
  rcases h with (h | h) | h
  · cases AS with
    | none => simp at h
    | some a => simp at h; exact .inl ⟨a, rfl, h.symm⟩
  · cases AA with
    | none => simp at h
    | some a => simp at h; exact .inr (.inl ⟨a, rfl, h.symm⟩)
  · cases AT with
    | none => simp at h
    | some a => simp at h; exact .inr (.inr ⟨a, rfl, h.symm⟩)
theorem vars_rb {n1 n2 n3 : Nat} {gs : List Qy.Arg} {a : Addr} (h : a ∈ Qy.varsAt AS AA AT n1 n2 n3 gs) : a.block ∈ rbOf AS AA AT ∧ a = ⟨a.block, a.off, none⟩ := by
  unfold rbOf blkOf
  rcases Qy.vars_mem h with h | h | h
  · obtain ⟨x, e1, e2, e3, _⟩ := (Qy.s1_ok AS n1).2 a h
    exact ⟨by rw [e1]; simp [e2], e3⟩
  · obtain ⟨x, e1, e2, e3, _⟩ := (Qy.s2_ok AA n2).2 a h
    exact ⟨by rw [e1]; simp [e2], e3⟩
  · obtain ⟨x, e1, e2, e3, _⟩ := (Qy.s3_ok AT n3).2 a h
    exact ⟨by rw [e1]; simp [e2], e3⟩
theorem rows_rb (ho : POwn G names shown atoms tests vN (.slice AS shown.length cS) (.slice AA atoms.length cA) (.slice AT tests.length cT) w6) {b : Nat} (h : b ∈ rbOf AS AA AT) :
    (∃ t cs, Blk w6 b t cs ∧ (t = 3 ∨ t = 43 ∨ t = 45)) ∧ G ≤ b ∧ b < w6.heap.size := by
  rcases rb_mem h with ⟨a, e, rfl⟩ | ⟨a, e, rfl⟩ | ⟨a, e, rfl⟩
  · obtain ⟨⟨cs, h1⟩, _, h2, h3⟩ := own_addr ho.s e
    exact ⟨⟨_, cs, h1, .inl rfl⟩, h2, h3⟩
  · obtain ⟨⟨cs, h1⟩, _, h2, h3⟩ := own_addr ho.a e
    exact ⟨⟨_, cs, h1, .inr (.inl rfl)⟩, h2, h3⟩
  · obtain ⟨⟨cs, h1⟩, _, h2, h3⟩ := own_addr ho.t e
    exact ⟨⟨_, cs, h1, .inr (.inr rfl)⟩, h2, h3⟩

theorem loop_fix (hN3 : w.heap.size + 3 ≤ G) (hG6 : G + 2 ≤ w6.heap.size) (ho : POwn G names shown atoms tests vN (.slice AS shown.length cS) (.slice AA atoms.length cA) (.slice AT tests.length cT) w6) :
    PFix w.heap.size G (G + 1) (w6.heap.size + 1) w6.heap.size w (loopStart w6 w.heap.size (.slice AS shown.length cS) (.slice AA atoms.length cA) (.slice AT tests.length cT)) #[v0, v1, v2, vN, v4, .slice AS shown.length cS, .slice AA atoms.length cA, .slice AT tests.length cT] vN
      (Qy.varsAt AS AA AT shown.length atoms.length tests.length (Qy.allArgs atoms tests)) (rbOf AS AA AT) := by
  have hsz := loopStart_size w6 w.heap.size (.slice AS shown.length cS) (.slice AA atoms.length cA) (.slice AT tests.length cT)
  refine ⟨fun a h => (vars_rb h).1, fun a h => (vars_rb h).2, Qy.vars_nodup (own_apart3 ho) _ _ _ _, fun b hb => ?_, ⟨by omega, by omega, by omega, by omega, by omega, by omega⟩, rfl, fun b hb => ?_, by omega, Nat.le_refl _⟩
  · obtain ⟨_, h1, h2⟩ := rows_rb ho hb
    exact ⟨by omega, by omega, by omega⟩
  · have := (World.ownsRow.lt ho.n b hb).2
    omega
theorem loop_starts (hN3 : w.heap.size + 3 ≤ G) (_hG6 : G + 2 ≤ w6.heap.size) (ho : POwn G names shown atoms tests vN (.slice AS shown.length cS) (.slice AA atoms.length cA) (.slice AT tests.length cT) w6)
    {x0 x1 x2 x3 : Value} (E0 : Blk w6 w.heap.size 27 #[x0, x1, x2, x3]) (E1 : Blk w6 (w.heap.size + 1) 3 #[.int .i64 0]) (E2 : Blk w6 (w.heap.size + 1 + 1) 31 #[.int .i64 0])
    (hbox : Blk w6 (G + 1) 71 #[.pointer (some ⟨G, 0, none⟩)]) (hpar : Blk w6 G 73 #[v0, v1, v2, vN, v4, .slice AS shown.length cS, .slice AA atoms.length cA, .slice AT tests.length cT]) (hbel : Below w.heap.size w w6)
    (hS : Lies w6 w6.heap.size AS 1 (shown.map intC)) (hA : Lies w6 w6.heap.size AA 9 (atoms.map atomC)) (hT : Lies w6 w6.heap.size AT 5 (tests.map testC)) :
    PIx w.heap.size G (G + 1) (w6.heap.size + 1) w6.heap.size w (loopStart w6 w.heap.size (.slice AS shown.length cS) (.slice AA atoms.length cA) (.slice AT tests.length cT)) #[v0, v1, v2, vN, v4, .slice AS shown.length cS, .slice AA atoms.length cA, .slice AT tests.length cT] vN (.slice AS shown.length cS) (.slice AA atoms.length cA) (.slice AT tests.length cT) names
      (Qy.varsAt AS AA AT shown.length atoms.length tests.length (Qy.allArgs atoms tests)) (rbOf AS AA AT) [] (Qy.allVars shown (Qy.allArgs atoms tests)) (loopStart w6 w.heap.size (.slice AS shown.length cS) (.slice AA atoms.length cA) (.slice AT tests.length cT)) := by
  have hrows : ∀ b ∈ rbOf AS AA AT, b ≠ w.heap.size := fun b hb => by have := (rows_rb ho hb).2.1; omega
  refine ⟨loopStart_below hbel (Nat.le_refl _), ⟨.slice none 0 0, loopStart_q E0, ⟨rfl, .inl ⟨rfl, rfl⟩⟩⟩, loopStart_far E1 (by omega), loopStart_far E2 (by omega), loopStart_far hbox (by omega), loopStart_far hpar (by omega), ?_, ?_, loopStart_own (own_base ho.n (by omega)) (own_ne ho.n E0 (by decide)), ?_, ?_, fun a _ _ => rfl⟩
  · unfold loopStart
    exact (Blk.new_at _ _ (by simp)).alloc _
  · obtain ⟨es, clock, hb, F, hs, hD⟩ := World.ownsMap_made (H := Unit) ((((w6.setCell ⟨w.heap.size, 0, none⟩ (.slice none 0 0)).setCell ⟨w.heap.size, 1, none⟩ (.slice AS shown.length cS)).setCell ⟨w.heap.size, 2, none⟩ (.slice AA atoms.length cA)).setCell ⟨w.heap.size, 3, none⟩ (.slice AT tests.length cT)) Tryd.prog 3 (plainElem Tryd.prog 3)
    refine ⟨es, clock, ?_, F, hs, hD⟩
    unfold loopStart
    rw [Below.heap_alloc _ _ _ (by simp; omega), Below.heap_alloc _ _ _ (by simp)]
    simpa using hb
  · intro b hb
    obtain ⟨⟨t, cs, h1, h2⟩, _, _⟩ := rows_rb ho hb
    exact ⟨t, cs, loopStart_far h1 (hrows b hb), h2⟩
  · intro k a v ha hv
    obtain ⟨b, o, rfl, hlt, hc⟩ := (Qy.var_cells hS hA hT).2 k a v ha hv
    rw [loopStart_cell hlt (hrows b (vars_rb (List.mem_of_getElem? ha)).1)]
    exact hc
theorem loop_pre (hN3 : w.heap.size + 3 ≤ G) (hG6 : G + 2 ≤ w6.heap.size) (ho : POwn G names shown atoms tests vN (.slice AS shown.length cS) (.slice AA atoms.length cA) (.slice AT tests.length cT) w6)
    {x0 x1 x2 x3 : Value} (E0 : Blk w6 w.heap.size 27 #[x0, x1, x2, x3]) (hA : Lies w6 w6.heap.size AA 9 (atoms.map atomC)) (hT : Lies w6 w6.heap.size AT 5 (tests.map testC)) {Y : World}
    (hY : Below (loopStart w6 w.heap.size (.slice AS shown.length cS) (.slice AA atoms.length cA) (.slice AT tests.length cT)).heap.size (loopStart w6 w.heap.size (.slice AS shown.length cS) (.slice AA atoms.length cA) (.slice AT tests.length cT)) Y) :
    VarsPre (w6.heap.size + 1 + 1) w.heap.size shown.length atoms.length tests.length cS cA cT AS AA AT (Qy.allArgs atoms tests) Y := by
  have hsz := loopStart_size w6 w.heap.size (.slice AS shown.length cS) (.slice AA atoms.length cA) (.slice AT tests.length cT)
  have hq := (loopStart_q (vS := .slice AS shown.length cS) (vA := .slice AA atoms.length cA) (vT := .slice AT tests.length cT) E0).below hY (by omega)
  have h2 : 0 < atoms.length → ∃ b o, AA = some ⟨b, o, none⟩ := fun h => by
    obtain ⟨b, o, e, _⟩ := hA.at_ 0 _ (by rw [List.getElem?_map, List.getElem?_eq_getElem h]; rfl)
    exact ⟨b, o, e⟩
  have h3 : 0 < tests.length → ∃ b o, AT = some ⟨b, o, none⟩ := fun h => by
    obtain ⟨b, o, e, _⟩ := hT.at_ 0 _ (by rw [List.getElem?_map, List.getElem?_eq_getElem h]; rfl)
    exact ⟨b, o, e⟩
  refine ⟨?_, by rw [hq.cell 1]; rfl, by rw [hq.cell 2]; rfl, by rw [hq.cell 3]; rfl, by have := hY.size; omega, Qy.args_len_eq h2 h3, fun i a x ha hx => ?_⟩
  · refine Blk.below (w := loopStart w6 w.heap.size (.slice AS shown.length cS) (.slice AA atoms.length cA) (.slice AT tests.length cT)) ?_ hY (by omega)
    unfold loopStart
    exact Blk.new_at _ _ (by simp)
  · obtain ⟨b, o, rfl, hlt, hc, _⟩ := Qy.arg_cells hA hT i a x ha hx
    have hmem := List.mem_of_getElem? ha
    have hbN : b ≠ w.heap.size := by
      have hg : ∀ z : Addr, (AA = some z ∨ AT = some z) → G ≤ z.block := fun z hz => by
        rcases hz with e | e
        · exact (own_addr ho.a e).2.2.1
        · exact (own_addr ho.t e).2.2.1
      have hb : G ≤ b := by
        unfold Qy.argsAt at hmem
        rcases List.mem_append.1 hmem with hm | hm
        · obtain ⟨k, _, hk⟩ := List.mem_flatMap.1 hm
          cases hAA : AA with
          | none => rw [hAA] at hk; simp [Qy.inAtom] at hk
          | some z =>
            have := hg z (.inl hAA)
            rw [hAA] at hk
            simp [Qy.inAtom] at hk
            rcases hk with ⟨rfl, _⟩ | ⟨rfl, _⟩ | ⟨rfl, _⟩ <;> exact this
        · obtain ⟨k, _, hk⟩ := List.mem_flatMap.1 hm
          cases hAA : AT with
          | none => rw [hAA] at hk; simp [Qy.inTest] at hk
          | some z =>
            have := hg z (.inr hAA)
            rw [hAA] at hk
            simp [Qy.inTest] at hk
            rcases hk with ⟨rfl, _⟩ | ⟨rfl, _⟩ <;> exact this
      omega
    have hs := hY.size
    exact ⟨b, o, rfl, by omega, (hY.cell (p := ⟨b, o, none⟩) (show b < _ by omega)).trans ((loopStart_cell hlt hbN).trans hc)⟩
end
end Go.Proofs.YtjonaidancomgaaDoor

namespace Go.Proofs.YtjonaidancomgaaDoor
open Go.RowKit Go.Maps Go.WideMaps

namespace Qy
theorem nodup_idx {α : Type} [BEq α] [LawfulBEq α] {l : List α} (h : l.Nodup) {i : Nat} {x : α} (hx : l[i]? = some x) : l.findIdx? (· == x) = some i :=
  idx_some hx (fun j hj y hy => by
    cases hq : y == x with
    | false => rfl
    | true =>
      have e : y = x := by simpa using hq
      subst e
      have := (List.getElem?_inj (List.getElem?_eq_some_iff.1 hy).1 h).1 (hy.trans hx.symm)
      omega)
theorem nodup_of_idx {α : Type} [BEq α] [LawfulBEq α] {l : List α} (h : ∀ (i : Nat) (x : α), l[i]? = some x → l.findIdx? (· == x) = some i) : l.Nodup :=
  List.pairwise_iff_getElem.2 (fun i j hi hj hij e => by
    have h1 := h i _ (List.getElem?_eq_getElem hi)
    have h2 := h j _ (List.getElem?_eq_getElem hj)
    rw [e, h2] at h1
    injection h1 with h1
    omega)
theorem idx_ne {α : Type} [BEq α] [LawfulBEq α] {l : List α} {i : Nat} {x : α} (h : (idx l x != (i : Int)) = false) : l.findIdx? (· == x) = some i := by
  have e : idx l x = (i : Int) := by simpa using h
  unfold idx at e
  cases hf : l.findIdx? (· == x) with
  | some j =>
    rw [hf] at e
    simp only at e
    rw [show j = i by omega]
  | none =>
    rw [hf] at e
    simp only at e
    omega
theorem idx_bad {α : Type} [BEq α] [LawfulBEq α] {l : List α} {i : Nat} {x : α} (hx : l[i]? = some x) (h : (idx l x != (i : Int)) = true) : ¬ l.Nodup := fun hn => by
  unfold idx at h
  rw [nodup_idx hn hx] at h
  simp at h
def KindsOk (x : Atom) : Prop := (1 ≤ x.kind ∧ x.kind ≤ 12) ∧ (0 ≤ x.term ∧ x.term ≤ 1023) ∧ (0 ≤ x.known ∧ x.known ≤ 16777216)
def NumOk (a : Arg) : Prop := a.var = false → 0 ≤ a.n ∧ a.n ≤ 1099511627776
/-- What a query's validity says. -/
structure Valid (q : Query) : Prop where
  n8 : q.names.length ≤ 8
  sh : 1 ≤ q.shown.length ∧ q.shown.length ≤ 8
  cs : 1 ≤ q.atoms.length + q.tests.length ∧ q.atoms.length + q.tests.length ≤ 16
  names : ∀ t ∈ q.names, Lx.isName t = true ∧ kindOf t = 0
  nodup : q.names.Nodup
  shown : q.shown.Nodup
  atoms : ∀ x ∈ q.atoms, KindsOk x
  tests : ∀ x ∈ q.tests, -2 ≤ x.op ∧ x.op ≤ 1
  args : ∀ a ∈ allArgs q.atoms q.tests, NumOk a
  order : order q.names.length 0 (allVars q.shown (allArgs q.atoms q.tests)) = some (q.names.length : Int)
theorem args_eq (q : Query) : q.args = allArgs q.atoms q.tests := rfl
theorem valid_iff (q : Query) : valid q = true ↔ Valid q := by
  have e : q.vars = allVars q.shown (allArgs q.atoms q.tests) := rfl
  unfold valid
  rw [args_eq, e]
  simp only [Bool.and_eq_true, decide_eq_true_eq, List.all_eq_true, beq_iff_eq, Bool.or_eq_true]
  constructor
  · rintro ⟨⟨⟨⟨⟨⟨⟨⟨⟨⟨⟨h1, h2⟩, h3⟩, h4⟩, h5⟩, h6⟩, h7⟩, h8⟩, h9⟩, h10⟩, h11⟩, h12⟩
    exact ⟨h1, ⟨h2, h3⟩, ⟨h4, h5⟩, h6, h7, h8, fun x hx => by
      obtain ⟨⟨⟨⟨⟨a, b⟩, c⟩, d⟩, e⟩, f⟩ := h9 x hx
      exact ⟨⟨a, b⟩, ⟨c, d⟩, ⟨e, f⟩⟩, h10, fun a ha hv => by
      rcases h11 a ha with h | h
      · rw [hv] at h; cases h
      · exact h, h12⟩
  · rintro ⟨h1, ⟨h2, h3⟩, ⟨h4, h5⟩, h6, h7, h8, h9, h10, h11, h12⟩
    exact ⟨⟨⟨⟨⟨⟨⟨⟨⟨⟨⟨h1, h2⟩, h3⟩, h4⟩, h5⟩, h6⟩, h7⟩, h8⟩, fun x hx => by
      obtain ⟨⟨a, b⟩, ⟨c, d⟩, ⟨e, f⟩⟩ := h9 x hx
      exact ⟨⟨⟨⟨⟨a, b⟩, c⟩, d⟩, e⟩, f⟩⟩, h10⟩, fun a ha => by
      cases hv : a.var
      · exact .inr (h11 a ha hv)
      · exact .inl rfl⟩, h12⟩
theorem not_valid {q : Query} (h : Valid q → False) : valid q = false := by
  cases hv : valid q with
  | false => rfl
  | true => exact (h ((valid_iff q).1 hv)).elim
/-- One more variable. -/
def ordStep (top : Int) (next n : Int) : Option Int := if n < 0 ∨ next < n ∨ top ≤ n then none else some (if n = next then next + 1 else next)
theorem order_app (top : Int) : ∀ (a : List Int) (k : Int) (b : List Int), Qy.order top k (a ++ b) = (Qy.order top k a).bind fun nx => Qy.order top nx b
  | [], k, b => rfl
  | n :: r, k, b => by
    show (if n < 0 ∨ k < n ∨ top ≤ n then none else Qy.order top (if n = k then k + 1 else k) (r ++ b)) = (if n < 0 ∨ k < n ∨ top ≤ n then none else Qy.order top (if n = k then k + 1 else k) r).bind fun nx => Qy.order top nx b
    split
    · rfl
    · exact order_app top r _ b
theorem order_snoc (top : Int) (a : List Int) (k n nx : Int) (h : Qy.order top k a = some nx) : Qy.order top k (a ++ [n]) = ordStep top nx n := by
  rw [order_app, h]
  show (if n < 0 ∨ nx < n ∨ top ≤ n then none else Qy.order top (if n = nx then nx + 1 else nx) []) = ordStep top nx n
  unfold ordStep
  split <;> rfl
theorem order_bad (top : Int) {l : List Int} {j : Nat} {n nx k : Int} (hn : l[j]? = some n) (h : Qy.order top k (l.take j) = some nx) (hb : ordStep top nx n = none) : Qy.order top k l = none := by
  have e : l = (l.take j ++ [n]) ++ l.drop (j + 1) := by
    rw [← (by rw [List.take_add_one, hn]; rfl : l.take (j + 1) = l.take j ++ [n]), List.take_append_drop]
  rw [e, order_app, order_snoc top _ k n nx h, hb]
  rfl
theorem order_next (top : Int) {l : List Int} {j : Nat} {n nx k m : Int} (hn : l[j]? = some n) (h : Qy.order top k (l.take j) = some nx) (hb : ordStep top nx n = some m) : Qy.order top k (l.take (j + 1)) = some m := by
  rw [List.take_add_one, hn]
  exact (order_snoc top _ k n nx h).trans hb
/-- The next variable's number stays small. -/
theorem order_le (top : Int) : ∀ (l : List Int) (k m : Int), 0 ≤ k → k ≤ top → Qy.order top k l = some m → 0 ≤ m ∧ m ≤ top
  | [], k, m, h0, h1, h => by injection h with h; omega
  | n :: r, k, m, h0, h1, h => by
    have h' : (if n < 0 ∨ k < n ∨ top ≤ n then none else Qy.order top (if n = k then k + 1 else k) r) = some m := h
    split at h'
    · cases h'
    · exact order_le top r _ m (by split <;> omega) (by split <;> omega) h'
end Qy
theorem lInT (n a b : Int) (w : World) (h : a ≤ n ∧ n ≤ b) : Calls Tryd.prog 13 #[.int .i64 n, .int .i64 a, .int .i64 b] w fun e w' => e = .returned (.bool true) ∧ w = w' :=
  (lIn n a b w).mono fun _ _ h1 => ⟨by rw [h1.1]; simp [h.1, h.2], h1.2⟩
theorem lInF (n a b : Int) (w : World) (h : ¬ (a ≤ n ∧ n ≤ b)) : Calls Tryd.prog 13 #[.int .i64 n, .int .i64 a, .int .i64 b] w fun e w' => e = .returned (.bool false) ∧ w = w' :=
  (lIn n a b w).mono fun _ _ h1 => ⟨by rw [h1.1]; simp only [Ending.returned.injEq, Value.bool.injEq, Bool.and_eq_false_iff, decide_eq_false_iff_not]; omega, h1.2⟩

set_option maxHeartbeats 1000000 in
theorem lIndexInt (A : Option Addr) (B c : Nat) (l : List Int) (x : Int) (w : World) (h : Lies w B A 1 (l.map intC)) :
    Calls Tryd.prog 18 #[.slice A l.length c, .int .i64 x] w fun e w' => e = .returned (.int .i64 (Qy.idx l x)) ∧ w = w' := by
  have hl := h.len
  rw [List.length_map] at hl
  obtain ⟨n, hn⟩ : ∃ n, n = l.length := ⟨_, rfl⟩
  rw [← hn] at hl ⊢
  have Hn := Lib.hid hn
  clear hn
  go_enter Tryd.func18, Tryd.ntmps18
  go_wp2
  go_loopw [8] (fun v8 wr => ∃ k : Nat, k ≤ n ∧ v8 = .int .i64 k ∧ Hid (∀ j, j < k → ∀ y, l[j]? = some y → (y == x) = false) ∧ w = wr) (fun v8 _ => n - (intOf v8).toNat)
  case atStart => exact ⟨0, by omega, rfl, Lib.hid (fun j hj => absurd hj (Nat.not_lt_zero j)), rfl⟩
  case round =>
    obtain ⟨k, hk, rfl, hno, rfl⟩ := hrel
    by_cases hlt : k < n
    · obtain ⟨y, hy⟩ : ∃ y, l[k]? = some y := ⟨_, List.getElem?_eq_getElem (by have := Hn.out; omega)⟩
      obtain ⟨b, o, rfl, hb, hc⟩ := h.at_ k (intC y) (by rw [List.getElem?_map, hy]; rfl)
      have hc1 := hc 0 _ rfl
      rw [Nat.mul_one, Nat.add_zero] at hc1
      have Hy := Lib.hid hy
      clear hc hy h
      have hsw : (x == y) = (y == x) := Bool.eq_iff_iff.2 (by rw [beq_iff_eq, beq_iff_eq]; exact eq_comm)
      cases hq : y == x
      · rw [hq] at hsw
        have Hq := Lib.hid hq
        clear hq
        go_wp2
        go_roundw
        case rel => exact ⟨k + 1, by omega, by go_num, Lib.hid (fun j hj z hz => by
          rcases Nat.lt_or_ge j k with h1 | h1
          · exact hno.out j h1 z hz
          · obtain rfl : j = k := by omega
            rw [Hy.out] at hz; injection hz with hz; rw [← hz]; exact Hq.out), trivial⟩
        case measure => simp [intOf]; omega
      · rw [hq] at hsw
        have Hq := Lib.hid hq
        clear hq
        go_wp2
        go_ret
        refine ⟨ret_int ?_, rfl⟩
        have hyx : y = x := by simpa using Hq.out
        unfold Qy.idx
        rw [Qy.idx_some (k := k) (by rw [Hy.out, hyx]) hno.out]
    · obtain rfl : k = n := by omega
      clear h
      go_wp2
      go_ret
      refine ⟨ret_int ?_, rfl⟩
      unfold Qy.idx
      rw [Qy.idx_none (fun j y hy => hno.out j (by have := (List.getElem?_eq_some_iff.1 hy).1; have := Hn.out; omega) y hy)]

end Go.Proofs.YtjonaidancomgaaDoor

namespace Go.Proofs.YtjonaidancomgaaDoor
open Go.RowKit Go.Maps Go.WideMaps

/-- What put is handed: a name, a sign, a number, an argument. -/
inductive Item where
  | name (t : List UInt8)
  | sign (t : List UInt8)
  | num (n : Int)
  | arg (a : Qy.Arg)
def Item.val : Item → Value
  | .name t => .iface 9 (.string (Lx.bs t))
  | .sign t => .iface 80 (.string (Lx.bs t))
  | .num n => .iface 3 (.int .i64 n)
  | .arg a => .iface 40 (.agg #[.bool a.var, .int .i64 a.n])
def Item.tok (ns : List (List UInt8)) : Item → Lx.Tok
  | .name t => ⟨1, t, 0, 0⟩
  | .sign t => ⟨3, t, 0, 0⟩
  | .num n => ⟨2, [], n, 0⟩
  | .arg a => Qy.argT ns a
def Item.ok (ns : List (List UInt8)) : Item → Prop
  | .arg a => a.var = true → 0 ≤ a.n ∧ a.n < ns.length
  | _ => True
def Item.flat : Item → Prop
  | .arg _ => False
  | _ => True

/-- The printer's struct in block g: the names, and the tokens so far. -/
structure PrSt (g B : Nat) (ns : List (List UInt8)) (l : List Lx.Tok) (w : World) : Prop where
  blk : ∃ AN cN vT, Blk w g 78 #[.slice AN ns.length cN, vT] ∧ Lies w B AN 1 (ns.map strC) ∧ w.ownsRow g 110 4 vT l.length (l.flatMap Lx.Tok.cells)
  le : B ≤ g
/-- All blocks but those of tokens and the printer's are as they were. -/
structure KP (w w' : World) : Prop where
  size : w.heap.size ≤ w'.heap.size
  keep : ∀ (k : Nat) (o : Obj), w.heap[k]? = some o → (∀ cs t fr, o = .cells cs t fr → t ≠ 110 ∧ t ≠ 78) → w'.heap[k]? = some o
theorem KP.refl (w : World) : KP w w := ⟨Nat.le_refl _, fun _ _ h _ => h⟩
theorem KP.trans {a b c : World} (h : KP a b) (k : KP b c) : KP a c := ⟨Nat.le_trans h.size k.size, fun i o hi ho => k.keep i o (h.keep i o hi ho) ho⟩
theorem KP.below {w w' : World} (h : Below w.heap.size w w') : KP w w' := ⟨h.size, fun k _ hk _ => (h.block k (Array.getElem?_eq_some_iff.1 hk).1).trans hk⟩
theorem KP.blk {w w' : World} (h : KP w w') {b : Nat} {t : TypeId} {cs : Array Value} (hb : Blk w b t cs) (h1 : t ≠ 110) (h2 : t ≠ 78) : Blk w' b t cs :=
  h.keep b _ hb (fun _ _ _ e => by injection e with _ e _; subst e; exact ⟨h1, h2⟩)
theorem KP.drewN {w w' : World} (h : KP w w') (n : Nat) : KP w (w'.drewN n) := ⟨h.size, h.keep⟩
theorem KP.set {w w' : World} (h : KP w w') {b i : Nat} (hb : w.heap.size ≤ b) (u : Value) : KP w (w'.setCell ⟨b, i, none⟩ u) :=
  ⟨by simpa [World.setCell] using h.size, fun k o hk ho => (Below.heap_setCell w' ⟨b, i, none⟩ u k (fun e => by have := (Array.getElem?_eq_some_iff.1 hk).1; have e : k = b := e; omega)).trans (h.keep k o hk ho)⟩
theorem PrSt.next {g B : Nat} {ns : List (List UInt8)} {l : List Lx.Tok} {w w' : World} (h : PrSt g B ns l w) (hb : Below w.heap.size w w') : PrSt g B ns l w' := by
  obtain ⟨⟨AN, cN, vT, h1, h2, h3⟩, hle⟩ := h
  exact ⟨⟨AN, cN, vT, h1.below hb h1.lt, h2.below hb (by have := h1.lt; omega), own_below h3 hb⟩, hle⟩
theorem PrSt.lt {g B : Nat} {ns : List (List UInt8)} {l : List Lx.Tok} {w : World} (h : PrSt g B ns l w) : g < w.heap.size := by
  obtain ⟨⟨AN, cN, vT, h1, _, _⟩, _⟩ := h
  exact h1.lt
theorem PrSt.next2 {g B : Nat} {ns : List (List UInt8)} {l : List Lx.Tok} {w : World} (h : PrSt g B ns l w) (o1 o2 : Obj) : PrSt g B ns l ((w.alloc o1).alloc o2) := h.next (((Below.refl _ _).alloc (Nat.le_refl _) _).alloc (by simp) _)
theorem PrSt.next2d {g B : Nat} {ns : List (List UInt8)} {l : List Lx.Tok} {w : World} (h : PrSt g B ns l w) (o1 o2 : Obj) : PrSt g B ns l ((w.alloc o1).alloc o2).drew := h.next (((Below.refl _ _).alloc (Nat.le_refl _) _).alloc (by simp) _).drew
theorem blk_new2 (w : World) (o1 : Obj) (cs : Array Value) (t : TypeId) : Blk ((w.alloc o1).alloc (.cells cs t)) (w.heap.size + 1) t cs := Blk.new_at _ _ (by simp)
theorem blk_new2d (w : World) (o1 : Obj) (cs : Array Value) (t : TypeId) : Blk ((w.alloc o1).alloc (.cells cs t)).drew (w.heap.size + 1) t cs := Blk.new_at (w.alloc o1) _ (by simp)
theorem bel_new2 (w : World) (o1 o2 : Obj) {g : Nat} (h : g ≤ w.heap.size) : Below g w ((w.alloc o1).alloc o2) := ((Below.refl _ _).alloc h _).alloc (by simp; omega) _
/-- A token has been added. -/
theorem pr_grow {g B gg cap : Nat} {AN : Option Addr} {cN : Nat} {vT : Value} {ns : List (List UInt8)} {l : List Lx.Tok} {x : Lx.Tok} {w w1 w3 : World} (hb : Blk w g 78 #[.slice AN ns.length cN, vT]) (hl : Lies w B AN 1 (ns.map strC)) (hB : B ≤ g)
    (hown : w.ownsRow g 110 4 vT l.length (l.flatMap Lx.Tok.cells)) (h1 : Below w.heap.size w w1) (hgrow : w1.grownBy w3 vT.ownBlock)
    (hown3 : w3.ownsRow g 110 4 (.slice (some ⟨gg, 0, none⟩) (l.length + 1) cap) (l.length + 1) (l.flatMap Lx.Tok.cells ++ x.cells)) :
    Blk w3 g 78 #[.slice AN ns.length cN, vT] ∧ PrSt g B ns (l ++ [x]) (w3.setCell ⟨g, 1, none⟩ (.slice (some ⟨gg, 0, none⟩) (l.length + 1) cap)) ∧
    Below g w (w3.setCell ⟨g, 1, none⟩ (.slice (some ⟨gg, 0, none⟩) (l.length + 1) cap)) ∧ KP w (w3.setCell ⟨g, 1, none⟩ (.slice (some ⟨gg, 0, none⟩) (l.length + 1) cap)) := by
  have hlt := hb.lt
  have hne := own_ne hown hb (by decide)
  have hb1 := hb.below h1 hlt
  have hb3 : Blk w3 g 78 #[.slice AN ns.length cN, vT] := (hgrow.block g hb1.lt (fun e => hne e.symm)).trans hb1
  have hbel : Below g w w3 := Below.grown (h1.mono (by omega)) hgrow (by have := h1.size; omega) (fun k hk => own_ge hown hk)
  refine ⟨hb3, ⟨⟨AN, cN, _, by have := hb3.set 1 (.slice (some ⟨gg, 0, none⟩) (l.length + 1) cap); simpa using this, (hl.below hbel hB).below (set_below _) hB, ?_⟩, hB⟩, hbel.setCell (p := ⟨g, 1, none⟩) (Nat.le_refl _) _, ?_⟩
  · rw [List.length_append, List.flatMap_append]
    have : [x].flatMap Lx.Tok.cells = x.cells := by simp
    rw [this]
    exact own_setCell_far hown3 (own_ne hown3 hb3 (by decide)) _
  · refine ⟨by have := h1.size; have := hgrow.size; simp [World.setCell]; omega, fun k o hk ho => ?_⟩
    have hkl := (Array.getElem?_eq_some_iff.1 hk).1
    have hk1 := (h1.block k hkl).trans hk
    have hgk : k ≠ g := fun e => by
      subst e
      unfold Blk at hb
      rw [hk] at hb
      injection hb with hb
      exact (ho _ _ _ hb).2 rfl
    rw [Below.heap_setCell w3 ⟨g, 1, none⟩ _ k hgk]
    refine (hgrow.block k (Array.getElem?_eq_some_iff.1 hk1).1 (fun e => ?_)).trans hk1
    rcases hown.2 with ⟨rfl, _⟩ | ⟨g', cap', cur', rfl, _, hh', _⟩
    · simp [Value.ownBlock] at e
    · have : k = g' := by simpa [Value.ownBlock] using e
      subst this
      rw [hk] at hh'
      injection hh' with hh'
      exact (ho _ _ _ hh').1 rfl

def PutPost (g B : Nat) (ns : List (List UInt8)) (l : List Lx.Tok) (its : List Item) (w : World) (e : Ending) (w' : World) : Prop :=
  e = .returned (.tuple #[]) ∧ PrSt g B ns (l ++ its.map (Item.tok ns)) w' ∧ Below g w w' ∧ KP w w'

-- the assertions of put's switch
theorem as_str (x : ByteArray) (w : World) : (Instr.typeAssert (.iface 9 (.string x)) 20 9 true).run Tryd.prog w = .ok (.tuple #[.string x, .bool true]) w := by kernel_rfl
theorem as_str_sg (x : ByteArray) (w : World) : (Instr.typeAssert (.iface 80 (.string x)) 20 9 true).run Tryd.prog w = .ok (.tuple #[.string ⟨#[]⟩, .bool false]) w := by kernel_rfl
theorem as_str_int (x : Int) (w : World) : (Instr.typeAssert (.iface 3 (.int .i64 x)) 20 9 true).run Tryd.prog w = .ok (.tuple #[.string ⟨#[]⟩, .bool false]) w := by kernel_rfl
theorem as_str_arg (a : Bool) (x : Int) (w : World) : (Instr.typeAssert (.iface 40 (.agg #[.bool a, .int .i64 x])) 20 9 true).run Tryd.prog w = .ok (.tuple #[.string ⟨#[]⟩, .bool false]) w := by kernel_rfl
theorem as_sg (x : ByteArray) (w : World) : (Instr.typeAssert (.iface 80 (.string x)) 20 80 true).run Tryd.prog w = .ok (.tuple #[.string x, .bool true]) w := by kernel_rfl
theorem as_sg_int (x : Int) (w : World) : (Instr.typeAssert (.iface 3 (.int .i64 x)) 20 80 true).run Tryd.prog w = .ok (.tuple #[.string ⟨#[]⟩, .bool false]) w := by kernel_rfl
theorem as_sg_arg (a : Bool) (x : Int) (w : World) : (Instr.typeAssert (.iface 40 (.agg #[.bool a, .int .i64 x])) 20 80 true).run Tryd.prog w = .ok (.tuple #[.string ⟨#[]⟩, .bool false]) w := by kernel_rfl
theorem as_int (x : Int) (w : World) : (Instr.typeAssert (.iface 3 (.int .i64 x)) 20 3 true).run Tryd.prog w = .ok (.tuple #[.int .i64 x, .bool true]) w := by kernel_rfl
theorem as_int_arg (a : Bool) (x : Int) (w : World) : (Instr.typeAssert (.iface 40 (.agg #[.bool a, .int .i64 x])) 20 3 true).run Tryd.prog w = .ok (.tuple #[.int .i64 0, .bool false]) w := by kernel_rfl
theorem as_arg (a : Bool) (x : Int) (w : World) : (Instr.typeAssert (.iface 40 (.agg #[.bool a, .int .i64 x])) 20 40 true).run Tryd.prog w = .ok (.tuple #[.agg #[.bool a, .int .i64 x], .bool true]) w := by kernel_rfl

/-- put serves single items that are no arguments. -/
def PutFlat (g B : Nat) (ns : List (List UInt8)) : Prop := ∀ (j : Item) (l : List Lx.Tok) (b : Nat) (W : World), j.flat → PrSt g B ns l W → Blk W b 20 #[j.val] → l.length + 1 ≤ 1000 →
  Calls Tryd.prog 26 #[.pointer (some ⟨g, 0, none⟩), .slice (some ⟨b, 0, none⟩) 1 1] W (PutPost g B ns l [j] W)

set_option maxRecDepth 20000 in
set_option maxHeartbeats 4000000 in
theorem lPutG (g B : Nat) (ns : List (List UInt8)) (its : List Item) (l : List Lx.Tok) (b : Nat) (w : World) (h : PrSt g B ns l w) (hb : Blk w b 20 (its.map Item.val).toArray) (hlen : l.length + its.length ≤ 1000) (hok : ∀ i ∈ its, i.ok ns)
    (hrec : (∃ a, Item.arg a ∈ its) → PutFlat g B ns) :
    Calls Tryd.prog 26 #[.pointer (some ⟨g, 0, none⟩), .slice (some ⟨b, 0, none⟩) its.length its.length] w (PutPost g B ns l its w) := by
  obtain ⟨i0, hi0, hz0, hz1, hz2⟩ := info_parts Tryd.infoTok
  obtain ⟨n, hn⟩ : ∃ n, n = its.length := ⟨_, rfl⟩
  rw [← hn] at hlen ⊢
  have Hn := Lib.hid hn; have H := Lib.hid h; have Hb := Lib.hid hb; have Hok := Lib.hid hok; have Hrec := Lib.hid hrec
  have hglt := h.lt
  clear hn h hb hok hrec
  go_enter Tryd.func26, Tryd.ntmps26
  go_wp2_with fail
  go_loopw [12] (fun v12 wr => ∃ k : Nat, k ≤ n ∧ v12 = .int .i64 k ∧ PrSt g B ns (l ++ (its.take k).map (Item.tok ns)) wr ∧ Below g w wr ∧ KP w wr) (fun v12 _ => n - (intOf v12).toNat)
  case atStart => exact ⟨0, by omega, rfl, by simpa using H.out, Below.refl _ _, KP.refl _⟩
  case round =>
    obtain ⟨k, hk, rfl, hS, hbel, hkp⟩ := hrel
    by_cases hlt : k < n
    · obtain ⟨x, hx⟩ : ∃ x, its[k]? = some x := ⟨_, List.getElem?_eq_getElem (by have := Hn.out; omega)⟩
      have hbr := hkp.blk Hb.out (by decide) (by decide)
      have c0 := hbr.cell k
      rw [List.getElem?_toArray, List.getElem?_map, hx] at c0
      simp only [Option.map_some] at c0
      obtain ⟨L, hL⟩ : ∃ L, L = l ++ (its.take k).map (Item.tok ns) := ⟨_, rfl⟩
      have hLl : L.length = l.length + k := by rw [hL, List.length_append, List.length_map, List.length_take, Nat.min_eq_left (by have := Hn.out; omega)]
      have hLn : l ++ (its.take (k + 1)).map (Item.tok ns) = L ++ [x.tok ns] := by
        rw [List.take_add_one, hx, List.map_append, ← List.append_assoc, ← hL]; rfl
      rw [← hL] at hS
      have hszr := hbel.size
      have Hx := Lib.hid hx; have HLl := Lib.hid hLl; have HLn := Lib.hid hLn; have HS := Lib.hid hS; have Hbel := Lib.hid hbel; have Hkp := Lib.hid hkp
      have hL9 : L.length ≤ 999 := by omega
      obtain ⟨⟨AN, cN, vT, hp, hl, hown⟩, hB⟩ := hS
      have p1 := hp.cell 1; have pf1 := hp.free 1; have p0 := hp.cell 0
      have hgr := hp.lt
      simp at p0 p1
      have Hp := Lib.hid hp; have Hl := Lib.hid hl; have Hown := Lib.hid hown
      clear hL hLl hLn hbel hkp hbr hx hp hl hown
      cases x with
      | name t =>
        have ha := as_str (Lx.bs t)
        simp only [Item.val] at c0
        go_wp2_with (at_builtin; refine wpList_append_lies _ rfl _ _ _ rfl g 110 i0 _ 4 40 Tryd.underlying66 hi0 hz0 hz1 hz2 rfl (by omega) _ L.length _ rfl ((Hown.out).alloc _) ⟨wr.heap.size, 0, none⟩ 1 1 [.int .i64 1, .string (Lx.bs t), .int .i64 0, .int .i64 0] rfl rfl (World.news_of_block (cs := #[.int .i64 1, .string (Lx.bs t), .int .i64 0, .int .i64 0]) (t := 110) (fr := (0, 0)) (heap_alloc_new wr _)) (by simp [Value.oneCell']) (by omega) (by unfold maxLen; omega) (by omega) (by simp; omega) (wr.heap.size + 1) (by simp) ?_; intro gg cap w3 hown3 hgrow3 hat3 hlt3; have hG := pr_grow (x := ⟨1, t, 0, 0⟩) Hp.out Hl.out hB Hown.out ((Below.refl _ _).alloc (Nat.le_refl _) _) hgrow3 hown3; have d1 := hG.1.cell 1; have df1 := hG.1.free 1; simp at d1; have HG := Lib.hid hG.2; clear hG hown3 hgrow3 hat3)
        go_roundw
        case rel => exact ⟨k + 1, by omega, by go_num, by rw [HLn.out]; exact HG.out.1, Hbel.out.trans HG.out.2.1, Hkp.out.trans HG.out.2.2⟩
        case measure => simp [intOf]; omega
      | sign t =>
        have ha := as_str_sg (Lx.bs t)
        have ha2 := as_sg (Lx.bs t)
        simp only [Item.val] at c0
        go_wp2_with (at_builtin; refine wpList_append_lies _ rfl _ _ _ rfl g 110 i0 _ 4 40 Tryd.underlying66 hi0 hz0 hz1 hz2 rfl (by omega) _ L.length _ rfl ((Hown.out).alloc _) ⟨wr.heap.size, 0, none⟩ 1 1 [.int .i64 3, .string (Lx.bs t), .int .i64 0, .int .i64 0] rfl rfl (World.news_of_block (cs := #[.int .i64 3, .string (Lx.bs t), .int .i64 0, .int .i64 0]) (t := 110) (fr := (0, 0)) (heap_alloc_new wr _)) (by simp [Value.oneCell']) (by omega) (by unfold maxLen; omega) (by omega) (by simp; omega) (wr.heap.size + 1) (by simp) ?_; intro gg cap w3 hown3 hgrow3 hat3 hlt3; have hG := pr_grow (x := ⟨3, t, 0, 0⟩) Hp.out Hl.out hB Hown.out ((Below.refl _ _).alloc (Nat.le_refl _) _) hgrow3 hown3; have d1 := hG.1.cell 1; have df1 := hG.1.free 1; simp at d1; have HG := Lib.hid hG.2; clear hG hown3 hgrow3 hat3)
        go_roundw
        case rel => exact ⟨k + 1, by omega, by go_num, by rw [HLn.out]; exact HG.out.1, Hbel.out.trans HG.out.2.1, Hkp.out.trans HG.out.2.2⟩
        case measure => simp [intOf]; omega
      | num z =>
        have ha := as_str_int z
        have ha2 := as_sg_int z
        have ha3 := as_int z
        simp only [Item.val] at c0
        go_wp2_with (at_builtin; refine wpList_append_lies _ rfl _ _ _ rfl g 110 i0 _ 4 40 Tryd.underlying66 hi0 hz0 hz1 hz2 rfl (by omega) _ L.length _ rfl ((Hown.out).alloc _) ⟨wr.heap.size, 0, none⟩ 1 1 [.int .i64 2, .string ⟨#[]⟩, .int .i64 z, .int .i64 0] rfl rfl (World.news_of_block (cs := #[.int .i64 2, .string ⟨#[]⟩, .int .i64 z, .int .i64 0]) (t := 110) (fr := (0, 0)) (heap_alloc_new wr _)) (by simp [Value.oneCell']) (by omega) (by unfold maxLen; omega) (by omega) (by simp; omega) (wr.heap.size + 1) (by simp) ?_; intro gg cap w3 hown3 hgrow3 hat3 hlt3; have hG := pr_grow (x := ⟨2, [], z, 0⟩) Hp.out Hl.out hB Hown.out ((Below.refl _ _).alloc (Nat.le_refl _) _) hgrow3 hown3; have d1 := hG.1.cell 1; have df1 := hG.1.free 1; simp at d1; have HG := Lib.hid hG.2; clear hG hown3 hgrow3 hat3)
        go_roundw
        case rel => exact ⟨k + 1, by omega, by go_num, by rw [HLn.out]; exact HG.out.1, Hbel.out.trans HG.out.2.1, Hkp.out.trans HG.out.2.2⟩
        case measure => simp [intOf]; omega
      | arg a =>
        have ha := as_str_arg a.var a.n
        have ha2 := as_sg_arg a.var a.n
        have ha3 := as_int_arg a.var a.n
        have ha4 := as_arg a.var a.n
        simp only [Item.val] at c0
        have hflat := Hrec.out ⟨a, List.mem_of_getElem? Hx.out⟩
        have Hflat := Lib.hid hflat
        clear hflat
        cases hv : a.var with
        | true =>
          obtain ⟨hn0, hn1⟩ := Hok.out _ (List.mem_of_getElem? Hx.out) hv
          obtain ⟨z, hz⟩ := Int.eq_ofNat_of_zero_le hn0
          obtain ⟨nm, hnm⟩ : ∃ nm, ns[z]? = some nm := ⟨_, List.getElem?_eq_getElem (by omega)⟩
          obtain ⟨bN, oN, rfl, hbN, hcel⟩ := Hl.out.at_ z (strC nm) (by rw [List.getElem?_map, hnm]; rfl)
          have q1 := hcel 0 _ rfl
          rw [Nat.mul_one, Nat.add_zero] at q1
          have htk : Hid (Item.tok ns (.arg a) = Item.tok ns (.name nm)) := Lib.hid (by
            show Qy.argT ns a = _
            unfold Qy.argT
            rw [if_pos hv, hz, List.getD_eq_getElem?_getD, show ((z : Int)).toNat = z from rfl, hnm]; rfl)
          have hzn : z < ns.length := by omega
          have hbn : bN < wr.heap.size := by omega
          rw [hv] at c0 ha ha2 ha3 ha4
          rw [hz] at c0 ha ha2 ha3 ha4
          clear hcel hnm hn0 hn1 hz hv
          go_wp2_with fail
          go_region_with (go_at_call 26; refine (Hflat.out (.name nm) L _ _ trivial (HS.out.next2d _ _) (blk_new2d _ _ _ _) (by omega)).mono ?_; rintro e w3 ⟨rfl, h3, h4, h5⟩; have H3 := Lib.hid h3; have H4 := Lib.hid ((bel_new2 wr _ _ (by omega)).drew.trans h4); have H5 := Lib.hid ((KP.below (bel_new2 wr _ _ (Nat.le_refl _)).drew).trans h5); clear h3 h4 h5)
          all_goals (try go_wp2_with fail)
          all_goals go_roundw
          all_goals first
            | exact ⟨k + 1, by omega, by go_num, by rw [HLn.out, htk.out]; exact H3.out, Hbel.out.trans H4.out, Hkp.out.trans H5.out⟩
            | (simp [intOf]; omega)
        | false =>
          have htk : Hid (Item.tok ns (.arg a) = Item.tok ns (.num a.n)) := Lib.hid (by
            show Qy.argT ns a = _
            unfold Qy.argT
            rw [if_neg (by rw [hv]; simp)]; rfl)
          rw [hv] at c0 ha ha2 ha3 ha4
          clear hv
          go_wp2_with fail
          refine (Hflat.out (.num a.n) L _ _ trivial (HS.out.next2 _ _) (blk_new2 _ _ _ _) (by omega)).mono ?_
          rintro e w3 ⟨rfl, h3, h4, h5⟩
          have H3 := Lib.hid h3; have H4 := Lib.hid ((bel_new2 wr _ _ (by omega)).trans h4); have H5 := Lib.hid ((KP.below (bel_new2 wr _ _ (Nat.le_refl _))).trans h5)
          clear h3 h4 h5
          go_wp2_with fail
          go_roundw
          case rel => exact ⟨k + 1, by omega, by go_num, by rw [HLn.out, htk.out]; exact H3.out, Hbel.out.trans H4.out, Hkp.out.trans H5.out⟩
          case measure => simp [intOf]; omega
    · obtain rfl : k = n := by omega
      go_wp2_with fail
      go_end0
      exact ⟨rfl, by rw [Hn.out, List.take_length] at hS; exact hS, hbel, hkp⟩

theorem lPutFlat (g B : Nat) (ns : List (List UInt8)) : PutFlat g B ns := fun j l b W hj h hb hl => by
  have := lPutG g B ns [j] l b W h hb hl (fun i hi => by
    rw [List.mem_singleton] at hi
    subst hi
    cases i with
    | arg a => exact hj.elim
    | _ => trivial) (fun ⟨a, ha⟩ => by
    rw [List.mem_singleton] at ha
    subst ha
    exact hj.elim)
  exact this
theorem lPut (g B : Nat) (ns : List (List UInt8)) (its : List Item) (l : List Lx.Tok) (b : Nat) (w : World) (h : PrSt g B ns l w) (hb : Blk w b 20 (its.map Item.val).toArray) (hlen : l.length + its.length ≤ 1000) (hok : ∀ i ∈ its, i.ok ns) :
    Calls Tryd.prog 26 #[.pointer (some ⟨g, 0, none⟩), .slice (some ⟨b, 0, none⟩) its.length its.length] w (PutPost g B ns l its w) :=
  lPutG g B ns its l b w h hb hlen hok (fun _ => lPutFlat g B ns)
end Go.Proofs.YtjonaidancomgaaDoor
