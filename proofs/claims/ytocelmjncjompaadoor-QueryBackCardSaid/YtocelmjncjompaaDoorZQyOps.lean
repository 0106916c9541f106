/- Parts of the proof, joined into one text: QyOps, QyToks, QyRound. -/
import Derived.Test.YtocelmjncjompaaDoorZQyCheckP
import Derived.Maps.Own
import Derived.Maps.Views
import Derived.Test.YtocelmjncjompaaDoorZQyAgain
import Derived.Sort.QuietThIn
import Derived.Sort.QuietTacIn
import Derived.RangeFuncCalls
import Derived.OrdersHeld
import Derived.Test.YtocelmjncjompaaDoorZLxM

namespace Go.Proofs.YtocelmjncjompaaDoor
open Go.RowKit Go.Maps Go.WideMaps

/-- How a row of signs reads. -/
def opD (b n : Nat) : DataW Unit := .agg [.lit (.int .i64 (b : Int)), .lit (.int .i64 (n : Int))]
def rowR (v : Value) : Option (DataW Unit × List MemPlace) := match v with
  | .slice (some ⟨b, 0, none⟩) n c => if c = n then some (opD b n, []) else none
  | .slice none 0 0 => some (.nil, [])
  | _ => none
theorem rowR_mk (b n : Nat) : rowR (.slice (some ⟨b, 0, none⟩) n n) = some (opD b n, []) := by simp [rowR]
theorem rowR_inv {v : Value} {b n : Nat} {ps : List MemPlace} (h : rowR v = some (opD b n, ps)) : v = .slice (some ⟨b, 0, none⟩) n n := by
  unfold rowR at h
  split at h
  · split at h
    · rename_i e
      subst e
      simp only [Option.some.injEq, Prod.mk.injEq, opD, DataW.agg.injEq, List.cons.injEq, DataW.lit.injEq, Lit.int.injEq, true_and, and_true] at h
      obtain ⟨⟨h1, h2⟩, _⟩ := h
      have e1 : b = _ := (Int.ofNat.inj h1).symm
      have e2 : n = _ := (Int.ofNat.inj h2).symm
      subst e1; subst e2
      rfl
    · cases h
  · simp [opD] at h
  · cases h
theorem wpList_insert_own {H : Type} {P : Program} (w : World) {ops : Array Oper} {rest : List Oper} {o : Oper} {a : Act} {Q : Exit → Act → World → Prop}
    (hg : o.guard = none) (m x v : Operand) (t : TypeId) (hop : o.op = Op.insert t m x v)
    (k e : TypeId) (K : Keyed P k) (ht : P.underlying t = some (.map k e)) (R : Value → Option (DataW H × List MemPlace)) (b n : Nat) (D : DataW H)
    (hm : a.eval m = .map (some b)) (hown : w.ownsMap P k R b n D) (hn : n < maxLen) (key val : Value) (kl : Lit) (hx : a.eval x = key) (hv : a.eval v = val) (hkey : keyOf P k key = some kl)
    (d : DataW H) (ps : List MemPlace) (hval : R val = some (d, ps))
    (hK : ∀ w', w'.ownsMap P k R b (n + 1) (D.put kl d) → w.grownBy w' (some b) → wpList P ops Q rest (a.put o.dst undef) w') :
    wpList P ops Q (o :: rest) a w := by
  refine wpList_plain hg fun K' hK' => ?_
  obtain ⟨w', hrun, r1, r2⟩ := hown.update K ht hn hkey hval
  unfold Oper.wp
  simp [execOp, hop, hm, hx, hv, hrun, Result.andThen]
  exact hK' _ _ (hK w' r1 r2)
/-- The signs of a test. -/
def sgsOf (o : Int) : List (List UInt8) := if o = -2 then [[60]] else if o = -1 then [[60], [61]] else if o = 0 then [[61]] else [[33], [61]]
theorem sgsOf_toks (o : Int) : (sgsOf o).map (fun t => (⟨3, t, 0, 0⟩ : Lx.Tok)) = Qy.operT o := by
  unfold sgsOf Qy.operT
  split
  · rfl
  · split
    · rfl
    · split <;> rfl
def opMap (b1 b2 b3 b4 : Nat) : DataW Unit := ((((DataW.map []).put (.int .i64 (-2)) (opD b1 1)).put (.int .i64 (-1)) (opD b2 2)).put (.int .i64 0) (opD b3 1)).put (.int .i64 1) (opD b4 2)
theorem opMap_at (b1 b2 b3 b4 : Nat) (o : Int) (h1 : -2 ≤ o) (h2 : o ≤ 1) : ∃ b, (b = if o = -2 then b1 else if o = -1 then b2 else if o = 0 then b3 else b4) ∧ (opMap b1 b2 b3 b4).atKey (.int .i64 o) .nil = opD b (sgsOf o).length := by
  have hk : ∀ i : Int, WideAt.IsKeyLit (.int .i64 i) := fun _ => trivial
  have m0 : IsMap (DataW.map [] : DataW Unit) := isMap_empty
  rcases (by omega : o = -2 ∨ o = -1 ∨ o = 0 ∨ o = 1) with rfl | rfl | rfl | rfl
  · refine ⟨b1, by simp, ?_⟩
    unfold opMap
    rw [atKey_put_other (by intro h; injection h with _ h; exact absurd h (by decide)), atKey_put_other (by intro h; injection h with _ h; exact absurd h (by decide)), atKey_put_other (by intro h; injection h with _ h; exact absurd h (by decide)), atKey_put_same m0 (hk _)]
    rfl
  · refine ⟨b2, by simp, ?_⟩
    unfold opMap
    rw [atKey_put_other (by intro h; injection h with _ h; exact absurd h (by decide)), atKey_put_other (by intro h; injection h with _ h; exact absurd h (by decide)), atKey_put_same (m0.put _ _) (hk _)]
    rfl
  · refine ⟨b3, by simp, ?_⟩
    unfold opMap
    rw [atKey_put_other (by intro h; injection h with _ h; exact absurd h (by decide)), atKey_put_same ((m0.put _ _).put _ _) (hk _)]
    rfl
  · refine ⟨b4, by simp, ?_⟩
    unfold opMap
    rw [atKey_put_same (((m0.put _ _).put _ _).put _ _) (hk _)]
    rfl
theorem zeroRow (w : World) : (zeroValue 84).run Tryd.prog w = .ok (.slice none 0 0) w := by kernel_rfl
/-- What is found in the map of the signs. -/
theorem ops_look {w : World} {m b1 b2 b3 b4 : Nat} (h : w.ownsMap Tryd.prog 3 rowR m 4 (opMap b1 b2 b3 b4)) (o : Int) (h1 : -2 ≤ o) (h2 : o ≤ 1) :
    ∃ b, (b = if o = -2 then b1 else if o = -1 then b2 else if o = 0 then b3 else b4) ∧ (Instr.lookup 85 (.map (some m)) (.int .i64 o) false).run Tryd.prog w = .ok (.slice (some ⟨b, 0, none⟩) (sgsOf o).length (sgsOf o).length) w := by
  obtain ⟨b, hb, hat⟩ := opMap_at b1 b2 b3 b4 o h1 h2
  obtain ⟨v, ps, hrun, hv⟩ := h.lookup (int_keyed Tryd.underlying3) Tryd.underlying85 (zeroRow w) (zd := .nil) (zp := []) rfl (keyOf_int_mk Tryd.underlying3 (WalkArith.wf_i64 (n := o) (by omega)))
  rw [hat] at hv
  rw [rowR_inv hv] at hrun
  exact ⟨b, hb, hrun⟩
theorem sgsOf_row {w : World} {b1 b2 b3 b4 : Nat} (r1 : Blk w b1 83 #[.string ⟨#[60]⟩]) (r2 : Blk w b2 83 #[.string ⟨#[60]⟩, .string ⟨#[61]⟩]) (r3 : Blk w b3 83 #[.string ⟨#[61]⟩]) (r4 : Blk w b4 83 #[.string ⟨#[33]⟩, .string ⟨#[61]⟩]) (o : Int) :
    Blk w (if o = -2 then b1 else if o = -1 then b2 else if o = 0 then b3 else b4) 83 ((sgsOf o).map fun t => Value.string (Lx.bs t)).toArray := by
  unfold sgsOf
  split
  · exact r1
  · split
    · exact r2
    · split
      · exact r3
      · exact r4
theorem ops_made {w3 x1 x2 x3 x4 : World} (g1 : ((w3.alloc (.map #[] 0)).alloc (.cells #[.string ⟨#[60]⟩] 83)).grownBy x1 (some w3.heap.size)) (g2 : (x1.alloc (.cells #[.string ⟨#[60]⟩, .string ⟨#[61]⟩] 83)).grownBy x2 (some w3.heap.size))
    (g3 : (x2.alloc (.cells #[.string ⟨#[61]⟩] 83)).grownBy x3 (some w3.heap.size)) (g4 : (x3.alloc (.cells #[.string ⟨#[33]⟩, .string ⟨#[61]⟩] 83)).grownBy x4 (some w3.heap.size))
    {D : DataW Unit} (o4 : x4.ownsMap Tryd.prog 3 rowR w3.heap.size 4 D) (hD : D = opMap (w3.heap.size + 1) x1.heap.size x2.heap.size x3.heap.size) (o : Int) (h1 : -2 ≤ o) (h2 : o ≤ 1) :
    ∃ bi, (Instr.lookup 85 (.map (some w3.heap.size)) (.int .i64 o) false).run Tryd.prog x4 = .ok (.slice (some ⟨bi, 0, none⟩) (sgsOf o).length (sgsOf o).length) x4 ∧ Blk x4 bi 83 ((sgsOf o).map fun t => Value.string (Lx.bs t)).toArray ∧ Below w3.heap.size w3 x4 := by
  subst hD
  have r1 := (Blk.new_at (t := 83) (cs := #[.string ⟨#[60]⟩]) (w3.alloc (.map #[] 0)) (w3.heap.size + 1) (by simp)).grown g1 (by simp)
  have v1 : Below w3.heap.size w3 x1 := Below.grown (((Below.refl _ _).alloc (Nat.le_refl _) _).alloc (by simp) _) g1 (by simp; omega) (fun k e => by injection e with e; omega)
  have z1 := v1.size
  have y1 : w3.heap.size + 2 ≤ x1.heap.size := by have := g1.size; simp at this; omega
  replace r1 := (r1.alloc (.cells #[.string ⟨#[60]⟩, .string ⟨#[61]⟩] 83)).grown g2 (by simp)
  have r2 := (Blk.new x1 83 #[.string ⟨#[60]⟩, .string ⟨#[61]⟩]).grown g2 (by simp; omega)
  have v2 : Below w3.heap.size w3 x2 := Below.grown (v1.alloc z1 _) g2 (by simp; omega) (fun k e => by injection e with e; omega)
  have z2 := v2.size
  have y2 : x1.heap.size + 1 ≤ x2.heap.size := by have := g2.size; simp at this; omega
  replace r1 := (r1.alloc (.cells #[.string ⟨#[61]⟩] 83)).grown g3 (by simp)
  replace r2 := (r2.alloc (.cells #[.string ⟨#[61]⟩] 83)).grown g3 (by simp; omega)
  have r3 := (Blk.new x2 83 #[.string ⟨#[61]⟩]).grown g3 (by simp; omega)
  have v3 : Below w3.heap.size w3 x3 := Below.grown (v2.alloc z2 _) g3 (by simp; omega) (fun k e => by injection e with e; omega)
  have z3' := v3.size
  have y3 : x2.heap.size + 1 ≤ x3.heap.size := by have := g3.size; simp at this; omega
  replace r1 := (r1.alloc (.cells #[.string ⟨#[33]⟩, .string ⟨#[61]⟩] 83)).grown g4 (by simp)
  replace r2 := (r2.alloc (.cells #[.string ⟨#[33]⟩, .string ⟨#[61]⟩] 83)).grown g4 (by simp; omega)
  replace r3 := (r3.alloc (.cells #[.string ⟨#[33]⟩, .string ⟨#[61]⟩] 83)).grown g4 (by simp; omega)
  have r4 := (Blk.new x3 83 #[.string ⟨#[33]⟩, .string ⟨#[61]⟩]).grown g4 (by simp; omega)
  have v4 : Below w3.heap.size w3 x4 := Below.grown (v3.alloc z3' _) g4 (by simp; omega) (fun k e => by injection e with e; omega)
  have z4 := v4.size
  obtain ⟨bi, hbi, hlook⟩ := ops_look o4 o h1 h2
  have hrow := sgsOf_row r1 r2 r3 r4 o
  rw [← hbi] at hrow
  exact ⟨bi, hlook, hrow, v4⟩
theorem sgsOf_len (o : Int) : (sgsOf o).length ≤ 2 := by
  unfold sgsOf
  split
  · simp
  · split
    · simp
    · split <;> simp
end Go.Proofs.YtocelmjncjompaaDoor

namespace Go.Proofs.YtocelmjncjompaaDoor.Qy
open Lx

theorem sepT_mem {t : Lx.Tok} : ∀ {l : List (List Lx.Tok)}, t ∈ sepT l → t = sgT 44 ∨ ∃ x ∈ l, t ∈ x
  | [], h => by simp [sepT] at h
  | [a], h => .inr ⟨a, by simp, h⟩
  | a :: b :: r, h => by
    have h' : t ∈ a ++ sgT 44 :: sepT (b :: r) := h
    rcases List.mem_append.1 h' with h1 | h1
    · exact .inr ⟨a, by simp, h1⟩
    · rcases List.mem_cons.1 h1 with h2 | h2
      · exact .inl h2
      · rcases sepT_mem h2 with h3 | ⟨x, h3, h4⟩
        · exact .inl h3
        · exact .inr ⟨x, List.mem_cons_of_mem _ h3, h4⟩
theorem nameT_valid {t : List UInt8} (h : isName t = true) : Lx.valid (nameT t) = true := by simp [Lx.valid, nameT, h]
theorem numT_valid {n : Int} (h0 : 0 ≤ n) (h1 : n ≤ 1099511627776) : Lx.valid (numT n) = true := by simp [Lx.valid, numT, h0, h1]
theorem sgT_valid {c : UInt8} (h : sign c = true) : Lx.valid (sgT c) = true := by simp [Lx.valid, sgT, h]
theorem kindWords_names : ∀ t ∈ kindWords, isName t = true := by decide
theorem order_mem {top : Int} {l : List Int} {n : Int} : ∀ {k m : Int}, order top k l = some m → n ∈ l → 0 ≤ n ∧ n < top := by
  induction l with
  | nil => intro k m _ h; simp at h
  | cons x r ih =>
    intro k m h hn
    have h' : (if x < 0 ∨ k < x ∨ top ≤ x then none else order top (if x = k then k + 1 else k) r) = some m := h
    split at h'
    · cases h'
    · rename_i hx
      rcases List.mem_cons.1 hn with rfl | hn
      · omega
      · exact ih h' hn
theorem argT_valid {q : Query} (h : Valid q) {a : Arg} (ha : a ∈ allArgs q.atoms q.tests) : Lx.valid (argT q.names a) = true := by
  unfold argT
  cases hv : a.var with
  | true =>
    simp only [if_true]
    have hin : 0 ≤ a.n ∧ a.n < (q.names.length : Int) := by
      have hm : a.n ∈ allVars q.shown (allArgs q.atoms q.tests) := by
        unfold allVars
        exact List.mem_append_right _ (List.mem_flatMap.2 ⟨a, ha, by unfold Arg.vars; rw [if_pos hv]; simp⟩)
      exact order_mem h.order hm
    obtain ⟨z, hz⟩ := Int.eq_ofNat_of_zero_le hin.1
    rw [hz, show ((z : Nat) : Int).toNat = z from rfl, List.getD_eq_getElem?_getD, List.getElem?_eq_getElem (by omega)]
    exact nameT_valid (h.names _ (List.getElem_mem _)).1
  | false =>
    simp only [Bool.false_eq_true, if_false]
    obtain ⟨h1, h2⟩ := h.args a ha hv
    exact numT_valid h1 h2
theorem toksT_valid {q : Query} (h : Valid q) : ∀ t ∈ toksT q, Lx.valid t = true := by
  intro t ht
  have sg : ∀ c : UInt8, c = 44 ∨ c = 59 ∨ c = 40 ∨ c = 41 ∨ c = 61 ∨ c = 60 ∨ c = 33 → Lx.valid (sgT c) = true := fun c hc => by
    rcases hc with rfl | rfl | rfl | rfl | rfl | rfl | rfl <;> decide
  unfold toksT at ht
  simp only [List.cons_append, List.mem_cons, List.mem_append, List.append_assoc] at ht
  rcases ht with rfl | ht | rfl | ht | rfl | ht
  · decide
  · rcases sepT_mem ht with rfl | ⟨x, hx, htx⟩
    · exact sg _ (by simp)
    · obtain ⟨n, hn, rfl⟩ := List.mem_map.1 hx
      rw [List.mem_singleton] at htx
      subst htx
      by_cases hlt : n.toNat < q.names.length
      · rw [List.getD_eq_getElem?_getD, List.getElem?_eq_getElem hlt]
        exact nameT_valid (h.names _ (List.getElem_mem _)).1
      · exfalso
        have ho := h.order
        have hm : n ∈ allVars q.shown (allArgs q.atoms q.tests) := by unfold allVars; exact List.mem_append_left _ hn
        have := order_mem ho hm
        omega
  · decide
  · rcases sepT_mem ht with rfl | ⟨x, hx, htx⟩
    · exact sg _ (by simp)
    · rcases List.mem_append.1 hx with hx | hx
      · obtain ⟨a, ha, rfl⟩ := List.mem_map.1 hx
        obtain ⟨⟨k1, k2⟩, ⟨t1, t2⟩, ⟨n1, n2⟩⟩ := h.atoms a ha
        have hmem : ∀ y, y = a.subj ∨ y = a.obj ∨ y = a.val → y ∈ allArgs q.atoms q.tests := fun y hy => by
          unfold allArgs
          refine List.mem_append_left _ (List.mem_flatMap.2 ⟨a, ha, ?_⟩)
          unfold aArgs
          rcases hy with rfl | rfl | rfl <;> simp
        unfold atomT at htx
        simp only [List.mem_cons, List.not_mem_nil, or_false] at htx
        rcases htx with rfl | rfl | rfl | rfl | rfl | rfl | rfl | rfl | rfl | rfl | rfl | rfl
        · unfold kindT
          refine nameT_valid (kindWords_names _ ?_)
          rw [List.getD_eq_getElem?_getD, List.getElem?_eq_getElem (show (a.kind - 1).toNat < kindWords.length by show (a.kind - 1).toNat < 12; omega)]
          exact List.getElem_mem _
        · exact sg _ (by simp)
        · exact argT_valid h (hmem _ (.inl rfl))
        · exact sg _ (by simp)
        · exact argT_valid h (hmem _ (.inr (.inl rfl)))
        · exact sg _ (by simp)
        · exact sg _ (by simp)
        · exact argT_valid h (hmem _ (.inr (.inr rfl)))
        · decide
        · exact numT_valid t1 (by omega)
        · decide
        · exact numT_valid n1 (by omega)
      · obtain ⟨a, ha, rfl⟩ := List.mem_map.1 hx
        have hmem : ∀ y, y = a.a ∨ y = a.b → y ∈ allArgs q.atoms q.tests := fun y hy => by
          unfold allArgs
          refine List.mem_append_right _ (List.mem_flatMap.2 ⟨a, ha, ?_⟩)
          unfold tArgs
          rcases hy with rfl | rfl <;> simp
        unfold testT at htx
        rw [List.cons_append, List.mem_cons, List.mem_append, List.mem_singleton] at htx
        rcases htx with rfl | htx | rfl
        · exact argT_valid h (hmem _ (.inl rfl))
        · unfold operT at htx
          split at htx
          · simp at htx; subst htx; exact sg _ (by simp)
          · split at htx
            · simp at htx; rcases htx with rfl | rfl <;> exact sg _ (by simp)
            · split at htx
              · simp at htx; subst htx; exact sg _ (by simp)
              · simp at htx; rcases htx with rfl | rfl <;> exact sg _ (by simp)
        · exact argT_valid h (hmem _ (.inr rfl))
  · exact sg _ (by simp)
  · simp at ht
theorem valid_len {t : Lx.Tok} (h : Lx.valid t = true) : t.text.length ≤ 32 := by
  unfold Lx.valid at h
  split at h
  · simp only [Bool.and_eq_true] at h
    have h1 := h.1
    unfold isName at h1
    split at h1
    · cases h1
    · simp only [Bool.and_eq_true, decide_eq_true_eq] at h1
      omega
  · split at h
    · simp only [Bool.and_eq_true, List.isEmpty_iff] at h
      rw [h.1.1]; simp
    · split at h
      · simp only [Bool.and_eq_true] at h
        have h1 := h.1
        split at h1
        · rename_i e; rw [e]; simp
        · cases h1
      · cases h
end Go.Proofs.YtocelmjncjompaaDoor.Qy

namespace Go.Proofs.YtocelmjncjompaaDoor
open Go.RowKit

/-- No operation of the region is a defer. -/
def noDefer (ops : Array Oper) : Bool := ops.toList.all fun o => match o.op with | .defer _ => false | _ => true
theorem noDefer_spec {ops : Array Oper} (h : noDefer ops = true) {i : Nat} {o : Oper} (ho : ops[i]? = some o) : ∀ c, o.op ≠ .defer c := fun c e => by
  unfold noDefer at h
  rw [List.all_eq_true] at h
  have := h o (by
    rw [← Array.getElem?_toList] at ho
    exact List.mem_of_getElem? ho)
  rw [e] at this
  cases this
section
variable {F : Fence} {n l : Nat} {P : Program} {ops : Array Oper} {Q : Exit → Act → World → Prop} {md : Region.Mode}
theorem wpOpIn_round (_hro : F.round = none) (hd : noDefer ops = true) {i : Nat} {K : Act → World → Prop} {a : Act} {w : World} (h : wpOpIn F n P ops Q i K a w) : wpOpIn (F.inRound l) n P ops Q i K a w := by
  unfold wpOpIn at h ⊢
  cases ho : ops[i]? with
  | none => rw [ho] at h; exact h
  | some o =>
    rw [ho] at h
    simp only at h ⊢
    have hn := noDefer_spec hd ho
    split
    · rename_i hw
      rw [if_pos hw] at h
      unfold Oper.wpIn at h ⊢
      refine ⟨h.1, ?_⟩
      have h2 := h.2
      rw [Oper.semAt_eq _ _ _ hn] at h2 ⊢
      exact h2
    · rename_i hw
      rw [if_neg hw] at h
      exact h
theorem wpAnyIn_round (hro : F.round = none) (hd : noDefer ops = true) : ∀ (fuel : Nat) (listed : Array Bool) (a : Act) (w : World), wpAnyIn F n P md ops Q fuel listed a w → wpAnyIn (F.inRound l) n P md ops Q fuel listed a w
  | 0, _, _, _, h => h
  | fuel + 1, _, _, _, h => ⟨h.1, fun i hi => wpOpIn_round hro hd (wpOpIn_mono (fun a w h => wpAnyIn_round hro hd fuel _ a w h) (h.2 i hi))⟩
theorem wpIn_region_quiet_round {id : Nat} {a : Act} {w : World} {ol : List Oper} (hro : F.round = none) (hm : P.follows .mixedOrders = true) (hB : Region.lexB .any ol.toArray = true) (hd : noDefer ol.toArray = true)
    (h : wpQuietIn F n P ol.toArray (fun w' => ∃ n, w' = w.drewN n) (fun a' => ∀ w', (∃ n, w' = w.drewN n) → Q .normal a' w') ol a) : (Code.region id ol.toArray true).wpIn (F.inRound l) n P Q a w := by
  simp only [Region.lexB, Bool.and_eq_true] at hB
  refine wpIn_region_any hm (wpAnyIn_round hro hd _ _ _ _ (wpAnyIn_of_quiet (C := fun w' => ∃ n, w' = w.drewN n) (Q := fun a' => ∀ w', (∃ n, w' = w.drewN n) → Q .normal a' w') hro (fun _ w' hw' h => h w' hw') _ _ _ _ ⟨1, rfl⟩ ?_))
  have := wpAnyQIn_lex (F := F) (n := n) (C := fun w' => ∃ n, w' = w.drewN n) (md := .any) hB.1 ol.toArray.toList 0 (Array.replicate ol.toArray.size false) a (by simp) (by simpa using hB.2) (by simpa using h)
  simpa using this
theorem wpOpIn_of_wpOp (hL : ¬ LetsOut Q) {i : Nat} {K : Act → World → Prop} {a : Act} {w : World} (h : wpOp P ops Q i K a w) : wpOpIn Fence.wide n P ops Q i K a w := by
  unfold wpOp at h
  unfold wpOpIn
  cases ho : ops[i]? with
  | none => rw [ho] at h; exact h
  | some o =>
    rw [ho] at h
    simp only at h ⊢
    split
    · rename_i hw
      rw [if_pos hw] at h
      rcases h with h | ⟨_, h⟩
      · unfold Oper.wp at h
        unfold Oper.wpIn
        refine ⟨fun _ _ => trivial, ?_⟩
        show o.uponIn Fence.wide n P a K Q ((Oper.semAt none a.eval o).run P w)
        rw [Oper.semAt_none]
        generalize (execOp a.eval o).run P w = r at h
        cases r with
        | ok x w' =>
          cases x with
          | value v => exact h
          | skip => exact h
          | defer d => exact h
          | enter f args => exact ⟨fun h => (by cases h), callsIn_wide.2 h⟩
          | row row args => exact ⟨fun h => (by cases h), fun c cs _ => let ⟨v, w', r, s⟩ := h c cs; ⟨v, w', r, stepsIn_wide.2 s⟩⟩
          | _ => exact h.elim
        | halt x w' => cases x <;> exact h
      · exact absurd h hL
    · rename_i hw
      rw [if_neg hw] at h
      exact ⟨fun _ _ => trivial, h⟩
theorem wpAnyIn_of_wpAny (hL : ¬ LetsOut Q) : ∀ (fuel : Nat) (listed : Array Bool) (a : Act) (w : World), wpAny P md ops Q fuel listed a w → wpAnyIn Fence.wide n P md ops Q fuel listed a w
  | 0, _, _, _, h => h
  | fuel + 1, _, _, _, h => ⟨h.1, fun i hi => wpOpIn_of_wpOp hL (wpOp_mono (fun a w h => wpAnyIn_of_wpAny hL fuel _ a w h) (h.2 i hi))⟩
/-- A region with loads, inside a round: the loads are taken first, under S. -/
theorem wpIn_region_held_round {S : World → Prop} {id : Nat} {a : Act} {w : World} (hL : ¬ LetsOut Q) (hm : P.follows .mixedOrders = true) (hd : noDefer ops = true)
    (h : wpAnyH P .any ops Q S ops.size (Array.replicate ops.size false) a w.drew) : (Code.region id ops true).wpIn (Fence.wide.inRound l) n P Q a w :=
  wpIn_region_any hm (wpAnyIn_round rfl hd _ _ _ _ (wpAnyIn_of_wpAny hL _ _ _ _ (wpAny_of_held _ _ _ _ h)))
end
end Go.Proofs.YtocelmjncjompaaDoor
