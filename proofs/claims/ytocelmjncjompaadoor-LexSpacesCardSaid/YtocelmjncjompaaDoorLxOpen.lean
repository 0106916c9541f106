/- Arguments of the laws on tokens: a slice of tokens, opened to the cells that the walks read, and read again behind the call. -/
import Derived.Test.YtocelmjncjompaaDoorLxMem
import Derived.Test.YtocelmjncjompaaDoorLxCard
import Derived.Deep.Slices
import Derived.Deep.Fields
import Derived.ChangeSame
namespace Go.Proofs.YtocelmjncjompaaDoor
open Go.RowKit Go.WideShapes Go.ChangeShapes Go.Deep


section
variable {H : Type} {enc : TypeId × Value → H} {P : Program} {w : World} {base : Nat} {spare : Nat → Bool} {held : Bool}
theorem open_slice_fields {t e : TypeId} {fs : Array Field} {fuel : Nat} {cs : List Value} {x : DataW H × List MemPlace} (ht : P.underlying t = some (.slice e)) (he : P.underlying e = some (.struct fs))
    (hone : oneCellFields P fs = true) (hC : P.cellsOf e = fs.size) (h : DataW.trod enc P w base spare held fuel t cs = some x) :
    (cs = [.slice none 0 0] ∧ x = (.nil, [])) ∨
    ∃ (a : Addr) (len cap m : Nat) (D : Nat → DataW H) (Pl : Nat → List MemPlace), cs = [.slice (some a) len cap] ∧ base ≤ a.block ∧ len ≤ cap ∧ cap ≤ maxLen ∧ m = (if spare a.block then cap else len) ∧
      x = (.slice ((List.range len).map D) ((List.range (m - len)).map fun j => D (len + j)), MemPlace.row a (m * fs.size) ++ (List.range m).flatMap Pl) ∧
      ∀ i, i < m → ∃ (ys : List (DataW H × List MemPlace)) (n : Nat), D i = .agg (ys.map (·.1)) ∧ Pl i = ys.flatMap (·.2) ∧ ys.length = fs.size ∧
        ∀ (j : Nat) (f : Field), fs[j]? = some f → ∃ (v : Value) (y : DataW H × List MemPlace), w.cell? (a.add (i * fs.size + j)) = some v ∧ ys[j]? = some y ∧ DataW.trod enc P w base spare held n f.type [v] = some y := by
  rcases open_slice ht h with h0 | ⟨a, len, cap, m, n, D, Pl, hcs, hb, hl, hm, hmm, hx, hi⟩
  · exact .inl h0
  · refine .inr ⟨a, len, cap, m, D, Pl, hcs, hb, hl, hm, hmm, by rw [hC] at hx; exact hx, fun i him => ?_⟩
    obtain ⟨cs', hc, ht'⟩ := hi i him
    rw [hC] at hc
    obtain ⟨ys, n', hn', hy, hlen, hyl, hf⟩ := DataW.trod_struct he ht'
    obtain ⟨_, hcl, hat⟩ := World.cells?_some hc
    simp only [Prod.mk.injEq] at hy
    refine ⟨ys, n', hy.1, hy.2, hyl, fun j f hj => ?_⟩
    obtain ⟨ho, hk⟩ := hone_of hone j f hj
    have hjl : j < fs.size := (Array.getElem?_eq_some_iff.1 hj).1
    have hcell := hat j hjl
    have hv : cs'[j]? = some (cs'[j]'(by omega)) := List.getElem?_eq_getElem (by omega)
    have h1 := hf j f hj
    rw [ho, hk] at h1
    have hone' : (cs'.drop j).take 1 = [cs'[j]'(by omega)] := by
      rw [List.drop_eq_getElem_cons (by omega)]
      rfl
    rw [hone'] at h1
    have hys : ys[j]? = some (ys[j]'(by omega)) := List.getElem?_eq_getElem (by omega)
    refine ⟨_, _, ?_, hys, h1.trans hys⟩
    rw [← Go.Deep.add_add, hcell, hv]
end

theorem add_none (b o j : Nat) : (⟨b, o, none⟩ : Addr).add j = ⟨b, o + j, none⟩ := by unfold Addr.add; split <;> simp_all
theorem cell_spot {w : World} {a : Addr} {v : Value} (h : w.cell? a = some v) : a.spot = none := by
  unfold World.cell? at h
  split at h
  · split at h
    · cases h
    · rename_i h2; simpa using h2
  · cases h

section
variable {H : Type} {enc : TypeId × Value → H}
theorem weights_tok {x y n p : DataW H} {s : List UInt8} (hx : x = .lit (.string s)) (rest : List (DataW H)) (i : Nat) (hi : rest[i]? = some (.agg [y, x, n, p])) {B : Nat}
    (h : ∀ k ∈ DataW.weightsAll Tryd.prog 35 rest, k ≤ B) : s.length ≤ B := by
  subst hx
  induction rest generalizing i with
  | nil => simp at hi
  | cons d r ih =>
    simp only [DataW.weightsAll, List.mem_append] at h
    cases i with
    | zero =>
      simp only [List.getElem?_cons_zero, Option.some.injEq] at hi
      subst hi
      refine h _ (Or.inl ?_)
      unfold DataW.weights
      rw [Tryd.underlying35]
      simp [DataW.weightsEach, DataW.weights]
    | succ i => exact ih i (fun k hk => h k (Or.inr hk)) (by simpa using hi)

set_option maxRecDepth 100000 in
theorem open_toks {W : World} {b0 : Nat} {v : Value} {d : DataW H} {ps : List MemPlace} (hval : Value.okWide Tryd.prog W .any b0 23 v) (hd : DataW.Trod enc Tryd.prog W 0 (fun _ => true) true 23 v d ps)
    (hlt : ∀ x ∈ ps, x.block < W.heap.size) (hw : ∀ k ∈ d.weights Tryd.prog 23, k ≤ reachBytes) : ∃ A l c, v = .slice A l.length c ∧ Toks W W.heap.size A l := by
  obtain ⟨A, n, c, rfl⟩ := okWide_slice Tryd.underlying23 hval
  obtain ⟨fuel, hf⟩ := hd
  have hcs : (Value.slice A n c).cells.toList = [.slice A n c] := by simp [Value.cells]
  rw [hcs] at hf
  rcases open_slice_fields Tryd.underlying23 Tryd.underlying35 (by kernel_rfl) (by kernel_rfl) hf with ⟨h1, _⟩ | ⟨a, len, cap, m, D, Pl, h1, hb, hl, hm, hmm, hx, hfld⟩
  · injection h1 with h1
    injection h1 with e1 e2 e3
    subst e1; subst e2; subst e3
    exact ⟨none, [], 0, rfl, Toks.nil _ _ _⟩
  · injection h1 with h1
    injection h1 with e1 e2 e3
    subst e1; subst e2; subst e3
    rw [if_pos rfl] at hmm
    subst hmm
    simp only [Prod.mk.injEq] at hx
    obtain ⟨rfl, rfl⟩ := hx
    have hspot : 0 < m → a.spot = none := by
      intro hi
      obtain ⟨ys, k, _, _, _, hj⟩ := hfld 0 hi
      obtain ⟨w0, y0, c0, _⟩ := hj 0 _ rfl
      have e : a.add (0 * 4 + 0) = a := rfl
      exact cell_spot (e ▸ c0)
    have htok : ∀ i, i < m → ∃ t : Lx.Tok, D i = .agg [.lit (.int .i64 t.kind), .lit (.string t.text), .lit (.int .i64 t.n), .lit (.int .i64 t.pos)] ∧ TokAt W a.block (a.off + i * 4) t ∧ a.spot = none := by
      intro i hi
      obtain ⟨ys, k, hD, _, hylen, hj⟩ := hfld i hi
      obtain ⟨w0, y0, c0, g0, t0⟩ := hj 0 _ rfl
      obtain ⟨w1, y1, c1, g1, t1⟩ := hj 1 _ rfl
      obtain ⟨w2, y2, c2, g2, t2⟩ := hj 2 _ rfl
      obtain ⟨w3, y3, c3, g3, t3⟩ := hj 3 _ rfl
      obtain ⟨k0, q0, r0, _⟩ := DataW.trod_int Tryd.underlying3 t0
      obtain ⟨s1, q1, r1, _⟩ := DataW.trod_string Tryd.underlying9 t1
      obtain ⟨k2, q2, r2, _⟩ := DataW.trod_int Tryd.underlying3 t2
      obtain ⟨k3, q3, r3, _⟩ := DataW.trod_int Tryd.underlying3 t3
      injection q0 with q0; injection q1 with q1; injection q2 with q2; injection q3 with q3
      subst q0; subst q1; subst q2; subst q3; subst r0; subst r1; subst r2; subst r3
      have hys : ys = [(.lit (.int .i64 k0), []), (.lit (.string s1.data.toList), []), (.lit (.int .i64 k2), []), (.lit (.int .i64 k3), [])] := by
        match ys, hylen, g0, g1, g2, g3 with
        | [_, _, _, _], _, g0, g1, g2, g3 =>
          simp only [List.getElem?_cons_zero, List.getElem?_cons_succ, Option.some.injEq] at g0 g1 g2 g3
          rw [g0, g1, g2, g3]
      have hsp : a.spot = none := hspot (by omega)
      obtain ⟨ab, ao, asp⟩ := a
      simp only at hsp
      subst hsp
      rw [add_none] at c0 c1 c2 c3
      refine ⟨⟨k0, s1.data.toList, k2, k3⟩, by rw [hD, hys]; rfl, ⟨c0, ?_, c2, c3⟩, rfl⟩
      rw [Lx.bs_of]
      exact c1
    have hmb : m * 40 ≤ reachBytes := by
      unfold DataW.weights at hw
      rw [Tryd.underlying23] at hw
      have := hw _ (List.mem_cons_self ..)
      rw [show Tryd.prog.bytesOf 35 = 40 by kernel_rfl] at this
      simp only [List.length_map, List.length_range] at this
      have e : n + (m - n) = m := by omega
      rwa [e] at this
    have hws : ∀ k ∈ DataW.weightsAll Tryd.prog 35 ((List.range n).map D), k ≤ reachBytes := by
      intro k hk
      unfold DataW.weights at hw
      rw [Tryd.underlying23] at hw
      exact hw k (List.mem_cons_of_mem _ (List.mem_append_left _ hk))
    have hch : ∀ i : Nat, ∃ t : Lx.Tok, i < m → D i = .agg [.lit (.int .i64 t.kind), .lit (.string t.text), .lit (.int .i64 t.n), .lit (.int .i64 t.pos)] ∧ TokAt W a.block (a.off + i * 4) t ∧ a.spot = none := by
      intro i
      by_cases hi : i < m
      · obtain ⟨t, ht⟩ := htok i hi
        exact ⟨t, fun _ => ht⟩
      · exact ⟨⟨0, [], 0, 0⟩, fun h => absurd h hi⟩
    obtain ⟨T, hT⟩ := Classical.axiomOfChoice hch
    have hlen : ((List.range n).map T).length = n := by simp
    refine ⟨some a, (List.range n).map T, m, by rw [hlen], ⟨fun k t ht => ?_, by rw [hlen]; unfold reachBytes at hmb; omega, fun t ht => ?_⟩⟩
    · have hk : k < n := by
        have := (List.getElem?_eq_some_iff.1 ht).1
        rwa [hlen] at this
      have e : t = T k := by
        rw [List.getElem?_map, List.getElem?_range hk] at ht
        simpa using ht.symm
      subst e
      obtain ⟨_, h2, h3⟩ := hT k (by omega)
      have hab : a.block < W.heap.size := by
        have hc := h2.kind
        rcases Nat.lt_or_ge a.block W.heap.size with h | h
        · exact h
        · unfold World.cell? at hc
          simp only [Array.getElem?_eq_none h] at hc
          cases hc
      obtain ⟨ab, ao, asp⟩ := a
      simp only at h3
      subst h3
      exact ⟨ab, ao, rfl, hab, h2⟩
    · obtain ⟨i, hi, rfl⟩ := List.mem_map.1 ht
      have hi' : i < n := List.mem_range.1 hi
      obtain ⟨h1, _, _⟩ := hT i (by omega)
      have := weights_tok rfl _ i (by rw [List.getElem?_map, List.getElem?_range hi']; simp [h1]; exact ⟨rfl, rfl, rfl, rfl⟩) hws
      unfold reachBytes at this
      exact this

/-- A slice's address, below block B, from which on n bytes lie. -/
structure Byts (w : World) (B : Nat) (A : Option Addr) (n : Nat) : Prop where
  at_ : ∀ k, k < n → ∃ b o z, A = some ⟨b, o, none⟩ ∧ b < B ∧ w.cell? ⟨b, o + k, none⟩ = some (.int .u8 (z : Nat)) ∧ z < 256
  len : n ≤ 140737488351232
set_option maxRecDepth 100000 in
theorem open_bytes {W : World} {b0 : Nat} {v : Value} {d : DataW H} {ps : List MemPlace} (hval : Value.okWide Tryd.prog W .any b0 38 v) (hd : DataW.Trod enc Tryd.prog W 0 (fun _ => true) true 38 v d ps)
    (hlt : ∀ x ∈ ps, x.block < W.heap.size) (hw : ∀ k ∈ d.weights Tryd.prog 38, k ≤ reachBytes) : ∃ A n c, v = .slice A n c ∧ Byts W W.heap.size A n := by
  obtain ⟨A, n, c, rfl⟩ := okWide_slice Tryd.underlying38 hval
  obtain ⟨fuel, hf⟩ := hd
  have hcs : (Value.slice A n c).cells.toList = [.slice A n c] := by simp [Value.cells]
  rw [hcs] at hf
  rcases open_ints Tryd.underlying38 Tryd.underlying5 (by kernel_rfl) hf with ⟨h1, _⟩ | ⟨a, len, cap, zs, h1, hb, hl, hm, hz, hx, hcell, hwf⟩
  · injection h1 with h1
    injection h1 with e1 e2 e3
    subst e1; subst e2; subst e3
    exact ⟨none, 0, 0, rfl, ⟨fun k hk => absurd hk (by omega), by omega⟩⟩
  · injection h1 with h1
    injection h1 with e1 e2 e3
    subst e1; subst e2; subst e3
    rw [if_pos rfl] at hz
    simp only [Prod.mk.injEq] at hx
    obtain ⟨rfl, rfl⟩ := hx
    have hnb : n ≤ reachBytes := by
      unfold DataW.weights at hw
      rw [Tryd.underlying38] at hw
      have := hw _ (List.mem_cons_self ..)
      rw [show Tryd.prog.bytesOf 5 = 1 by kernel_rfl] at this
      simp only [lits, List.length_map, List.length_take, List.length_drop] at this
      omega
    refine ⟨some a, n, c, rfl, ⟨fun k hk => ?_, by unfold reachBytes at hnb; exact hnb⟩⟩
    have h0 := hcell 0 (by omega)
    have hsp : a.spot = none := cell_spot (show W.cell? a = _ from h0)
    obtain ⟨ab, ao, asp⟩ := a
    simp only at hsp
    subst hsp
    have hk1 := hcell k (by omega)
    rw [add_none] at hk1
    have hk2 := hwf (zs.getD k 0) (by rw [List.getD_eq_getElem?_getD, List.getElem?_eq_getElem (by omega)]; exact List.getElem_mem _)
    have hab : ab < W.heap.size := by
      rcases Nat.lt_or_ge ab W.heap.size with h | h
      · exact h
      · have h0' : W.cell? ⟨ab, ao, none⟩ = some (.int .u8 (zs.getD 0 0)) := h0
        unfold World.cell? at h0'
        simp only [Array.getElem?_eq_none h] at h0'
        cases h0'
    have hz0 : 0 ≤ zs.getD k 0 ∧ zs.getD k 0 < 256 := by
      have hk3 : (decide (IntKind.u8.min ≤ zs.getD k 0) && decide (zs.getD k 0 ≤ IntKind.u8.max)) = true := hk2
      rw [Bool.and_eq_true, decide_eq_true_eq, decide_eq_true_eq] at hk3
      have e1 : IntKind.u8.min = 0 := rfl
      have e2 : IntKind.u8.max = 255 := rfl
      omega
    obtain ⟨z, hz⟩ := Int.eq_ofNat_of_zero_le hz0.1
    exact ⟨ab, ao, z, rfl, hab, by rw [← hz]; exact hk1, by omega⟩
end
theorem Byts.below {w w' : World} {B B' : Nat} {A : Option Addr} {n : Nat} (h : Byts w B A n) (hb : Below B' w w') (hB : B ≤ B') : Byts w' B A n :=
  ⟨fun k hk => by
    obtain ⟨b, o, z, e, hlt, hc, hz⟩ := h.at_ k hk
    exact ⟨b, o, z, e, hlt, (hb.cell (p := ⟨b, o + k, none⟩) (show b < B' by omega)).trans hc, hz⟩, h.len⟩
end Go.Proofs.YtocelmjncjompaaDoor
