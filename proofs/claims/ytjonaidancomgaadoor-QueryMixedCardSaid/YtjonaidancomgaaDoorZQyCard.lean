/- Parts of the proof, joined into one text: QyCard, QyOpn, QyOpq. -/
import Derived.Test.YtjonaidancomgaaDoorZQyMem

namespace Go.Proofs.YtjonaidancomgaaDoor
open Go.ChangeShapes Go.WideShapes Go.ChangeAt Go.RowKit Go.WideMaps Go.ChangeMaps

set_option maxRecDepth 100000 in
theorem wit_metQ (os : Os) (args : Array Value) : laidMetH Tryd.prog Rows.queryMixedRow.laid (wit os args).memory :=
  laidMetH_of_parts3 (fuel := 8) (laidMet_of_run' 8 (by kernel_rfl) (by kernel_rfl)) (by kernel_rfl) (by kernel_rfl)
theorem envq_of_laid {W : World} (h : laidMet Tryd.prog Rows.queryMixedRow.laid W) : EnvQ W :=
  words_of_laid rfl h.tail.tail.tail.tail.tail (env_of_laid rfl h)
end Go.Proofs.YtjonaidancomgaaDoor

namespace Go.Proofs.YtjonaidancomgaaDoor
open Go.RowKit Go.WideShapes Go.ChangeShapes Go.Deep

section
variable {H : Type} {enc : TypeId × Value → H}
theorem weightsAll_mem {e : TypeId} {d : DataW H} {k : Nat} : ∀ {ds : List (DataW H)}, d ∈ ds → k ∈ d.weights Tryd.prog e → k ∈ DataW.weightsAll Tryd.prog e ds
  | [], h, _ => by simp at h
  | x :: r, h, hk => by
    simp only [DataW.weightsAll, List.mem_append]
    rcases List.mem_cons.1 h with rfl | h
    · exact .inl hk
    · exact .inr (weightsAll_mem h hk)
theorem open_rows {α : Type} [Inhabited α] {t e : TypeId} (C : α → List Value) (Dt : α → DataW H) (sz by_ : Nat) {W : World} {fuel : Nat} {A : Option Addr} {n c : Nat} {x : DataW H × List MemPlace}
    (ht : Tryd.prog.underlying t = some (.slice e)) (hC : Tryd.prog.cellsOf e = sz) (hsz : 0 < sz) (hby : Tryd.prog.bytesOf e = by_) (hb0 : 0 < by_) (hlen : ∀ a, (C a).length = sz)
    (hel : ∀ m cs y, DataW.trod enc Tryd.prog W 0 (fun _ => true) true m e cs = some y → ∃ a, cs = C a ∧ y.1 = Dt a)
    (hf : DataW.trod enc Tryd.prog W 0 (fun _ => true) true fuel t [.slice A n c] = some x) (hw : ∀ k ∈ x.1.weights Tryd.prog t, k ≤ reachBytes) :
    ∃ l : List α, n = l.length ∧ Lies W W.heap.size A sz (l.map C) ∧ ∀ a ∈ l, ∀ k ∈ (Dt a).weights Tryd.prog e, k ≤ reachBytes := by
  rcases open_slice ht hf with ⟨h1, _⟩ | ⟨a, len, cap, m, nf, D, Pl, h1, hb, hl, hm, hmm, hx, hi⟩
  · injection h1 with h1
    injection h1 with e1 e2 e3
    subst e1; subst e2; subst e3
    exact ⟨[], rfl, Lies.nil _ _ _ _, fun a ha => by simp at ha⟩
  · injection h1 with h1
    injection h1 with e1 e2 e3
    subst e1; subst e2; subst e3
    rw [if_pos rfl] at hmm
    subst hmm
    subst hx
    have hspot : 0 < m → a.spot = none := fun h0 => by
      obtain ⟨cs', hc, _⟩ := hi 0 h0
      rw [hC, Nat.zero_mul] at hc
      obtain ⟨_, hcl, hat⟩ := World.cells?_some hc
      have h00 := hat 0 hsz
      obtain ⟨v, hv⟩ : ∃ v, cs'[0]? = some v := ⟨_, List.getElem?_eq_getElem (by omega)⟩
      rw [hv] at h00
      exact cell_spot (a := a) h00
    have hch : ∀ i : Nat, ∃ z : α, i < m → D i = Dt z ∧ a.spot = none ∧ a.block < W.heap.size ∧ ∀ j v, (C z)[j]? = some v → W.cell? ⟨a.block, a.off + i * sz + j, none⟩ = some v := by
      intro i
      by_cases him : i < m
      · obtain ⟨cs', hc, ht'⟩ := hi i him
        rw [hC] at hc
        obtain ⟨z, hz1, hz2⟩ := hel _ _ _ ht'
        obtain ⟨_, hcl, hat⟩ := World.cells?_some hc
        subst hz1
        have h00 := hat 0 hsz
        have hv0 : (C z)[0]? = some ((C z)[0]'(by rw [hlen]; exact hsz)) := List.getElem?_eq_getElem _
        rw [hv0] at h00
        have hsp : a.spot = none := hspot (by omega)
        obtain ⟨ab, ao, asp⟩ := a
        simp only at hsp
        subst hsp
        refine ⟨z, fun _ => ⟨hz2, rfl, ?_, fun j v hj => ?_⟩⟩
        · rw [add_none, add_none] at h00
          rcases Nat.lt_or_ge ab W.heap.size with h | h
          · exact h
          · unfold World.cell? at h00
            simp only [Array.getElem?_eq_none h] at h00
            cases h00
        · have hj' : j < sz := by
            have := (List.getElem?_eq_some_iff.1 hj).1
            rw [hlen] at this
            exact this
          have := hat j hj'
          rw [add_none, add_none] at this
          rw [this, hj]
      · exact ⟨default, fun h => absurd h him⟩
    obtain ⟨T, hT⟩ := Classical.axiomOfChoice hch
    have hlenT : ((List.range n).map T).length = n := by simp
    unfold DataW.weights at hw
    rw [ht] at hw
    have hhead := hw _ (List.mem_cons_self ..)
    rw [hby] at hhead
    simp only [List.length_map, List.length_range] at hhead
    have hnr : n ≤ reachBytes := by
      have h2 : n * 1 ≤ (n + (m - n)) * by_ := Nat.mul_le_mul (by omega) hb0
      omega
    refine ⟨(List.range n).map T, hlenT.symm, ⟨fun k cs hk => ?_, by rw [List.length_map, hlenT]; unfold reachBytes at hnr; omega⟩, fun z hz k hk => ?_⟩
    · rw [List.getElem?_map, List.getElem?_map] at hk
      have hkn : k < n := by
        rcases Nat.lt_or_ge k n with h | h
        · exact h
        · rw [List.getElem?_eq_none (by simp; exact h)] at hk
          cases hk
      rw [List.getElem?_range hkn] at hk
      simp only [Option.map_some, Option.some.injEq] at hk
      subst hk
      obtain ⟨_, h2, h3, h4⟩ := hT k (by omega)
      obtain ⟨ab, ao, asp⟩ := a
      simp only at h2
      subst h2
      exact ⟨ab, ao, rfl, h3, h4⟩
    · obtain ⟨i, hi', rfl⟩ := List.mem_map.1 hz
      have hin : i < n := List.mem_range.1 hi'
      obtain ⟨h1, _⟩ := hT i (by omega)
      refine hw k (List.mem_cons_of_mem _ (List.mem_append_left _ (weightsAll_mem (d := D i) (List.mem_map.2 ⟨i, List.mem_range.2 hin, rfl⟩) ?_)))
      rw [h1]; exact hk

theorem el_str {W : World} (m : Nat) (cs : List Value) (y : DataW H × List MemPlace) (h : DataW.trod enc Tryd.prog W 0 (fun _ => true) true m 9 cs = some y) : ∃ a, cs = strC a ∧ y.1 = .lit (.string a) := by
  obtain ⟨s, e1, e2, _⟩ := DataW.trod_string Tryd.underlying9 h
  subst e1; subst e2
  exact ⟨s.data.toList, by unfold strC; rw [Lx.bs_of], rfl⟩
theorem el_int {W : World} (m : Nat) (cs : List Value) (y : DataW H × List MemPlace) (h : DataW.trod enc Tryd.prog W 0 (fun _ => true) true m 3 cs = some y) : ∃ a, cs = intC a ∧ y.1 = .lit (.int .i64 a) := by
  obtain ⟨s, e1, e2, _⟩ := DataW.trod_int Tryd.underlying3 h
  subst e1; subst e2
  exact ⟨s, rfl, rfl⟩
theorem el_arg {W : World} (m : Nat) (cs : List Value) (y : DataW H × List MemPlace) (h : DataW.trod enc Tryd.prog W 0 (fun _ => true) true m 40 cs = some y) : ∃ a, cs = argC a ∧ y.1 = .agg [.lit (.bool a.var), .lit (.int .i64 a.n)] := by
  obtain ⟨y0, y1, n, rfl, hl, h0, h1⟩ := trod_struct2 Tryd.underlying40 h
  rw [show Tryd.prog.cellsOf 40 = 2 by kernel_rfl] at hl
  simp only [show Tryd.prog.cellsOf 4 = 1 by kernel_rfl, show Tryd.prog.cellsOf 3 = 1 by kernel_rfl] at h0 h1
  obtain ⟨b, e1, e2⟩ := DataW.trod_bool Tryd.underlying4 h0
  obtain ⟨z, e3, e4, _⟩ := DataW.trod_int Tryd.underlying3 h1
  subst e2; subst e4
  match cs, hl, e1, e3 with
  | [u, v], _, e1, e3 =>
    simp at e1 e3
    subst e1; subst e3
    exact ⟨⟨b, z⟩, rfl, rfl⟩
def argD (a : Qy.Arg) : DataW H := .agg [.lit (.bool a.var), .lit (.int .i64 a.n)]
def atomD (x : Qy.Atom) : DataW H := .agg [.lit (.int .i64 x.kind), argD x.subj, argD x.obj, argD x.val, .lit (.int .i64 x.term), .lit (.int .i64 x.known)]
def testD (x : Qy.Test) : DataW H := .agg [.lit (.int .i64 x.op), argD x.a, argD x.b]
set_option maxRecDepth 100000 in
theorem el_atom {W : World} (m : Nat) (cs : List Value) (y : DataW H × List MemPlace) (h : DataW.trod enc Tryd.prog W 0 (fun _ => true) true m 43 cs = some y) : ∃ a, cs = atomC a ∧ y.1 = atomD a := by
  obtain ⟨ys, n, _, rfl, hl, hyl, hf⟩ := DataW.trod_struct Tryd.underlying43 h
  rw [show Tryd.prog.cellsOf 43 = 9 by kernel_rfl] at hl
  have h0 := hf 0 ⟨"Kind", 3, 0, false, "", "", 0⟩ rfl; have h1 := hf 1 ⟨"Subject", 40, 1, false, "", "", 8⟩ rfl; have h2 := hf 2 ⟨"Object", 40, 3, false, "", "", 24⟩ rfl; have h3 := hf 3 ⟨"Value", 40, 5, false, "", "", 40⟩ rfl; have h4 := hf 4 ⟨"Term", 3, 7, false, "", "", 56⟩ rfl; have h5 := hf 5 ⟨"Known", 3, 8, false, "", "", 64⟩ rfl
  simp only [show Tryd.prog.cellsOf 40 = 2 by kernel_rfl, show Tryd.prog.cellsOf 3 = 1 by kernel_rfl] at h0 h1 h2 h3 h4 h5
  match ys, hyl, h0, h1, h2, h3, h4, h5 with
  | [y0, y1, y2, y3, y4, y5], _, h0, h1, h2, h3, h4, h5 =>
    simp only [List.getElem?_cons_zero, List.getElem?_cons_succ] at h0 h1 h2 h3 h4 h5
    obtain ⟨k, e0, f0, _⟩ := DataW.trod_int Tryd.underlying3 h0
    obtain ⟨a1, e1, f1⟩ := el_arg _ _ _ h1
    obtain ⟨a2, e2, f2⟩ := el_arg _ _ _ h2
    obtain ⟨a3, e3, f3⟩ := el_arg _ _ _ h3
    obtain ⟨z4, e4, f4, _⟩ := DataW.trod_int Tryd.underlying3 h4
    obtain ⟨z5, e5, f5, _⟩ := DataW.trod_int Tryd.underlying3 h5
    match cs, hl, e0, e1, e2, e3, e4, e5 with
    | [c0, c1, c2, c3, c4, c5, c6, c7, c8], _, e0, e1, e2, e3, e4, e5 =>
      simp [argC] at e0 e1 e2 e3 e4 e5
      obtain ⟨rfl, rfl⟩ := e1
      obtain ⟨rfl, rfl⟩ := e2
      obtain ⟨rfl, rfl⟩ := e3
      subst e0; subst e4; subst e5
      refine ⟨⟨k, a1, a2, a3, z4, z5⟩, rfl, ?_⟩
      simp [f0, f1, f2, f3, f4, f5, atomD, argD]
set_option maxRecDepth 100000 in
theorem el_test {W : World} (m : Nat) (cs : List Value) (y : DataW H × List MemPlace) (h : DataW.trod enc Tryd.prog W 0 (fun _ => true) true m 45 cs = some y) : ∃ a, cs = testC a ∧ y.1 = testD a := by
  obtain ⟨ys, n, _, rfl, hl, hyl, hf⟩ := DataW.trod_struct Tryd.underlying45 h
  rw [show Tryd.prog.cellsOf 45 = 5 by kernel_rfl] at hl
  have h0 := hf 0 ⟨"Op", 3, 0, false, "", "", 0⟩ rfl; have h1 := hf 1 ⟨"A", 40, 1, false, "", "", 8⟩ rfl; have h2 := hf 2 ⟨"B", 40, 3, false, "", "", 24⟩ rfl
  simp only [show Tryd.prog.cellsOf 40 = 2 by kernel_rfl, show Tryd.prog.cellsOf 3 = 1 by kernel_rfl] at h0 h1 h2
  match ys, hyl, h0, h1, h2 with
  | [y0, y1, y2], _, h0, h1, h2 =>
    simp only [List.getElem?_cons_zero, List.getElem?_cons_succ] at h0 h1 h2
    obtain ⟨k, e0, f0, _⟩ := DataW.trod_int Tryd.underlying3 h0
    obtain ⟨a1, e1, f1⟩ := el_arg _ _ _ h1
    obtain ⟨a2, e2, f2⟩ := el_arg _ _ _ h2
    match cs, hl, e0, e1, e2 with
    | [c0, c1, c2, c3, c4], _, e0, e1, e2 =>
      simp [argC] at e0 e1 e2
      obtain ⟨rfl, rfl⟩ := e1
      obtain ⟨rfl, rfl⟩ := e2
      subst e0
      refine ⟨⟨k, a1, a2⟩, rfl, ?_⟩
      simp [f0, f1, f2, testD, argD]
end
end Go.Proofs.YtjonaidancomgaaDoor

namespace Go.Proofs.YtjonaidancomgaaDoor
open Go.RowKit Go.WideShapes Go.ChangeShapes Go.Deep

section
variable {H : Type} {enc : TypeId × Value → H}
theorem slice_of {t e : TypeId} {W : World} {fuel : Nat} {v : Value} {x : DataW H × List MemPlace} (ht : Tryd.prog.underlying t = some (.slice e)) (h : DataW.trod enc Tryd.prog W 0 (fun _ => true) true fuel t [v] = some x) : ∃ A n c, v = .slice A n c := by
  rcases open_slice ht h with ⟨h1, _⟩ | ⟨a, len, cap, m, nf, D, Pl, h1, _⟩
  · injection h1 with h1
    exact ⟨none, 0, 0, h1⟩
  · injection h1 with h1
    exact ⟨some a, len, cap, h1⟩
theorem cap_of {t e : TypeId} {W : World} {fuel : Nat} {A : Option Addr} {n c : Nat} {x : DataW H × List MemPlace} (ht : Tryd.prog.underlying t = some (.slice e)) (h : DataW.trod enc Tryd.prog W 0 (fun _ => true) true fuel t [.slice A n c] = some x) : n ≤ c := by
  rcases open_slice ht h with ⟨h1, _⟩ | ⟨a, len, cap, m, nf, D, Pl, h1, _, hl, _⟩
  · injection h1 with h1
    injection h1 with e1 e2 e3
    omega
  · injection h1 with h1
    injection h1 with e1 e2 e3
    omega
instance : Inhabited Qy.Arg := ⟨⟨false, 0⟩⟩
instance : Inhabited Qy.Atom := ⟨⟨0, default, default, default, 0, 0⟩⟩
instance : Inhabited Qy.Test := ⟨⟨0, default, default⟩⟩
set_option maxRecDepth 100000 in
theorem open_query2 {W : World} {b0 : Nat} {v : Value} {d : DataW H} {ps : List MemPlace} (hval : Value.okWide Tryd.prog W .any b0 27 v) (hd : DataW.Trod enc Tryd.prog W 0 (fun _ => true) true 27 v d ps)
    (hw : ∀ k ∈ d.weights Tryd.prog 27, k ≤ reachBytes) : ∃ (q : Qy.Query) (A0 : Option Addr) (c0 : Nat) (A1 : Option Addr) (c1 : Nat) (A2 : Option Addr) (c2 : Nat) (A3 : Option Addr) (c3 : Nat), v = .agg #[.slice A0 q.names.length c0, .slice A1 q.shown.length c1, .slice A2 q.atoms.length c2, .slice A3 q.tests.length c3] ∧
      Lies W W.heap.size A0 1 (q.names.map strC) ∧ Lies W W.heap.size A1 1 (q.shown.map intC) ∧ Lies W W.heap.size A2 9 (q.atoms.map atomC) ∧ Lies W W.heap.size A3 5 (q.tests.map testC) ∧ (∀ n ∈ q.names, n.length ≤ 140737488351232) ∧ q.atoms.length ≤ c2 ∧ q.tests.length ≤ c3 := by
  obtain ⟨cs, rfl, hsz⟩ := okWide_struct Tryd.underlying27 hval
  rw [show Tryd.prog.cellsOf 27 = 4 by kernel_rfl] at hsz
  obtain ⟨l⟩ := cs
  match l, hsz with
  | [v0, v1, v2, v3], _ =>
    obtain ⟨fuel, hf⟩ := hd
    have hcs : (Value.agg #[v0, v1, v2, v3]).cells.toList = [v0, v1, v2, v3] := by simp [Value.cells]
    rw [hcs] at hf
    obtain ⟨ys, n, _, hy, hl, hyl, hg⟩ := DataW.trod_struct Tryd.underlying27 hf
    have h0 := hg 0 ⟨"Names", 22, 0, false, "", "", 0⟩ rfl; have h1 := hg 1 ⟨"Show", 23, 1, false, "", "", 24⟩ rfl; have h2 := hg 2 ⟨"Atoms", 24, 2, false, "", "", 48⟩ rfl; have h3 := hg 3 ⟨"Tests", 25, 3, false, "", "", 72⟩ rfl
    simp only [show Tryd.prog.cellsOf 22 = 1 by kernel_rfl, show Tryd.prog.cellsOf 23 = 1 by kernel_rfl, show Tryd.prog.cellsOf 24 = 1 by kernel_rfl, show Tryd.prog.cellsOf 25 = 1 by kernel_rfl] at h0 h1 h2 h3
    match ys, hyl, h0, h1, h2, h3 with
    | [y0, y1, y2, y3], _, g0, g1, g2, g3 =>
      simp only [List.getElem?_cons_zero, List.getElem?_cons_succ, List.drop_zero, List.drop_succ_cons, List.take_succ_cons, List.take_zero] at g0 g1 g2 g3
      simp only [Prod.mk.injEq] at hy
      obtain ⟨rfl, _⟩ := hy
      have hall : ∀ k, (k ∈ y0.1.weights Tryd.prog 22 ∨ k ∈ y1.1.weights Tryd.prog 23 ∨ k ∈ y2.1.weights Tryd.prog 24 ∨ k ∈ y3.1.weights Tryd.prog 25) → k ≤ reachBytes := fun k hk => by
        refine hw k ?_
        unfold DataW.weights
        rw [Tryd.underlying27]
        simp only [List.map_cons, List.map_nil, DataW.weightsEach, List.mem_append]
        rcases hk with h | h | h | h
        · exact .inl h
        · exact .inr (.inl h)
        · exact .inr (.inr (.inl h))
        · exact .inr (.inr (.inr (.inl h)))
      obtain ⟨A0, n0, c0, rfl⟩ := slice_of Tryd.underlying22 g0
      obtain ⟨A1, n1, c1, rfl⟩ := slice_of Tryd.underlying23 g1
      obtain ⟨A2, n2, c2, rfl⟩ := slice_of Tryd.underlying24 g2
      obtain ⟨A3, n3, c3, rfl⟩ := slice_of Tryd.underlying25 g3
      obtain ⟨l0, rfl, r0, t0⟩ := open_rows strC (fun a => .lit (.string a)) 1 16 Tryd.underlying22 (by kernel_rfl) (by omega) (by kernel_rfl) (by omega) (fun _ => rfl) el_str g0 (fun k hk => hall k (.inl hk))
      obtain ⟨l1, rfl, r1, _⟩ := open_rows intC (fun a => .lit (.int .i64 a)) 1 8 Tryd.underlying23 (by kernel_rfl) (by omega) (by kernel_rfl) (by omega) (fun _ => rfl) el_int g1 (fun k hk => hall k (.inr (.inl hk)))
      obtain ⟨l2, rfl, r2, _⟩ := open_rows atomC atomD 9 72 Tryd.underlying24 (by kernel_rfl) (by omega) (by kernel_rfl) (by omega) (fun _ => rfl) el_atom g2 (fun k hk => hall k (.inr (.inr (.inl hk))))
      obtain ⟨l3, rfl, r3, _⟩ := open_rows testC testD 5 40 Tryd.underlying25 (by kernel_rfl) (by omega) (by kernel_rfl) (by omega) (fun _ => rfl) el_test g3 (fun k hk => hall k (.inr (.inr (.inr hk))))
      refine ⟨⟨l0, l1, l2, l3⟩, A0, c0, A1, c1, A2, c2, A3, c3, rfl, r0, r1, r2, r3, fun n hn => ?_, cap_of Tryd.underlying24 g2, cap_of Tryd.underlying25 g3⟩
      have := t0 n hn n.length (by simp [DataW.weights])
      unfold reachBytes at this
      exact this
set_option maxRecDepth 100000 in
theorem open_query {W : World} {b0 : Nat} {v : Value} {d : DataW H} {ps : List MemPlace} (hval : Value.okWide Tryd.prog W .any b0 27 v) (hd : DataW.Trod enc Tryd.prog W 0 (fun _ => true) true 27 v d ps)
    (hw : ∀ k ∈ d.weights Tryd.prog 27, k ≤ reachBytes) : ∃ q, QAt W W.heap.size v q := by
  obtain ⟨q, A0, c0, A1, c1, A2, c2, A3, c3, h, r0, r1, r2, r3, htx, _⟩ := open_query2 hval hd hw
  exact ⟨q, ⟨A0, c0, A1, c1, A2, c2, A3, c3, h, r0, r1, r2, r3⟩, htx⟩
end
end Go.Proofs.YtjonaidancomgaaDoor
