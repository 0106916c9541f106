/- Parts of the proof, joined into one text: QyBck, QyOpn, QyOpq. -/
import Derived.Test.YtocelmjncjompaaDoorZQySane
import Derived.Test.YtocelmjncjompaaDoorZLxM
import Derived.Test.YtocelmjncjompaaDoorZLxCard

namespace Go.Proofs.YtocelmjncjompaaDoor
open Go.RowKit

theorem print_bad {q : Qy.Query} (h : Qy.valid q = false) : Qy.printR q = (⟨#[]⟩, 500) := by
  unfold Qy.printR
  rw [h]; rfl

set_option maxRecDepth 20000 in
set_option maxHeartbeats 4000000 in
theorem lBackQ (v : Value) (q : Qy.Query) (w : World) (he : EnvQ w) (h : QAt w w.heap.size v q) : Calls Tryd.prog 10 #[v] w (TruePost w) := by
  obtain ⟨⟨A0, c0, A1, c1, A2, c2, A3, c3, hv1, hr1⟩, htx1⟩ := h
  subst hv1
  have t0 : QAt w w.heap.size (.agg #[.slice A0 q.names.length c0, .slice A1 q.shown.length c1, .slice A2 q.atoms.length c2, .slice A3 q.tests.length c3]) q := ⟨⟨A0, c0, A1, c1, A2, c2, A3, c3, rfl, hr1⟩, htx1⟩
  have T0 := Lib.hid t0
  obtain ⟨m0, hm0⟩ : ∃ m0, m0 = q.names.length := ⟨_, rfl⟩
  obtain ⟨m1, hm1⟩ : ∃ m1, m1 = q.shown.length := ⟨_, rfl⟩
  obtain ⟨m2, hm2⟩ : ∃ m2, m2 = q.atoms.length := ⟨_, rfl⟩
  obtain ⟨m3, hm3⟩ : ∃ m3, m3 = q.tests.length := ⟨_, rfl⟩
  rw [← hm0, ← hm1, ← hm2, ← hm3] at T0 ⊢
  clear t0 hr1 htx1 hm0 hm1 hm2 hm3
  have HE := Lib.hid he
  clear he
  go_enter Tryd.func10, Tryd.ntmps10
  go_wp2_with fail
  obtain ⟨W0, hW0⟩ : ∃ W0, W0 = w.alloc (.cells #[.slice A0 m0 c0, .slice A1 m1 c1, .slice A2 m2 c2, .slice A3 m3 c3] 46) := ⟨_, rfl⟩
  rw [← hW0]
  have b0 : Below w.heap.size w W0 := by rw [hW0]; exact (Below.refl _ _).alloc (Nat.le_refl _) _
  have x0 : Blk W0 w.heap.size 46 #[.slice A0 m0 c0, .slice A1 m1 c1, .slice A2 m2 c2, .slice A3 m3 c3] := by rw [hW0]; exact Blk.new _ _ _
  have z0 : W0.heap.size = w.heap.size + 1 := by rw [hW0]; simp
  clear hW0
  refine (lSaneQ W0 (HE.out.next b0)).mono ?_
  rintro e W1 ⟨rfl, b1⟩
  have z1 := b1.size
  have x1 := x0.below b1 (by omega)
  have X1 := Lib.hid x1; have T1 := Lib.hid ((T0.out.later b0 (by omega)).later b1 z1); have B1 := Lib.hid (b0.trans (b1.mono (by omega)))
  have q0 := x1.cell 0; have q1 := x1.cell 1; have q2 := x1.cell 2; have q3 := x1.cell 3
  simp at q0 q1 q2 q3
  have hN1 : w.heap.size < W1.heap.size := by omega
  clear b0 b1 x0 x1 T0
  go_wp2_with fail
  clear q0 q1 q2 q3
  have hfew := rQFew _ q W1 T1.out
  have Hfew := Lib.hid hfew
  clear hfew
  cases hf : Qy.few q with
  | false =>
    rw [hf] at Hfew
    refine Hfew.out.mono ?_
    rintro e W2 ⟨rfl, b2⟩
    have B2 := Lib.hid (B1.out.trans (b2.mono (by omega)))
    clear b2
    go_wp2_with fail
    go_ret
    exact ⟨rfl, B2.out⟩
  | true =>
    rw [hf] at Hfew
    refine Hfew.out.mono ?_
    rintro e W2 ⟨rfl, b2⟩
    have z2 := b2.size
    have x2 := X1.out.below b2 (by omega)
    have X2 := Lib.hid x2; have T2 := Lib.hid (T1.out.later b2 z2); have B2 := Lib.hid (B1.out.trans (b2.mono (by omega)))
    have q0 := x2.cell 0; have q1 := x2.cell 1; have q2 := x2.cell 2; have q3 := x2.cell 3
    simp at q0 q1 q2 q3
    clear b2 x2 X1 T1 B1 Hfew hf
    go_wp2_with fail
    clear q0 q1 q2 q3
    refine (lPrint _ q W2 (HE.out.next B2.out) T2.out).mono ?_
    rintro e W3 ⟨rfl, b3⟩
    have z3 := b3.size
    have x3 := X2.out.below b3 (by omega)
    have X3 := Lib.hid x3; have T3 := Lib.hid (T2.out.later b3 z3); have B3 := Lib.hid (B2.out.trans (b3.mono (by omega)))
    have q0 := x3.cell 0; have q1 := x3.cell 1; have q2 := x3.cell 2; have q3 := x3.cell 3
    simp at q0 q1 q2 q3
    clear b3 x3 X2 T2 B2
    cases hv : Qy.valid q with
    | false =>
      rw [print_bad hv]
      have Hv := Lib.hid hv
      clear hv
      go_wp2_with fail
      clear q0 q1 q2 q3
      refine (lCheck _ q W3 (HE.out.next B3.out) T3.out).mono ?_
      rintro e W4 ⟨rfl, b4⟩
      rw [Hv.out, if_neg (by simp)]
      have z4 := b4.size
      have x4 := X3.out.below b4 (by omega)
      have T4 := Lib.hid (T3.out.later b4 z4); have B4 := Lib.hid (B3.out.trans (b4.mono (by omega)))
      have q0 := x4.cell 0; have q1 := x4.cell 1; have q2 := x4.cell 2; have q3 := x4.cell 3
      simp at q0 q1 q2 q3
      clear b4 x4 X3 T3 B3
      go_wp2_with fail
      clear q0 q1 q2 q3
      refine (lCheck _ q W4 (HE.out.next B4.out) T4.out).mono ?_
      rintro e W5 ⟨rfl, b5⟩
      rw [Hv.out, if_neg (by simp)]
      have B5 := Lib.hid (B4.out.trans (b5.mono (by omega)))
      clear b5
      go_wp2_with fail
      go_ret
      exact ⟨rfl, B5.out⟩
    | true =>
      obtain ⟨t, ht1, ht2, ht3⟩ := Qy.print_parse hv
      have htm : (Lx.bs t).size ≤ maxLen := by rw [Lx.bs_size]; unfold maxLen; omega
      have hp2 : Qy.parse (Lx.bs t).data.toList = .ok q := by rw [Lx.bs_list]; exact ht2
      rw [ht1]
      have Hv := Lib.hid hv; have Hp2 := Lib.hid hp2
      clear hv ht1 ht2 hp2
      go_wp2_with fail
      clear q0 q1 q2 q3
      refine (lCheck _ q W3 (HE.out.next B3.out) T3.out).mono ?_
      rintro e W4 ⟨rfl, b4⟩
      rw [Hv.out, if_pos rfl]
      have z4 := b4.size
      have X4 := Lib.hid (X3.out.below b4 (by omega))
      have T4 := Lib.hid (T3.out.later b4 z4); have B4 := Lib.hid (B3.out.trans (b4.mono (by omega)))
      clear b4 X3 T3 B3
      go_wp2_with fail
      refine (parse_ok_call _ q Hp2.out W4 htm (HE.out.next B4.out)).mono ?_
      rintro e W5 ⟨v2, rfl, t5, b5⟩
      have z5 := b5.size
      obtain ⟨⟨D0, e0, D1, e1, D2, e2, D3, e3, hv2, hr2⟩, htx2⟩ := t5
      subst hv2
      have t5 : QAt W5 W5.heap.size (.agg #[.slice D0 q.names.length e0, .slice D1 q.shown.length e1, .slice D2 q.atoms.length e2, .slice D3 q.tests.length e3]) q := ⟨⟨D0, e0, D1, e1, D2, e2, D3, e3, rfl, hr2⟩, htx2⟩
      have U5 := Lib.hid t5
      obtain ⟨n0, hn0⟩ : ∃ n0, n0 = q.names.length := ⟨_, rfl⟩
      obtain ⟨n1, hn1⟩ : ∃ n1, n1 = q.shown.length := ⟨_, rfl⟩
      obtain ⟨n2, hn2⟩ : ∃ n2, n2 = q.atoms.length := ⟨_, rfl⟩
      obtain ⟨n3, hn3⟩ : ∃ n3, n3 = q.tests.length := ⟨_, rfl⟩
      rw [← hn0, ← hn1, ← hn2, ← hn3] at U5 ⊢
      obtain ⟨W6, hW6⟩ : ∃ W6, W6 = W5.alloc (.cells #[.slice D0 n0 e0, .slice D1 n1 e1, .slice D2 n2 e2, .slice D3 n3 e3] 46) := ⟨_, rfl⟩
      have b6 : Below W5.heap.size W5 W6 := by rw [hW6]; exact (Below.refl _ _).alloc (Nat.le_refl _) _
      have z6 : W6.heap.size = W5.heap.size + 1 := by rw [hW6]; simp
      have x6 := (X4.out.below b5 (by omega)).below b6 (by omega)
      have T6 := Lib.hid ((T4.out.later b5 z5).later b6 (by omega)); have U6 := Lib.hid (U5.out.later b6 (by omega)); have B6 := Lib.hid ((B4.out.trans (b5.mono (by omega))).trans (b6.mono (by omega)))
      have HW6 := Lib.hid hW6
      have q0 := x6.cell 0; have q1 := x6.cell 1; have q2 := x6.cell 2; have q3 := x6.cell 3
      rw [hW6] at q0 q1 q2 q3
      simp at q0 q1 q2 q3
      have hN6 : w.heap.size < W5.heap.size + 1 := by omega
      clear b5 t5 hr2 htx2 hn0 hn1 hn2 hn3 b6 x6 hW6 U5 T4 X4
      go_wp2_with fail
      rw [← HW6.out]
      clear q0 q1 q2 q3
      refine (rQSame _ _ q q W6 U6.out T6.out).mono ?_
      rintro e W7 ⟨rfl, b7⟩
      rw [decide_eq_true rfl]
      have B7 := Lib.hid (B6.out.trans (b7.mono (by omega)))
      clear b7
      go_wp2_with fail
      go_ret
      exact ⟨rfl, B7.out⟩
end Go.Proofs.YtocelmjncjompaaDoor

namespace Go.Proofs.YtocelmjncjompaaDoor
open Go.RowKit Go.WideShapes Go.ChangeShapes Go.Deep

section
variable {H : Type} {enc : TypeId × Value → H}
theorem weightsAll_mem {e : TypeId} {d : DataW H} {k : Nat} : ∀ {ds : List (DataW H)}, d ∈ ds → k ∈ d.weights Tryd.prog e → k ∈ DataW.weightsAll Tryd.prog e ds
  | [], h, _ => by simp at h
  | x :: r, h, hk => by
    simp only [DataW.weightsAll, List.mem_append]
    rcases List.mem_cons.1 h with rfl | h
    · exact .inl hk
    · exact .inr (weightsAll_mem h hk)
theorem open_rows {α : Type} [Inhabited α] {t e : TypeId} (C : α → List Value) (Dt : α → DataW H) (sz by_ : Nat) {W : World} {fuel : Nat} {A : Option Addr} {n c : Nat} {x : DataW H × List MemPlace}
    (ht : Tryd.prog.underlying t = some (.slice e)) (hC : Tryd.prog.cellsOf e = sz) (hsz : 0 < sz) (hby : Tryd.prog.bytesOf e = by_) (hb0 : 0 < by_) (hlen : ∀ a, (C a).length = sz)
    (hel : ∀ m cs y, DataW.trod enc Tryd.prog W 0 (fun _ => true) true m e cs = some y → ∃ a, cs = C a ∧ y.1 = Dt a)
    (hf : DataW.trod enc Tryd.prog W 0 (fun _ => true) true fuel t [.slice A n c] = some x) (hw : ∀ k ∈ x.1.weights Tryd.prog t, k ≤ reachBytes) :
    ∃ l : List α, n = l.length ∧ Lies W W.heap.size A sz (l.map C) ∧ ∀ a ∈ l, ∀ k ∈ (Dt a).weights Tryd.prog e, k ≤ reachBytes := by
  rcases open_slice ht hf with ⟨h1, _⟩ | ⟨a, len, cap, m, nf, D, Pl, h1, hb, hl, hm, hmm, hx, hi⟩
  · injection h1 with h1
    injection h1 with e1 e2 e3
    subst e1; subst e2; subst e3
    exact ⟨[], rfl, Lies.nil _ _ _ _, fun a ha => by simp at ha⟩
  · injection h1 with h1
    injection h1 with e1 e2 e3
    subst e1; subst e2; subst e3
    rw [if_pos rfl] at hmm
    subst hmm
    subst hx
    have hspot : 0 < m → a.spot = none := fun h0 => by
      obtain ⟨cs', hc, _⟩ := hi 0 h0
      rw [hC, Nat.zero_mul] at hc
      obtain ⟨_, hcl, hat⟩ := World.cells?_some hc
      have h00 := hat 0 hsz
      obtain ⟨v, hv⟩ : ∃ v, cs'[0]? = some v := ⟨_, List.getElem?_eq_getElem (by omega)⟩
      rw [hv] at h00
      exact cell_spot (a := a) h00
    have hch : ∀ i : Nat, ∃ z : α, i < m → D i = Dt z ∧ a.spot = none ∧ a.block < W.heap.size ∧ ∀ j v, (C z)[j]? = some v → W.cell? ⟨a.block, a.off + i * sz + j, none⟩ = some v := by
      intro i
      by_cases him : i < m
      · obtain ⟨cs', hc, ht'⟩ := hi i him
        rw [hC] at hc
        obtain ⟨z, hz1, hz2⟩ := hel _ _ _ ht'
        obtain ⟨_, hcl, hat⟩ := World.cells?_some hc
        subst hz1
        have h00 := hat 0 hsz
        have hv0 : (C z)[0]? = some ((C z)[0]'(by rw [hlen]; exact hsz)) := List.getElem?_eq_getElem _
        rw [hv0] at h00
        have hsp : a.spot = none := hspot (by omega)
        obtain ⟨ab, ao, asp⟩ := a
        simp only at hsp
        subst hsp
        refine ⟨z, fun _ => ⟨hz2, rfl, ?_, fun j v hj => ?_⟩⟩
        · rw [add_none, add_none] at h00
          rcases Nat.lt_or_ge ab W.heap.size with h | h
          · exact h
          · unfold World.cell? at h00
            simp only [Array.getElem?_eq_none h] at h00
            cases h00
        · have hj' : j < sz := by
            have := (List.getElem?_eq_some_iff.1 hj).1
            rw [hlen] at this
            exact this
          have := hat j hj'
          rw [add_none, add_none] at this
          rw [this, hj]
      · exact ⟨default, fun h => absurd h him⟩
    obtain ⟨T, hT⟩ := Classical.axiomOfChoice hch
    have hlenT : ((List.range n).map T).length = n := by simp
    unfold DataW.weights at hw
    rw [ht] at hw
    have hhead := hw _ (List.mem_cons_self ..)
    rw [hby] at hhead
    simp only [List.length_map, List.length_range] at hhead
    have hnr : n ≤ reachBytes := by
      have h2 : n * 1 ≤ (n + (m - n)) * by_ := Nat.mul_le_mul (by omega) hb0
      omega
    refine ⟨(List.range n).map T, hlenT.symm, ⟨fun k cs hk => ?_, by rw [List.length_map, hlenT]; unfold reachBytes at hnr; omega⟩, fun z hz k hk => ?_⟩
    · rw [List.getElem?_map, List.getElem?_map] at hk
      have hkn : k < n := by
        rcases Nat.lt_or_ge k n with h | h
        · exact h
        · rw [List.getElem?_eq_none (by simp; exact h)] at hk
          cases hk
      rw [List.getElem?_range hkn] at hk
      simp only [Option.map_some, Option.some.injEq] at hk
      subst hk
      obtain ⟨_, h2, h3, h4⟩ := hT k (by omega)
      obtain ⟨ab, ao, asp⟩ := a
      simp only at h2
      subst h2
      exact ⟨ab, ao, rfl, h3, h4⟩
    · obtain ⟨i, hi', rfl⟩ := List.mem_map.1 hz
      have hin : i < n := List.mem_range.1 hi'
      obtain ⟨h1, _⟩ := hT i (by omega)
      refine hw k (List.mem_cons_of_mem _ (List.mem_append_left _ (weightsAll_mem (d := D i) (List.mem_map.2 ⟨i, List.mem_range.2 hin, rfl⟩) ?_)))
      rw [h1]; exact hk

theorem el_str {W : World} (m : Nat) (cs : List Value) (y : DataW H × List MemPlace) (h : DataW.trod enc Tryd.prog W 0 (fun _ => true) true m 9 cs = some y) : ∃ a, cs = strC a ∧ y.1 = .lit (.string a) := by
  obtain ⟨s, e1, e2, _⟩ := DataW.trod_string Tryd.underlying9 h
  subst e1; subst e2
  exact ⟨s.data.toList, by unfold strC; rw [Lx.bs_of], rfl⟩
theorem el_int {W : World} (m : Nat) (cs : List Value) (y : DataW H × List MemPlace) (h : DataW.trod enc Tryd.prog W 0 (fun _ => true) true m 3 cs = some y) : ∃ a, cs = intC a ∧ y.1 = .lit (.int .i64 a) := by
  obtain ⟨s, e1, e2, _⟩ := DataW.trod_int Tryd.underlying3 h
  subst e1; subst e2
  exact ⟨s, rfl, rfl⟩
theorem el_arg {W : World} (m : Nat) (cs : List Value) (y : DataW H × List MemPlace) (h : DataW.trod enc Tryd.prog W 0 (fun _ => true) true m 73 cs = some y) : ∃ a, cs = argC a ∧ y.1 = .agg [.lit (.bool a.var), .lit (.int .i64 a.n)] := by
  obtain ⟨y0, y1, n, rfl, hl, h0, h1⟩ := trod_struct2 Tryd.underlying73 h
  rw [show Tryd.prog.cellsOf 73 = 2 by kernel_rfl] at hl
  simp only [show Tryd.prog.cellsOf 4 = 1 by kernel_rfl, show Tryd.prog.cellsOf 3 = 1 by kernel_rfl] at h0 h1
  obtain ⟨b, e1, e2⟩ := DataW.trod_bool Tryd.underlying4 h0
  obtain ⟨z, e3, e4, _⟩ := DataW.trod_int Tryd.underlying3 h1
  subst e2; subst e4
  match cs, hl, e1, e3 with
  | [u, v], _, e1, e3 =>
    simp at e1 e3
    subst e1; subst e3
    exact ⟨⟨b, z⟩, rfl, rfl⟩
def argD (a : Qy.Arg) : DataW H := .agg [.lit (.bool a.var), .lit (.int .i64 a.n)]
def atomD (x : Qy.Atom) : DataW H := .agg [.lit (.int .i64 x.kind), argD x.subj, argD x.obj, argD x.val, .lit (.int .i64 x.term), .lit (.int .i64 x.known)]
def testD (x : Qy.Test) : DataW H := .agg [.lit (.int .i64 x.op), argD x.a, argD x.b]
set_option maxRecDepth 100000 in
theorem el_atom {W : World} (m : Nat) (cs : List Value) (y : DataW H × List MemPlace) (h : DataW.trod enc Tryd.prog W 0 (fun _ => true) true m 76 cs = some y) : ∃ a, cs = atomC a ∧ y.1 = atomD a := by
  obtain ⟨ys, n, _, rfl, hl, hyl, hf⟩ := DataW.trod_struct Tryd.underlying76 h
  rw [show Tryd.prog.cellsOf 76 = 9 by kernel_rfl] at hl
  have h0 := hf 0 ⟨"Kind", 3, 0, false, "", "", 0⟩ rfl; have h1 := hf 1 ⟨"Subject", 73, 1, false, "", "", 8⟩ rfl; have h2 := hf 2 ⟨"Object", 73, 3, false, "", "", 24⟩ rfl; have h3 := hf 3 ⟨"Value", 73, 5, false, "", "", 40⟩ rfl; have h4 := hf 4 ⟨"Term", 3, 7, false, "", "", 56⟩ rfl; have h5 := hf 5 ⟨"Known", 3, 8, false, "", "", 64⟩ rfl
  simp only [show Tryd.prog.cellsOf 73 = 2 by kernel_rfl, show Tryd.prog.cellsOf 3 = 1 by kernel_rfl] at h0 h1 h2 h3 h4 h5
  match ys, hyl, h0, h1, h2, h3, h4, h5 with
  | [y0, y1, y2, y3, y4, y5], _, h0, h1, h2, h3, h4, h5 =>
    simp only [List.getElem?_cons_zero, List.getElem?_cons_succ] at h0 h1 h2 h3 h4 h5
    obtain ⟨k, e0, f0, _⟩ := DataW.trod_int Tryd.underlying3 h0
    obtain ⟨a1, e1, f1⟩ := el_arg _ _ _ h1
    obtain ⟨a2, e2, f2⟩ := el_arg _ _ _ h2
    obtain ⟨a3, e3, f3⟩ := el_arg _ _ _ h3
    obtain ⟨z4, e4, f4, _⟩ := DataW.trod_int Tryd.underlying3 h4
    obtain ⟨z5, e5, f5, _⟩ := DataW.trod_int Tryd.underlying3 h5
    match cs, hl, e0, e1, e2, e3, e4, e5 with
    | [c0, c1, c2, c3, c4, c5, c6, c7, c8], _, e0, e1, e2, e3, e4, e5 =>
      simp [argC] at e0 e1 e2 e3 e4 e5
      obtain ⟨rfl, rfl⟩ := e1
      obtain ⟨rfl, rfl⟩ := e2
      obtain ⟨rfl, rfl⟩ := e3
      subst e0; subst e4; subst e5
      refine ⟨⟨k, a1, a2, a3, z4, z5⟩, rfl, ?_⟩
      simp [f0, f1, f2, f3, f4, f5, atomD, argD]
set_option maxRecDepth 100000 in
theorem el_test {W : World} (m : Nat) (cs : List Value) (y : DataW H × List MemPlace) (h : DataW.trod enc Tryd.prog W 0 (fun _ => true) true m 78 cs = some y) : ∃ a, cs = testC a ∧ y.1 = testD a := by
  obtain ⟨ys, n, _, rfl, hl, hyl, hf⟩ := DataW.trod_struct Tryd.underlying78 h
  rw [show Tryd.prog.cellsOf 78 = 5 by kernel_rfl] at hl
  have h0 := hf 0 ⟨"Op", 3, 0, false, "", "", 0⟩ rfl; have h1 := hf 1 ⟨"A", 73, 1, false, "", "", 8⟩ rfl; have h2 := hf 2 ⟨"B", 73, 3, false, "", "", 24⟩ rfl
  simp only [show Tryd.prog.cellsOf 73 = 2 by kernel_rfl, show Tryd.prog.cellsOf 3 = 1 by kernel_rfl] at h0 h1 h2
  match ys, hyl, h0, h1, h2 with
  | [y0, y1, y2], _, h0, h1, h2 =>
    simp only [List.getElem?_cons_zero, List.getElem?_cons_succ] at h0 h1 h2
    obtain ⟨k, e0, f0, _⟩ := DataW.trod_int Tryd.underlying3 h0
    obtain ⟨a1, e1, f1⟩ := el_arg _ _ _ h1
    obtain ⟨a2, e2, f2⟩ := el_arg _ _ _ h2
    match cs, hl, e0, e1, e2 with
    | [c0, c1, c2, c3, c4], _, e0, e1, e2 =>
      simp [argC] at e0 e1 e2
      obtain ⟨rfl, rfl⟩ := e1
      obtain ⟨rfl, rfl⟩ := e2
      subst e0
      refine ⟨⟨k, a1, a2⟩, rfl, ?_⟩
      simp [f0, f1, f2, testD, argD]
end
end Go.Proofs.YtocelmjncjompaaDoor

namespace Go.Proofs.YtocelmjncjompaaDoor
open Go.RowKit Go.WideShapes Go.ChangeShapes Go.Deep

section
variable {H : Type} {enc : TypeId × Value → H}
theorem slice_of {t e : TypeId} {W : World} {fuel : Nat} {v : Value} {x : DataW H × List MemPlace} (ht : Tryd.prog.underlying t = some (.slice e)) (h : DataW.trod enc Tryd.prog W 0 (fun _ => true) true fuel t [v] = some x) : ∃ A n c, v = .slice A n c := by
  rcases open_slice ht h with ⟨h1, _⟩ | ⟨a, len, cap, m, nf, D, Pl, h1, _⟩
  · injection h1 with h1
    exact ⟨none, 0, 0, h1⟩
  · injection h1 with h1
    exact ⟨some a, len, cap, h1⟩
instance : Inhabited Qy.Arg := ⟨⟨false, 0⟩⟩
instance : Inhabited Qy.Atom := ⟨⟨0, default, default, default, 0, 0⟩⟩
instance : Inhabited Qy.Test := ⟨⟨0, default, default⟩⟩
set_option maxRecDepth 100000 in
theorem open_query {W : World} {b0 : Nat} {v : Value} {d : DataW H} {ps : List MemPlace} (hval : Value.okWide Tryd.prog W .any b0 46 v) (hd : DataW.Trod enc Tryd.prog W 0 (fun _ => true) true 46 v d ps)
    (hw : ∀ k ∈ d.weights Tryd.prog 46, k ≤ reachBytes) : ∃ q, QAt W W.heap.size v q := by
  obtain ⟨cs, rfl, hsz⟩ := okWide_struct Tryd.underlying46 hval
  rw [show Tryd.prog.cellsOf 46 = 4 by kernel_rfl] at hsz
  obtain ⟨l⟩ := cs
  match l, hsz with
  | [v0, v1, v2, v3], _ =>
    obtain ⟨fuel, hf⟩ := hd
    have hcs : (Value.agg #[v0, v1, v2, v3]).cells.toList = [v0, v1, v2, v3] := by simp [Value.cells]
    rw [hcs] at hf
    obtain ⟨ys, n, _, hy, hl, hyl, hg⟩ := DataW.trod_struct Tryd.underlying46 hf
    have h0 := hg 0 ⟨"Names", 39, 0, false, "", "", 0⟩ rfl; have h1 := hg 1 ⟨"Show", 42, 1, false, "", "", 24⟩ rfl; have h2 := hg 2 ⟨"Atoms", 43, 2, false, "", "", 48⟩ rfl; have h3 := hg 3 ⟨"Tests", 44, 3, false, "", "", 72⟩ rfl
    simp only [show Tryd.prog.cellsOf 39 = 1 by kernel_rfl, show Tryd.prog.cellsOf 42 = 1 by kernel_rfl, show Tryd.prog.cellsOf 43 = 1 by kernel_rfl, show Tryd.prog.cellsOf 44 = 1 by kernel_rfl] at h0 h1 h2 h3
    match ys, hyl, h0, h1, h2, h3 with
    | [y0, y1, y2, y3], _, g0, g1, g2, g3 =>
      simp only [List.getElem?_cons_zero, List.getElem?_cons_succ, List.drop_zero, List.drop_succ_cons, List.take_succ_cons, List.take_zero] at g0 g1 g2 g3
      simp only [Prod.mk.injEq] at hy
      obtain ⟨rfl, _⟩ := hy
      have hall : ∀ k, (k ∈ y0.1.weights Tryd.prog 39 ∨ k ∈ y1.1.weights Tryd.prog 42 ∨ k ∈ y2.1.weights Tryd.prog 43 ∨ k ∈ y3.1.weights Tryd.prog 44) → k ≤ reachBytes := fun k hk => by
        refine hw k ?_
        unfold DataW.weights
        rw [Tryd.underlying46]
        simp only [List.map_cons, List.map_nil, DataW.weightsEach, List.mem_append]
        rcases hk with h | h | h | h
        · exact .inl h
        · exact .inr (.inl h)
        · exact .inr (.inr (.inl h))
        · exact .inr (.inr (.inr (.inl h)))
      obtain ⟨A0, n0, c0, rfl⟩ := slice_of Tryd.underlying39 g0
      obtain ⟨A1, n1, c1, rfl⟩ := slice_of Tryd.underlying42 g1
      obtain ⟨A2, n2, c2, rfl⟩ := slice_of Tryd.underlying43 g2
      obtain ⟨A3, n3, c3, rfl⟩ := slice_of Tryd.underlying44 g3
      obtain ⟨l0, rfl, r0, t0⟩ := open_rows strC (fun a => .lit (.string a)) 1 16 Tryd.underlying39 (by kernel_rfl) (by omega) (by kernel_rfl) (by omega) (fun _ => rfl) el_str g0 (fun k hk => hall k (.inl hk))
      obtain ⟨l1, rfl, r1, _⟩ := open_rows intC (fun a => .lit (.int .i64 a)) 1 8 Tryd.underlying42 (by kernel_rfl) (by omega) (by kernel_rfl) (by omega) (fun _ => rfl) el_int g1 (fun k hk => hall k (.inr (.inl hk)))
      obtain ⟨l2, rfl, r2, _⟩ := open_rows atomC atomD 9 72 Tryd.underlying43 (by kernel_rfl) (by omega) (by kernel_rfl) (by omega) (fun _ => rfl) el_atom g2 (fun k hk => hall k (.inr (.inr (.inl hk))))
      obtain ⟨l3, rfl, r3, _⟩ := open_rows testC testD 5 40 Tryd.underlying44 (by kernel_rfl) (by omega) (by kernel_rfl) (by omega) (fun _ => rfl) el_test g3 (fun k hk => hall k (.inr (.inr (.inr hk))))
      refine ⟨⟨l0, l1, l2, l3⟩, ⟨A0, c0, A1, c1, A2, c2, A3, c3, rfl, r0, r1, r2, r3⟩, fun n hn => ?_⟩
      have := t0 n hn n.length (by simp [DataW.weights])
      unfold reachBytes at this
      exact this
end
end Go.Proofs.YtocelmjncjompaaDoor
