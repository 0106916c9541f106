/- Parts of the proof, joined into one text: QyParB, QyParC, QyIdx, QyVar. -/
import Derived.Test.YtjonaidancomgaaDoorZQyMem
import Derived.Maps.OwnSet

namespace Go.Proofs.YtjonaidancomgaaDoor
open Go.RowKit

set_option maxHeartbeats 1000000 in
theorem lWordNo (g B c : Nat) (A : Option Addr) (l : List Lx.Tok) (last : Int) (x : ByteArray) (v2 v3 v4 v5 v6 v7 : Value) (w : World) (hb : Blk w g 73 #[.slice A l.length c, .int .i64 last, v2, v3, v4, v5, v6, v7]) (hT : Toks w B A l) (hh : Qy.hit 1 x.data.toList l = false) :
    Calls Tryd.prog 42 #[.pointer (some ⟨g, 0, none⟩), .string x] w fun e w' => FailAt (Qy.front last l) 500 e ∧ w = w' := by
  have h1 := Lib.hid (lSkipNo g B c A l 1 x _ _ _ _ _ _ _ w hb hT hh)
  have h2 := Lib.hid (lFail g B c A l last 500 _ _ _ _ _ _ w hb hT)
  clear hb hT hh
  go_enter Tryd.func42, Tryd.ntmps42
  go_wp2_with fail
  refine (h1.out).mono ?_
  rintro e w1 ⟨rfl, rfl⟩
  go_wp2_with fail
  refine (h2.out).mono ?_
  rintro e w1 ⟨he, rfl⟩
  unfold FailAt at he
  subst he
  exact ⟨rfl, rfl, rfl⟩
set_option maxHeartbeats 1000000 in
theorem lSignNo (g B c : Nat) (A : Option Addr) (l : List Lx.Tok) (last : Int) (x : ByteArray) (v2 v3 v4 v5 v6 v7 : Value) (w : World) (hb : Blk w g 73 #[.slice A l.length c, .int .i64 last, v2, v3, v4, v5, v6, v7]) (hT : Toks w B A l) (hh : Qy.hit 3 x.data.toList l = false) :
    Calls Tryd.prog 49 #[.pointer (some ⟨g, 0, none⟩), .string x] w fun e w' => FailAt (Qy.front last l) 500 e ∧ w = w' := by
  have h1 := Lib.hid (lSkipNo g B c A l 3 x _ _ _ _ _ _ _ w hb hT hh)
  have h2 := Lib.hid (lFail g B c A l last 500 _ _ _ _ _ _ w hb hT)
  clear hb hT hh
  go_enter Tryd.func49, Tryd.ntmps49
  go_wp2_with fail
  refine (h1.out).mono ?_
  rintro e w1 ⟨rfl, rfl⟩
  go_wp2_with fail
  refine (h2.out).mono ?_
  rintro e w1 ⟨he, rfl⟩
  unfold FailAt at he
  subst he
  exact ⟨rfl, rfl, rfl⟩
set_option maxHeartbeats 1000000 in
theorem lWordYes (g B c : Nat) (A : Option Addr) (t : Lx.Tok) (r : List Lx.Tok) (x : ByteArray) (v1 v2 v3 v4 v5 v6 v7 : Value) (w : World) (hb : Blk w g 73 #[.slice A (r.length + 1) c, v1, v2, v3, v4, v5, v6, v7]) (hT : Toks w B A (t :: r)) (hcap : r.length + 1 ≤ c) (hBg : B ≤ g) (hh : Qy.hit 1 x.data.toList (t :: r) = true) :
    Calls Tryd.prog 42 #[.pointer (some ⟨g, 0, none⟩), .string x] w fun e w' => e = .returned (.tuple #[]) ∧
      ∃ A' c', Blk w' g 73 #[.slice A' r.length c', v1, v2, v3, v4, v5, v6, v7] ∧ Toks w' B A' r ∧ r.length ≤ c' ∧ ∃ u, w' = w.setCell ⟨g, 0, none⟩ u := by
  have h1 := Lib.hid (lSkipYes g B c A t r 1 x v1 v2 v3 v4 v5 v6 v7 w hb hT hcap hBg hh)
  clear hb hT hh
  go_enter Tryd.func42, Tryd.ntmps42
  go_wp2_with fail
  refine (h1.out).mono ?_
  rintro e w1 ⟨rfl, hq⟩
  have Hq := Lib.hid hq; clear hq
  go_wp2_with fail
  go_end0
  exact ⟨rfl, Hq.out⟩
set_option maxHeartbeats 1000000 in
theorem lSignYes (g B c : Nat) (A : Option Addr) (t : Lx.Tok) (r : List Lx.Tok) (x : ByteArray) (v1 v2 v3 v4 v5 v6 v7 : Value) (w : World) (hb : Blk w g 73 #[.slice A (r.length + 1) c, v1, v2, v3, v4, v5, v6, v7]) (hT : Toks w B A (t :: r)) (hcap : r.length + 1 ≤ c) (hBg : B ≤ g) (hh : Qy.hit 3 x.data.toList (t :: r) = true) :
    Calls Tryd.prog 49 #[.pointer (some ⟨g, 0, none⟩), .string x] w fun e w' => e = .returned (.tuple #[]) ∧
      ∃ A' c', Blk w' g 73 #[.slice A' r.length c', v1, v2, v3, v4, v5, v6, v7] ∧ Toks w' B A' r ∧ r.length ≤ c' ∧ ∃ u, w' = w.setCell ⟨g, 0, none⟩ u := by
  have h1 := Lib.hid (lSkipYes g B c A t r 3 x v1 v2 v3 v4 v5 v6 v7 w hb hT hcap hBg hh)
  clear hb hT hh
  go_enter Tryd.func49, Tryd.ntmps49
  go_wp2_with fail
  refine (h1.out).mono ?_
  rintro e w1 ⟨rfl, hq⟩
  have Hq := Lib.hid hq; clear hq
  go_wp2_with fail
  go_end0
  exact ⟨rfl, Hq.out⟩
end Go.Proofs.YtjonaidancomgaaDoor

namespace Go.Proofs.YtjonaidancomgaaDoor
open Go.RowKit

/-- What the parser owns: its names, and the query so far. -/
structure POwn (g : Nat) (names : List (List UInt8)) (shown : List Int) (atoms : List Qy.Atom) (tests : List Qy.Test) (vN vS vA vT : Value) (w : World) : Prop where
  n : w.ownsRow g 9 1 vN names.length (names.flatMap strC)
  s : w.ownsRow g 3 1 vS shown.length (shown.flatMap intC)
  a : w.ownsRow g 43 9 vA atoms.length (atoms.flatMap atomC)
  t : w.ownsRow g 45 5 vT tests.length (tests.flatMap testC)
theorem POwn.below {g : Nat} {names : List (List UInt8)} {shown : List Int} {atoms : List Qy.Atom} {tests : List Qy.Test} {vN vS vA vT : Value} {w w' : World} (h : POwn g names shown atoms tests vN vS vA vT w) (hb : Below w.heap.size w w') : POwn g names shown atoms tests vN vS vA vT w' :=
  ⟨own_below h.n hb, own_below h.s hb, own_below h.a hb, own_below h.t hb⟩
theorem POwn.set {g : Nat} {names : List (List UInt8)} {shown : List Int} {atoms : List Qy.Atom} {tests : List Qy.Test} {vN vS vA vT : Value} {w : World} (h : POwn g names shown atoms tests vN vS vA vT w) {cs : Array Value} (hb : Blk w g 73 cs) (i : Nat) (u : Value) : POwn g names shown atoms tests vN vS vA vT (w.setCell ⟨g, i, none⟩ u) :=
  ⟨own_setCell_far h.n (own_ne h.n hb (by decide)) u, own_setCell_far h.s (own_ne h.s hb (by decide)) u, own_setCell_far h.a (own_ne h.a hb (by decide)) u, own_setCell_far h.t (own_ne h.t hb (by decide)) u⟩
theorem own_apart {w : World} {b1 b2 s1 s2 n1 n2 : Nat} {e1 e2 : TypeId} {v1 v2 : Value} {x1 x2 : List Value} (h1 : w.ownsRow b1 e1 s1 v1 n1 x1) (h2 : w.ownsRow b2 e2 s2 v2 n2 x2) (hne : e1 ≠ e2) : v1.ownBlock = none ∨ v1.ownBlock ≠ v2.ownBlock := by
  rcases h1.2 with ⟨rfl, _⟩ | ⟨g, cap, cur, rfl, _, hh, _⟩
  · exact .inl rfl
  · right
    intro e
    rcases h2.2 with ⟨rfl, _⟩ | ⟨g', cap', cur', rfl, _, hh', _⟩
    · simp [Value.ownBlock] at e
    · have : g = g' := by simpa [Value.ownBlock] using e
      subst this
      rw [hh] at hh'
      injection hh' with hh'
      injection hh' with _ ht
      exact hne ht
theorem KindsAt.under {w w' : World} {b B : Nat} (h : KindsAt w b) (hb : Below B w w') (hlt : b < B) : KindsAt w' b := by
  obtain ⟨es, clock, hh, F, hs, hD⟩ := h
  exact ⟨es, clock, (hb.block b hlt).trans hh, F, hs, hD⟩

/-- The parser's struct (block g) holds the state s. -/
structure PSt (g B mb : Nat) (last : Int) (s : Qy.St) (w : World) : Prop where
  st : ∃ A c vN vS vA vT, Blk w g 73 #[.slice A s.toks.length c, .int .i64 last, .map (some mb), vN, .slice none 0 0, vS, vA, vT] ∧ Toks w B A s.toks ∧ s.toks.length ≤ c ∧ POwn g s.names s.shown s.atoms s.tests vN vS vA vT w
  kinds : KindsAt w mb
  mlt : mb < g
  blt : B ≤ g
  few : s.names.length ≤ 8
  txts : ∀ t ∈ s.names, t.length ≤ 140737488351232
theorem PSt.lt {g B mb : Nat} {last : Int} {s : Qy.St} {w : World} (h : PSt g B mb last s w) : g < w.heap.size := by
  obtain ⟨A, c, vN, vS, vA, vT, hb, _⟩ := h.st
  exact hb.lt
theorem PSt.next {g B mb : Nat} {last : Int} {s : Qy.St} {w w' : World} (h : PSt g B mb last s w) (hb : Below w.heap.size w w') : PSt g B mb last s w' := by
  have hlt := h.lt
  obtain ⟨⟨A, c, vN, vS, vA, vT, h1, h2, h3, h4⟩, hk, hm, hB, hf, ht⟩ := h
  exact ⟨⟨A, c, vN, vS, vA, vT, h1.below hb hlt, h2.below hb (by omega), h3, h4.below hb⟩, hk.below hb, hm, hB, hf, ht⟩

/-- Block k is a row that the parser's struct (block g) owns. -/
def Owned (w : World) (g k : Nat) : Prop := ∃ i v, (i = 3 ∨ i = 5 ∨ i = 6 ∨ i = 7) ∧ w.cell? ⟨g, i, none⟩ = some v ∧ v.ownBlock = some k
/-- What a step of the parser leaves as it was: all but its struct and its rows. -/
structure Fr (g : Nat) (w w' : World) : Prop where
  bel : Below g w w'
  keep : ∀ k, k < w.heap.size → k ≠ g → ¬ Owned w g k → w'.heap[k]? = w.heap[k]?
  own : ∀ k, k < w.heap.size → Owned w' g k → Owned w g k
section
variable {g : Nat} {w w' w'' : World}
theorem Fr.refl (g : Nat) (w : World) : Fr g w w := ⟨Below.refl _ _, fun _ _ _ _ => rfl, fun _ _ h => h⟩
theorem Fr.trans (h : Fr g w w') (k : Fr g w' w'') : Fr g w w'' :=
  ⟨h.bel.trans k.bel, fun i hi hg ho => (k.keep i (by have := h.bel.size; omega) hg (fun h' => ho (h.own i hi h'))).trans (h.keep i hi hg ho),
    fun i hi h' => h.own i hi (k.own i (by have := h.bel.size; omega) h')⟩
theorem Fr.drewN (g : Nat) (w : World) (n : Nat) : Fr g w (w.drewN n) := ⟨bel_drewN (Below.refl _ _) n, fun _ _ _ _ => rfl, fun _ _ h => h⟩
theorem Fr.draw {n : Nat} (h : Fr g (w.drewN n) w') : Fr g w w' := (Fr.drewN g w n).trans h
/-- All but block g is as it was, and its cells from the fourth on. -/
theorem Fr.at0 {t : TypeId} {cs : Array Value} (hb : Blk w g t cs) (u : Value) : Fr g w (w.setCell ⟨g, 0, none⟩ u) :=
  ⟨Below.setCell (Below.refl g w) (show g ≤ (⟨g, 0, none⟩ : Addr).block from Nat.le_refl g) u, fun k _ hg _ => Below.heap_setCell w _ u k hg, fun k _ ⟨i, v, hi, hc, hv⟩ => ⟨i, v, hi, by
    rw [(hb.set 0 u).cell i] at hc
    rw [hb.cell i, ← hc, Array.getElem?_setIfInBounds_ne (by omega)], hv⟩⟩
theorem Fr.alloc (hg : g < w.heap.size) (o : Obj) : Fr g w (w.alloc o) :=
  ⟨(Below.refl _ _).alloc (by omega) o, fun k hk _ _ => Below.heap_alloc w o k hk, fun _ _ ⟨i, v, hi, hc, hv⟩ => ⟨i, v, hi, by rw [← hc]; exact (cell_alloc_old w o g i hg).symm, hv⟩⟩
theorem Fr.setFar (h : Fr g w w') {p i : Nat} (hp : w.heap.size ≤ p) (hg : g < w.heap.size) (u : Value) : Fr g w (w'.setCell ⟨p, i, none⟩ u) :=
  ⟨h.bel.setCell (show g ≤ p by omega) u, fun k hk hne ho => (Below.heap_setCell w' _ u k (show k ≠ p by omega)).trans (h.keep k hk hne ho), fun k hk ⟨j, v, hi, hc, hv⟩ => h.own k hk ⟨j, v, hi, by
    rw [← hc]; exact ((World.cell?_of_block (a := ⟨g, j, none⟩) (Below.heap_setCell w' ⟨p, i, none⟩ u g (show g ≠ p by omega)))).symm, hv⟩⟩
/-- A row of the struct has grown. -/
theorem Fr.grow {t : TypeId} {cs : Array Value} {i : Nat} {v v' : Value} {gg : Nat} {w1 w2 : World} (hb : Blk w g t cs) (hi : i = 3 ∨ i = 5 ∨ i = 6 ∨ i = 7) (hv : cs[i]? = some v) (hb2 : Blk w2 g t cs) (hbel : Below g w w2) (h1 : Below w.heap.size w w1)
    (hgrow : w1.grownBy w2 v.ownBlock) (hv' : v'.ownBlock = some gg) (hgg : v.ownBlock = some gg ∨ w.heap.size ≤ gg) : Fr g w (w2.setCell ⟨g, i, none⟩ v') := by
  have hlt : i < cs.size := (Array.getElem?_eq_some_iff.1 hv).1
  refine ⟨hbel.setCell (show g ≤ g from Nat.le_refl g) v', fun k hk hg ho => ?_, fun k hk ⟨j, u, hj, hc, hu⟩ => ?_⟩
  · rw [Below.heap_setCell w2 _ v' k hg]
    have hne : some k ≠ v.ownBlock := fun e => ho ⟨i, v, hi, by rw [hb.cell i, hv], e.symm⟩
    rw [hgrow.block k (by have := h1.size; omega) hne, h1.block k hk]
  · rw [(hb2.set i v').cell j] at hc
    by_cases hji : i = j
    · subst hji
      rw [Array.getElem?_setIfInBounds_self, if_pos hlt] at hc
      injection hc with hc
      subst hc
      rw [hv'] at hu
      injection hu with hu
      subst hu
      rcases hgg with h | h
      · exact ⟨i, v, hi, by rw [hb.cell i, hv], h⟩
      · omega
    · rw [Array.getElem?_setIfInBounds_ne hji] at hc
      exact ⟨j, u, hj, by rw [hb.cell j, hc], hu⟩
end

/-- How a step of the parser ends. -/
def Par {α : Type} (g B mb : Nat) (last : Int) (w : World) (val : α → Value) (r : Qy.R α) (e : Ending) (w' : World) : Prop :=
  match r with
  | .ok a s => e = .returned (val a) ∧ PSt g B mb last s w' ∧ Fr g w w'
  | .bad p x => FailAt p x e ∧ Fr g w w'
def uV : Unit → Value := fun _ => .tuple #[]
def iV : Int → Value := .int .i64
def aV : Qy.Arg → Value := fun a => .agg #[.bool a.var, .int .i64 a.n]

theorem Qy.fail_eq {α : Type} (last : Int) (s : Qy.St) (x : Int) : Qy.fail (α := α) last s x = .bad (Qy.front last s.toks) x := rfl
theorem Qy.skip_eq (k : Int) (x : List UInt8) (s : Qy.St) : Qy.skip k x s = (Qy.hit k x s.toks, if Qy.hit k x s.toks then { s with toks := s.toks.tail } else s) := by
  unfold Qy.skip Qy.hit
  cases s.toks with
  | nil => rfl
  | cons t r =>
    by_cases h : t.kind = k ∧ t.text = x
    · have : (t.kind == k && t.text == x) = true := by simp [h.1, h.2]
      simp only [this, if_pos h]
      rfl
    · have : (t.kind == k && t.text == x) = false := by
        cases h1 : t.kind == k <;> cases h2 : t.text == x <;> simp_all
      simp only [this, if_neg h]
      rfl

theorem toks_cut {w : World} {B b o g : Nat} {t : Lx.Tok} {r : List Lx.Tok} (hT : Toks w B (some ⟨b, o, none⟩) (t :: r)) (hBg : B ≤ g) (u : Value) (b1 o1 : Nat) (h : r ≠ [] → b1 = b ∧ o1 = o + 4) : Toks (w.setCell ⟨g, 0, none⟩ u) B (some ⟨b1, o1, none⟩) r :=
  ⟨fun j y hj => by
    have hr : r ≠ [] := by intro e; rw [e] at hj; simp at hj
    obtain ⟨rfl, rfl⟩ := h hr
    obtain ⟨b2, o2, e2, hb2, h4⟩ := hT.at_ (j + 1) y (by simpa using hj)
    injection e2 with e2
    injection e2 with e3 e4
    subst e3; subst e4
    refine ⟨_, _, rfl, hb2, ?_⟩
    rw [show o + 4 + j * 4 = o + (j + 1) * 4 by omega]
    exact h4.cells fun i => (Below.setCell (Below.refl g w) (show g ≤ (⟨g, 0, none⟩ : Addr).block from Nat.le_refl g) u).cell (p := ⟨b1, i, none⟩) (show b1 < g by omega), by have := hT.len; simp only [List.length_cons] at this; omega, fun y hy => hT.texts y (List.mem_cons_of_mem _ hy)⟩
theorem set_below {g i : Nat} {w : World} (u : Value) : Below g w (w.setCell ⟨g, i, none⟩ u) := Below.setCell (Below.refl g w) (show g ≤ (⟨g, i, none⟩ : Addr).block from Nat.le_refl g) u
/-- The tokens are cut by the one in front. -/
theorem pst_cut {g B mb b o : Nat} {last : Int} {t : Lx.Tok} {r : List Lx.Tok} {names : List (List UInt8)} {shown : List Int} {atoms : List Qy.Atom} {tests : List Qy.Test} {w : World} {v0 vN vS vA vT : Value}
    (hb : Blk w g 73 #[v0, .int .i64 last, .map (some mb), vN, .slice none 0 0, vS, vA, vT]) (hT : Toks w B (some ⟨b, o, none⟩) (t :: r)) (ho : POwn g names shown atoms tests vN vS vA vT w)
    (hk : KindsAt w mb) (hm : mb < g) (hB : B ≤ g) (hf : names.length ≤ 8) (htx : ∀ t ∈ names, t.length ≤ 140737488351232) (b1 o1 c1 : Nat) (h1 : r ≠ [] → b1 = b ∧ o1 = o + 4) (hc : r.length ≤ c1) :
    PSt g B mb last ⟨r, names, shown, atoms, tests⟩ (w.setCell ⟨g, 0, none⟩ (.slice (some ⟨b1, o1, none⟩) r.length c1)) ∧ Fr g w (w.setCell ⟨g, 0, none⟩ (.slice (some ⟨b1, o1, none⟩) r.length c1)) :=
  ⟨⟨⟨_, _, _, _, _, _, by have := hb.set 0 (.slice (some ⟨b1, o1, none⟩) r.length c1); simpa using this, toks_cut hT hB _ _ _ h1, hc, ho.set hb _ _⟩, hk.under (set_below _) hm, hm, hB, hf, htx⟩, Fr.at0 hb _⟩

theorem lSkip (g B mb : Nat) (last k : Int) (x : ByteArray) (s : Qy.St) (w : World) (h : PSt g B mb last s w) :
    Calls Tryd.prog 44 #[.pointer (some ⟨g, 0, none⟩), .int .i64 k, .string x] w fun e w' => e = .returned (.bool (Qy.skip k x.data.toList s).1) ∧ PSt g B mb last (Qy.skip k x.data.toList s).2 w' ∧ Fr g w w' := by
  obtain ⟨⟨A, c, vN, vS, vA, vT, hb, hT, hc, ho⟩, hk, hm, hB, hf, htx⟩ := h
  rw [Qy.skip_eq]
  cases hh : Qy.hit k x.data.toList s.toks
  · refine (lSkipNo g B c A s.toks k x _ _ _ _ _ _ _ w hb hT hh).mono ?_
    rintro e w' ⟨rfl, rfl⟩
    exact ⟨rfl, ⟨⟨A, c, vN, vS, vA, vT, hb, hT, hc, ho⟩, hk, hm, hB, hf, htx⟩, Fr.refl _ _⟩
  · obtain ⟨toks, names, shown, atoms, tests⟩ := s
    cases toks with
    | nil => cases hh
    | cons t r =>
      refine (lSkipYes g B c A t r k x _ _ _ _ _ _ _ w hb hT hc hB hh).mono ?_
      rintro e w' ⟨rfl, A', c', hb', hT', hc', u, rfl⟩
      exact ⟨rfl, ⟨⟨A', c', vN, vS, vA, vT, hb', hT', hc', ho.set hb _ _⟩, hk.under (set_below _) hm, hm, hB, hf, htx⟩, Fr.at0 hb _⟩

theorem lNeed (n : Nat) (g B mb : Nat) (last k : Int) (x : ByteArray) (s : Qy.St) (w : World) (h : PSt g B mb last s w)
    (hno : ∀ (c : Nat) (A : Option Addr) (l : List Lx.Tok) (v2 v3 v4 v5 v6 v7 : Value), Blk w g 73 #[.slice A l.length c, .int .i64 last, v2, v3, v4, v5, v6, v7] → Toks w B A l → Qy.hit k x.data.toList l = false →
      Calls Tryd.prog n #[.pointer (some ⟨g, 0, none⟩), .string x] w fun e w' => FailAt (Qy.front last l) 500 e ∧ w = w')
    (hyes : ∀ (c : Nat) (A : Option Addr) (t : Lx.Tok) (r : List Lx.Tok) (v1 v2 v3 v4 v5 v6 v7 : Value), Blk w g 73 #[.slice A (r.length + 1) c, v1, v2, v3, v4, v5, v6, v7] → Toks w B A (t :: r) → r.length + 1 ≤ c → B ≤ g → Qy.hit k x.data.toList (t :: r) = true →
      Calls Tryd.prog n #[.pointer (some ⟨g, 0, none⟩), .string x] w fun e w' => e = .returned (.tuple #[]) ∧
        ∃ A' c', Blk w' g 73 #[.slice A' r.length c', v1, v2, v3, v4, v5, v6, v7] ∧ Toks w' B A' r ∧ r.length ≤ c' ∧ ∃ u, w' = w.setCell ⟨g, 0, none⟩ u) :
    Calls Tryd.prog n #[.pointer (some ⟨g, 0, none⟩), .string x] w (Par g B mb last w uV (Qy.need last k x.data.toList s)) := by
  obtain ⟨⟨A, c, vN, vS, vA, vT, hb, hT, hc, ho⟩, hk, hm, hB, hf, htx⟩ := h
  unfold Qy.need
  rw [Qy.skip_eq]
  cases hh : Qy.hit k x.data.toList s.toks
  · refine (hno c A s.toks _ _ _ _ _ _ hb hT hh).mono ?_
    rintro e w' ⟨he, rfl⟩
    exact ⟨he, Fr.refl _ _⟩
  · obtain ⟨toks, names, shown, atoms, tests⟩ := s
    cases toks with
    | nil => cases hh
    | cons t r =>
      refine (hyes c A t r _ _ _ _ _ _ _ hb hT hc hB hh).mono ?_
      rintro e w' ⟨rfl, A', c', hb', hT', hc', u, rfl⟩
      exact ⟨rfl, ⟨⟨A', c', vN, vS, vA, vT, hb', hT', hc', ho.set hb _ _⟩, hk.under (set_below _) hm, hm, hB, hf, htx⟩, Fr.at0 hb _⟩
theorem lWord (g B mb : Nat) (last : Int) (x : ByteArray) (s : Qy.St) (w : World) (h : PSt g B mb last s w) :
    Calls Tryd.prog 42 #[.pointer (some ⟨g, 0, none⟩), .string x] w (Par g B mb last w uV (Qy.word last x.data.toList s)) :=
  lNeed _ g B mb last 1 x s w h (fun c A l _ _ _ _ _ _ => lWordNo g B c A l last x _ _ _ _ _ _ w) (fun c A t r _ _ _ _ _ _ _ => lWordYes g B c A t r x _ _ _ _ _ _ _ w)
theorem lSign (g B mb : Nat) (last : Int) (x : ByteArray) (s : Qy.St) (w : World) (h : PSt g B mb last s w) :
    Calls Tryd.prog 49 #[.pointer (some ⟨g, 0, none⟩), .string x] w (Par g B mb last w uV (Qy.need last 3 x.data.toList s)) :=
  lNeed _ g B mb last 3 x s w h (fun c A l _ _ _ _ _ _ => lSignNo g B c A l last x _ _ _ _ _ _ w) (fun c A t r _ _ _ _ _ _ _ => lSignYes g B c A t r x _ _ _ _ _ _ _ w)

set_option maxHeartbeats 1000000 in
theorem lNumber (g B mb : Nat) (last most : Int) (s : Qy.St) (w : World) (h : PSt g B mb last s w) :
    Calls Tryd.prog 59 #[.pointer (some ⟨g, 0, none⟩), .int .i64 most] w (Par g B mb last w iV (Qy.number last most s)) := by
  obtain ⟨⟨A, c, vN, vS, vA, vT, hb, hT, hcap, ho⟩, hk, hm, hB, hf, htx⟩ := h
  obtain ⟨toks, names, shown, atoms, tests⟩ := s
  simp only at hb hT hcap ho hf htx
  have h2 := Lib.hid (lFail g B c A toks last 500 _ _ _ _ _ _ w hb hT)
  have c0 := hb.cell 0
  have f0 := hb.free 0
  simp at c0
  obtain ⟨R, hR⟩ : ∃ R, R = Qy.number last most ⟨toks, names, shown, atoms, tests⟩ := ⟨_, rfl⟩
  rw [← hR]
  cases toks with
  | nil =>
    have HR := Lib.hid hR
    clear hR hb hT ho hk htx hm hB hf
    go_enter Tryd.func59, Tryd.ntmps59
    go_wp2_with fail
    refine (h2.out).mono ?_
    rintro e w1 ⟨he, rfl⟩
    unfold FailAt at he
    subst he
    exact ⟨rfl, by rw [HR.out]; exact ⟨rfl, Fr.refl _ _⟩⟩
  | cons t r =>
    obtain ⟨b, o, rfl, hbB, q0, q1, q2, q3⟩ := hT.at_ 0 t rfl
    have hl := hT.len
    simp only [List.length_cons] at hl c0 hcap
    simp only [Nat.zero_mul, Nat.add_zero] at q0 q1 q2 q3
    have Hc := Lib.hid (pst_cut hb hT ho hk hm hB hf htx)
    clear hb hT ho hk htx hf
    cases hk2 : t.kind != 2
    · by_cases hmost : most < t.n
      · have HR : Hid (R = .bad t.pos 500) := Lib.hid (by rw [hR]; unfold Qy.number; simp only; rw [if_neg (by omega)]; rfl)
        clear hR
        go_enter Tryd.func59, Tryd.ntmps59
        go_wp2_with fail
        refine (h2.out).mono ?_
        rintro e w1 ⟨he, rfl⟩
        unfold FailAt at he
        subst he
        exact ⟨rfl, by rw [HR.out]; exact ⟨rfl, Fr.refl _ _⟩⟩
      · have HR : Hid (R = .ok t.n ⟨r, names, shown, atoms, tests⟩) := Lib.hid (by
          rw [hR]; unfold Qy.number; simp only; rw [if_pos ⟨by simpa using hk2, by omega⟩])
        clear hR
        have hne : b ≠ g := by omega
        go_enter Tryd.func59, Tryd.ntmps59
        go_wp2_with fail
        · rename_i hc1
          have hr : r = [] := List.eq_nil_of_length_eq_zero (by omega)
          go_ret
          rw [HR.out]
          exact ⟨rfl, by simpa using Hc.out _ _ _ (fun h => absurd hr h) (by omega)⟩
        · go_ret
          rw [HR.out]
          exact ⟨rfl, by simpa using Hc.out _ _ _ (fun _ => ⟨rfl, rfl⟩) (by omega)⟩
    · have HR : Hid (R = .bad t.pos 500) := Lib.hid (by rw [hR]; unfold Qy.number; simp only; rw [if_neg (by simp at hk2; simp [hk2])]; rfl)
      clear hR
      go_enter Tryd.func59, Tryd.ntmps59
      go_wp2_with fail
      refine (h2.out).mono ?_
      rintro e w1 ⟨he, rfl⟩
      unfold FailAt at he
      subst he
      exact ⟨rfl, by rw [HR.out]; exact ⟨rfl, Fr.refl _ _⟩⟩
end Go.Proofs.YtjonaidancomgaaDoor

namespace Go.Proofs.YtjonaidancomgaaDoor
open Go.RowKit Go.Maps Go.WideMaps

def Qy.idx {α : Type} [BEq α] (l : List α) (x : α) : Int := match l.findIdx? (· == x) with | some i => (i : Int) | none => -1
theorem Qy.idx_some {α : Type} [BEq α] [LawfulBEq α] {l : List α} {x : α} {k : Nat} (h : l[k]? = some x) (hno : ∀ j, j < k → ∀ y, l[j]? = some y → (y == x) = false) : l.findIdx? (· == x) = some k := by
  induction l generalizing k with
  | nil => simp at h
  | cons y r ih =>
    cases k with
    | zero => simp at h; simp [List.findIdx?_cons, h]
    | succ k =>
      have h0 := hno 0 (by omega) y (by simp)
      rw [List.findIdx?_cons, h0, ih (by simpa using h) (fun j hj z hz => hno (j + 1) (by omega) z (by simpa using hz))]
      rfl
theorem Qy.idx_none {α : Type} [BEq α] {l : List α} {x : α} (hno : ∀ (j : Nat) (y : α), l[j]? = some y → (y == x) = false) : l.findIdx? (· == x) = none := by
  rw [List.findIdx?_eq_none_iff]
  intro y hy
  obtain ⟨j, hj⟩ := List.mem_iff_getElem?.1 hy
  exact hno j y hj

set_option maxHeartbeats 1000000 in
theorem lIndexStr (A : Option Addr) (B c : Nat) (l : List (List UInt8)) (x : List UInt8) (w : World) (h : Lies w B A 1 (l.map strC)) :
    Calls Tryd.prog 17 #[.slice A l.length c, .string (Lx.bs x)] w fun e w' => e = .returned (.int .i64 (Qy.idx l x)) ∧ w = w' := by
  have hl := h.len
  rw [List.length_map] at hl
  obtain ⟨n, hn⟩ : ∃ n, n = l.length := ⟨_, rfl⟩
  rw [← hn] at hl ⊢
  have Hn := Lib.hid hn
  clear hn
  go_enter Tryd.func17, Tryd.ntmps17
  go_wp2
  go_loopw [8] (fun v8 wr => ∃ k : Nat, k ≤ n ∧ v8 = .int .i64 k ∧ Hid (∀ j, j < k → ∀ y, l[j]? = some y → (y == x) = false) ∧ w = wr) (fun v8 _ => n - (intOf v8).toNat)
  case atStart => exact ⟨0, by omega, rfl, Lib.hid (fun j hj => absurd hj (Nat.not_lt_zero j)), rfl⟩
  case round =>
    obtain ⟨k, hk, rfl, hno, rfl⟩ := hrel
    by_cases hlt : k < n
    · obtain ⟨y, hy⟩ : ∃ y, l[k]? = some y := ⟨_, List.getElem?_eq_getElem (by have := Hn.out; omega)⟩
      obtain ⟨b, o, rfl, hb, hc⟩ := h.at_ k (strC y) (by rw [List.getElem?_map, hy]; rfl)
      have hc1 := hc 0 _ rfl
      rw [Nat.mul_one, Nat.add_zero] at hc1
      have Hy := Lib.hid hy
      clear hc hy h
      have hsw : ((Lx.bs x).toList == (Lx.bs y).toList) = (y == x) := by
        rw [ByteArray.toList_eq, ByteArray.toList_eq, Lx.bs_list, Lx.bs_list, Bool.eq_iff_iff, beq_iff_eq, beq_iff_eq]
        exact eq_comm
      cases hq : y == x
      · rw [hq] at hsw
        have Hq := Lib.hid hq
        clear hq
        go_wp2
        go_roundw
        case rel => exact ⟨k + 1, by omega, by go_num, Lib.hid (fun j hj z hz => by
          rcases Nat.lt_or_ge j k with h1 | h1
          · exact hno.out j h1 z hz
          · obtain rfl : j = k := by omega
            rw [Hy.out] at hz; injection hz with hz; rw [← hz]; exact Hq.out), trivial⟩
        case measure => simp [intOf]; omega
      · rw [hq] at hsw
        have Hq := Lib.hid hq
        clear hq
        go_wp2
        go_ret
        refine ⟨ret_int ?_, rfl⟩
        have hyx : y = x := by simpa using Hq.out
        unfold Qy.idx
        rw [Qy.idx_some (k := k) (by rw [Hy.out, hyx]) hno.out]
    · obtain rfl : k = n := by omega
      clear h
      go_wp2
      go_ret
      refine ⟨ret_int ?_, rfl⟩
      unfold Qy.idx
      rw [Qy.idx_none (fun j y hy => hno.out j (by have := (List.getElem?_eq_some_iff.1 hy).1; have := Hn.out; omega) y hy)]

def Qy.kOk (k : Nat) : Bool := decide (k ≠ 0)
set_option maxRecDepth 20000 in
theorem KindsAt.look2 {w : World} {b : Nat} (h : KindsAt w b) (s : ByteArray) (hs : s.size ≤ maxLen) : (Instr.lookup 50 (.map (some b)) (.string s) true).run Tryd.prog w = .ok (.tuple #[.int .i64 (Qy.kindOf s.data.toList : Nat), .bool (Qy.kOk (Qy.kindOf s.data.toList))]) w := by
  obtain ⟨v, ps, hrun, hv⟩ := World.ownsMap.look_ok h keyLaw Tryd.underlying50 (zeroInt w) (plainElem_int Tryd.underlying3 (WalkArith.wf_i64 (n := 0) (by omega))) (keyOf_string_mk Tryd.underlying9 hs)
  obtain ⟨c, rfl, hc, _⟩ := plainElem_int_inv Tryd.underlying3 hv
  simp only [Prod.mk.injEq] at hc
  obtain ⟨hat, _⟩ := hc
  rw [Qy.kindD_kind] at hat
  injection hat with hat
  injection hat with _ hat
  have hk12 := Qy.kindD_at s.data.toList
  have ht : Qy.kindWords.take 12 = Qy.kindWords := rfl
  have hhas : has (Qy.kindD 12) (.string s.data.toList) = decide (Qy.kindOf s.data.toList ≠ 0) := by
    unfold Qy.kindOf
    cases hf : Qy.kindWords.findIdx? (· == s.data.toList) with
    | none => exact has_false_of_atKey (fun z => by rw [hk12 z 12 (Nat.le_refl _), ht, hf])
    | some i => rw [has_true_of_atKey (fun z => by rw [hk12 z 12 (Nat.le_refl _), ht, hf])]; simp
  rw [hrun, ← hat, hhas]
  rfl

theorem flat_cells {sz : Nat} : ∀ (L : List (List Value)), (∀ c ∈ L, c.length = sz) → ∀ (k j : Nat) (cs : List Value) (v : Value), L[k]? = some cs → cs[j]? = some v → L.flatten[k * sz + j]? = some v
  | [], _, k, j, cs, v, h, _ => by simp at h
  | c :: r, hl, 0, j, cs, v, h, hv => by
    simp at h; subst h
    rw [List.flatten_cons, List.getElem?_append_left (by have := (List.getElem?_eq_some_iff.1 hv).1; omega)]
    simpa using hv
  | c :: r, hl, k + 1, j, cs, v, h, hv => by
    have hc := hl c (by simp)
    rw [List.flatten_cons, List.getElem?_append_right (by rw [hc, Nat.succ_mul]; omega), hc, show (k + 1) * sz + j - sz = k * sz + j by rw [Nat.succ_mul]; omega]
    exact flat_cells r (fun c hc => hl c (by simp [hc])) k j cs v (by simpa using h) hv
theorem own_lies {w : World} {base n sz : Nat} {e : TypeId} {v : Value} {xs : List Value} (h : w.ownsRow base e sz v n xs) (L : List (List Value)) (hx : xs = L.flatten) (hl : ∀ c ∈ L, c.length = sz) (hn : n = L.length) (hb : n ≤ 140737488351232) : ∃ A c, v = .slice A n c ∧ n ≤ c ∧ Lies w w.heap.size A sz L := by
  have hcells := fun g hg => World.ownsRow.cells h (g := g) hg
  have hlt := World.ownsRow.lt h
  rcases h.2 with ⟨rfl, h0⟩ | ⟨g, cap, cur, rfl, _, _, hcap, _⟩
  · refine ⟨none, 0, by rw [h0], by omega, ?_⟩
    have : L = [] := List.eq_nil_of_length_eq_zero (by omega)
    subst this
    exact Lies.nil _ _ _ _
  · refine ⟨_, _, rfl, hcap, ⟨fun k cs hk => ⟨g, 0, rfl, (hlt g rfl).2, fun j u hj => ?_⟩, by omega⟩⟩
    have := hcells g rfl (k * sz + j) u (by rw [hx]; exact flat_cells L hl k j cs u hk hj)
    have hadd : (⟨g, 0, none⟩ : Addr).add (k * sz + j) = ⟨g, 0 + k * sz + j, none⟩ := by unfold Addr.add; split <;> simp_all
    rwa [hadd] at this
end Go.Proofs.YtjonaidancomgaaDoor

namespace Go.Proofs.YtjonaidancomgaaDoor
open Go.RowKit Go.Maps Go.WideMaps

/-- A row grows: the parser's block and what lies below are as they were. -/
theorem grow_rest {g B mb : Nat} {A : Option Addr} {l : List Lx.Tok} {v : Value} {cs : Array Value} {w w1 w2 : World} {base sz n : Nat} {e : TypeId} {xs : List Value} (hb : Blk w g 73 cs) (hT : Toks w B A l) (hk : KindsAt w mb) (hm : mb < g) (hB : B ≤ g)
    (hown : w.ownsRow g e sz v n xs) (he : e ≠ 73) (h1 : Below w.heap.size w w1) (hgrow : w1.grownBy w2 v.ownBlock) (hbase : base = g) :
    Blk w2 g 73 cs ∧ Toks w2 B A l ∧ KindsAt w2 mb ∧ Below (g + 1) w w2 := by
  have hlt := hb.lt
  have hne := own_ne hown hb he
  have hbel : Below (g + 1) w w2 := Below.grown (h1.mono (by omega)) hgrow (by have := h1.size; omega) (fun k hk => by
    have h2 := (World.ownsRow.lt hown k hk).1
    rcases Nat.lt_or_ge g k with h3 | h3
    · exact h3
    · obtain rfl : k = g := by omega
      exact absurd hk hne)
  exact ⟨hb.below hbel (by omega), hT.below hbel (by omega), hk.under hbel (by omega), hbel⟩

theorem PSt.drewN {g B mb : Nat} {last : Int} {s : Qy.St} {w : World} (h : PSt g B mb last s w) (n : Nat) : PSt g B mb last s (w.drewN n) := by
  obtain ⟨⟨A, c, vN, vS, vA, vT, h1, h2, h3, h4⟩, hk, hm, hB, hf, ht⟩ := h
  exact ⟨⟨A, c, vN, vS, vA, vT, h1, h2.drewN n, h3, ⟨h4.n, h4.s, h4.a, h4.t⟩⟩, hk, hm, hB, hf, ht⟩
set_option maxRecDepth 20000 in
set_option maxHeartbeats 1000000 in
theorem lKind (g B mb : Nat) (last : Int) (s : Qy.St) (w : World) (h : PSt g B mb last s w) :
    Calls Tryd.prog 45 #[.pointer (some ⟨g, 0, none⟩)] w fun e w' => e = .returned (.tuple #[.int .i64 ((Qy.kind s).1 : Nat), .bool (Qy.kOk (Qy.kind s).1)]) ∧ PSt g B mb last (Qy.kind s).2 w' ∧ Fr g w w' := by
  have Hsame := Lib.hid h
  obtain ⟨⟨A, c, vN, vS, vA, vT, hb, hT, hcap, ho⟩, hk, hm, hB, hf, htx⟩ := h
  obtain ⟨toks, names, shown, atoms, tests⟩ := s
  simp only at hb hT hcap ho hf htx
  have c0 := hb.cell 0; have c2 := hb.cell 2
  have f0 := hb.free 0
  simp at c0 c2
  obtain ⟨R, hR⟩ : ∃ R, R = Qy.kind ⟨toks, names, shown, atoms, tests⟩ := ⟨_, rfl⟩
  rw [← hR]
  cases toks with
  | nil =>
    have HR : Hid (R = (0, ⟨[], names, shown, atoms, tests⟩)) := Lib.hid hR
    clear hR hb hT ho hk htx hm hB hf
    go_enter Tryd.func45, Tryd.ntmps45
    go_wp2_with fail
    go_ret2
    exact ⟨by rw [HR.out]; rfl, by rw [HR.out]; exact Hsame.out, Fr.refl _ _⟩
  | cons t r =>
    obtain ⟨b, o, rfl, hbB, q0, q1, q2, q3⟩ := hT.at_ 0 t rfl
    have htt := hT.texts t (by simp)
    have hl := hT.len
    simp only [List.length_cons] at hl c0 hcap
    simp only [Nat.zero_mul, Nat.add_zero] at q0 q1 q2 q3
    have hlook := fun n => KindsAt.look2 (w := w.drewN n) hk (Lx.bs t.text) (by rw [Lx.bs_size]; unfold maxLen; omega)
    rw [Lx.bs_list] at hlook
    have Hc := Lib.hid (fun n => pst_cut (w := w.drewN n) hb (hT.drewN n) ⟨ho.n, ho.s, ho.a, ho.t⟩ hk hm hB hf htx)
    clear hb hT ho hk htx hf
    cases hk2 : t.kind != 1
    · have hk1 : t.kind = 1 := by simpa using hk2
      obtain ⟨K, hK⟩ : ∃ K, K = Qy.kindOf t.text := ⟨_, rfl⟩
      rw [← hK] at hlook
      cases hd : Qy.kOk K
      · rw [hd] at hlook
        have Hlook := Lib.hid hlook
        clear hlook
        have HR : Hid (R = (0, ⟨t :: r, names, shown, atoms, tests⟩) ∧ K = 0) := Lib.hid (by
          have : K = 0 := by simpa [Qy.kOk] using hd
          refine ⟨?_, this⟩
          rw [hR]; unfold Qy.kind; simp only; rw [if_neg (by rw [← hK]; simp [this])])
        clear hR hK hk1 hd
        go_enter Tryd.func45, Tryd.ntmps45
        go_wp2_with fail
        have hlook := Hlook.out
        go_quiet (fail)
        clear hlook
        go_wp2_with fail
        go_ret2
        exact ⟨by rw [HR.out.1, HR.out.2]; rfl, by rw [HR.out.1]; exact Hsame.out.drewN _, Fr.drewN _ _ _⟩
      · rw [hd] at hlook
        have Hlook := Lib.hid hlook
        clear hlook
        have HR : Hid (R = (K, ⟨r, names, shown, atoms, tests⟩) ∧ Qy.kOk K = true) := Lib.hid (by
          refine ⟨?_, hd⟩
          rw [hR]; unfold Qy.kind; simp only; rw [if_pos ⟨hk1, by rw [← hK]; simpa [Qy.kOk] using hd⟩, ← hK])
        clear hR hK hk1 hd
        have hne : b ≠ g := by omega
        go_enter Tryd.func45, Tryd.ntmps45
        go_wp2_with fail
        have hlook := Hlook.out
        go_quiet (fail)
        clear hlook
        go_wp2_with fail
        · rename_i hc1
          have hr : r = [] := List.eq_nil_of_length_eq_zero (by omega)
          go_ret2
          rw [HR.out.1]
          have hE := HR.out.2
          refine ⟨by show _ = Ending.returned (.tuple #[.int .i64 (K : Nat), .bool (Qy.kOk K)]); rw [hE]; rfl, ?_⟩
          have hF := Hc.out nq b o 0 (fun h => absurd hr h) (by rw [hr]; exact Nat.le_refl 0)
          exact ⟨by simpa using hF.1, Fr.draw (by simpa using hF.2)⟩
        · go_ret2
          rw [HR.out.1]
          have hE := HR.out.2
          refine ⟨by show _ = Ending.returned (.tuple #[.int .i64 (K : Nat), .bool (Qy.kOk K)]); rw [hE]; rfl, ?_⟩
          have hF := Hc.out nq b (o + 4) (c - 1) (fun _ => ⟨rfl, rfl⟩) (by omega)
          exact ⟨by simpa using hF.1, Fr.draw (by simpa using hF.2)⟩
    · have HR : Hid (R = (0, ⟨t :: r, names, shown, atoms, tests⟩)) := Lib.hid (by rw [hR]; unfold Qy.kind; simp only; rw [if_neg (by simp at hk2; simp [hk2])])
      clear hR hlook
      go_enter Tryd.func45, Tryd.ntmps45
      go_wp2_with fail
      go_ret2
      exact ⟨by rw [HR.out]; rfl, by rw [HR.out]; exact Hsame.out, Fr.refl _ _⟩
end Go.Proofs.YtjonaidancomgaaDoor
