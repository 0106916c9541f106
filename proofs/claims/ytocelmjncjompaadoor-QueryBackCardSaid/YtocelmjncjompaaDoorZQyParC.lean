/- Parts of the proof, joined into one text: QyParC, QyIdx, QyArgs. -/
import Derived.Test.YtocelmjncjompaaDoorZLxCard
import Derived.Maps.OwnSet
import Derived.Test.YtocelmjncjompaaDoorZLxM
import Derived.Deep.AppendLies
import Derived.Deep.RegionLaw
import Derived.Deep.LoopGhost
import Derived.OwnWalkIn
import Derived.TacticsInMore
import Derived.LoopIn

namespace Go.Proofs.YtocelmjncjompaaDoor
open Go.RowKit

/-- What the parser owns: its names, and the query so far. -/
structure POwn (g : Nat) (names : List (List UInt8)) (shown : List Int) (atoms : List Qy.Atom) (tests : List Qy.Test) (vN vS vA vT : Value) (w : World) : Prop where
  n : w.ownsRow g 9 1 vN names.length (names.flatMap strC)
  s : w.ownsRow g 3 1 vS shown.length (shown.flatMap intC)
  a : w.ownsRow g 76 9 vA atoms.length (atoms.flatMap atomC)
  t : w.ownsRow g 78 5 vT tests.length (tests.flatMap testC)
theorem POwn.below {g : Nat} {names : List (List UInt8)} {shown : List Int} {atoms : List Qy.Atom} {tests : List Qy.Test} {vN vS vA vT : Value} {w w' : World} (h : POwn g names shown atoms tests vN vS vA vT w) (hb : Below w.heap.size w w') : POwn g names shown atoms tests vN vS vA vT w' :=
  ⟨own_below h.n hb, own_below h.s hb, own_below h.a hb, own_below h.t hb⟩
theorem POwn.set {g : Nat} {names : List (List UInt8)} {shown : List Int} {atoms : List Qy.Atom} {tests : List Qy.Test} {vN vS vA vT : Value} {w : World} (h : POwn g names shown atoms tests vN vS vA vT w) {cs : Array Value} (hb : Blk w g 105 cs) (i : Nat) (u : Value) : POwn g names shown atoms tests vN vS vA vT (w.setCell ⟨g, i, none⟩ u) :=
  ⟨own_setCell_far h.n (own_ne h.n hb (by decide)) u, own_setCell_far h.s (own_ne h.s hb (by decide)) u, own_setCell_far h.a (own_ne h.a hb (by decide)) u, own_setCell_far h.t (own_ne h.t hb (by decide)) u⟩
theorem own_apart {w : World} {b1 b2 s1 s2 n1 n2 : Nat} {e1 e2 : TypeId} {v1 v2 : Value} {x1 x2 : List Value} (h1 : w.ownsRow b1 e1 s1 v1 n1 x1) (h2 : w.ownsRow b2 e2 s2 v2 n2 x2) (hne : e1 ≠ e2) : v1.ownBlock = none ∨ v1.ownBlock ≠ v2.ownBlock := by
  rcases h1.2 with ⟨rfl, _⟩ | ⟨g, cap, cur, rfl, _, hh, _⟩
  · exact .inl rfl
  · right
    intro e
    rcases h2.2 with ⟨rfl, _⟩ | ⟨g', cap', cur', rfl, _, hh', _⟩
    · simp [Value.ownBlock] at e
    · have : g = g' := by simpa [Value.ownBlock] using e
      subst this
      rw [hh] at hh'
      injection hh' with hh'
      injection hh' with _ ht
      exact hne ht
theorem KindsAt.under {w w' : World} {b B : Nat} (h : KindsAt w b) (hb : Below B w w') (hlt : b < B) : KindsAt w' b := by
  obtain ⟨es, clock, hh, F, hs, hD⟩ := h
  exact ⟨es, clock, (hb.block b hlt).trans hh, F, hs, hD⟩

/-- The parser's struct (block g) holds the state s. -/
structure PSt (g B mb : Nat) (last : Int) (s : Qy.St) (w : World) : Prop where
  st : ∃ A c vN vS vA vT, Blk w g 105 #[.slice A s.toks.length c, .int .i64 last, .map (some mb), vN, .slice none 0 0, vS, vA, vT] ∧ Toks w B A s.toks ∧ s.toks.length ≤ c ∧ POwn g s.names s.shown s.atoms s.tests vN vS vA vT w
  kinds : KindsAt w mb
  mlt : mb < g
  blt : B ≤ g
  few : s.names.length ≤ 8
  txts : ∀ t ∈ s.names, t.length ≤ 140737488351232
theorem PSt.lt {g B mb : Nat} {last : Int} {s : Qy.St} {w : World} (h : PSt g B mb last s w) : g < w.heap.size := by
  obtain ⟨A, c, vN, vS, vA, vT, hb, _⟩ := h.st
  exact hb.lt
theorem PSt.next {g B mb : Nat} {last : Int} {s : Qy.St} {w w' : World} (h : PSt g B mb last s w) (hb : Below w.heap.size w w') : PSt g B mb last s w' := by
  have hlt := h.lt
  obtain ⟨⟨A, c, vN, vS, vA, vT, h1, h2, h3, h4⟩, hk, hm, hB, hf, ht⟩ := h
  exact ⟨⟨A, c, vN, vS, vA, vT, h1.below hb hlt, h2.below hb (by omega), h3, h4.below hb⟩, hk.below hb, hm, hB, hf, ht⟩

/-- Block k is a row that the parser's struct (block g) owns. -/
def Owned (w : World) (g k : Nat) : Prop := ∃ i v, (i = 3 ∨ i = 5 ∨ i = 6 ∨ i = 7) ∧ w.cell? ⟨g, i, none⟩ = some v ∧ v.ownBlock = some k
/-- What a step of the parser leaves as it was: all but its struct and its rows. -/
structure Fr (g : Nat) (w w' : World) : Prop where
  bel : Below g w w'
  keep : ∀ k, k < w.heap.size → k ≠ g → ¬ Owned w g k → w'.heap[k]? = w.heap[k]?
  own : ∀ k, k < w.heap.size → Owned w' g k → Owned w g k
section
variable {g : Nat} {w w' w'' : World}
theorem Fr.refl (g : Nat) (w : World) : Fr g w w := ⟨Below.refl _ _, fun _ _ _ _ => rfl, fun _ _ h => h⟩
theorem Fr.trans (h : Fr g w w') (k : Fr g w' w'') : Fr g w w'' :=
  ⟨h.bel.trans k.bel, fun i hi hg ho => (k.keep i (by have := h.bel.size; omega) hg (fun h' => ho (h.own i hi h'))).trans (h.keep i hi hg ho),
    fun i hi h' => h.own i hi (k.own i (by have := h.bel.size; omega) h')⟩
theorem Fr.drewN (g : Nat) (w : World) (n : Nat) : Fr g w (w.drewN n) := ⟨bel_drewN (Below.refl _ _) n, fun _ _ _ _ => rfl, fun _ _ h => h⟩
theorem Fr.draw {n : Nat} (h : Fr g (w.drewN n) w') : Fr g w w' := (Fr.drewN g w n).trans h
/-- All but block g is as it was, and its cells from the fourth on. -/
theorem Fr.at0 {t : TypeId} {cs : Array Value} (hb : Blk w g t cs) (u : Value) : Fr g w (w.setCell ⟨g, 0, none⟩ u) :=
  ⟨Below.setCell (Below.refl g w) (show g ≤ (⟨g, 0, none⟩ : Addr).block from Nat.le_refl g) u, fun k _ hg _ => Below.heap_setCell w _ u k hg, fun k _ ⟨i, v, hi, hc, hv⟩ => ⟨i, v, hi, by
    rw [(hb.set 0 u).cell i] at hc
    rw [hb.cell i, ← hc, Array.getElem?_setIfInBounds_ne (by omega)], hv⟩⟩
theorem Fr.alloc (hg : g < w.heap.size) (o : Obj) : Fr g w (w.alloc o) :=
  ⟨(Below.refl _ _).alloc (by omega) o, fun k hk _ _ => Below.heap_alloc w o k hk, fun _ _ ⟨i, v, hi, hc, hv⟩ => ⟨i, v, hi, by rw [← hc]; exact (cell_alloc_old w o g i hg).symm, hv⟩⟩
theorem Fr.setFar (h : Fr g w w') {p i : Nat} (hp : w.heap.size ≤ p) (hg : g < w.heap.size) (u : Value) : Fr g w (w'.setCell ⟨p, i, none⟩ u) :=
  ⟨h.bel.setCell (show g ≤ p by omega) u, fun k hk hne ho => (Below.heap_setCell w' _ u k (show k ≠ p by omega)).trans (h.keep k hk hne ho), fun k hk ⟨j, v, hi, hc, hv⟩ => h.own k hk ⟨j, v, hi, by
    rw [← hc]; exact ((World.cell?_of_block (a := ⟨g, j, none⟩) (Below.heap_setCell w' ⟨p, i, none⟩ u g (show g ≠ p by omega)))).symm, hv⟩⟩
/-- A row of the struct has grown. -/
theorem Fr.grow {t : TypeId} {cs : Array Value} {i : Nat} {v v' : Value} {gg : Nat} {w1 w2 : World} (hb : Blk w g t cs) (hi : i = 3 ∨ i = 5 ∨ i = 6 ∨ i = 7) (hv : cs[i]? = some v) (hb2 : Blk w2 g t cs) (hbel : Below g w w2) (h1 : Below w.heap.size w w1)
    (hgrow : w1.grownBy w2 v.ownBlock) (hv' : v'.ownBlock = some gg) (hgg : v.ownBlock = some gg ∨ w.heap.size ≤ gg) : Fr g w (w2.setCell ⟨g, i, none⟩ v') := by
  have hlt : i < cs.size := (Array.getElem?_eq_some_iff.1 hv).1
  refine ⟨hbel.setCell (show g ≤ g from Nat.le_refl g) v', fun k hk hg ho => ?_, fun k hk ⟨j, u, hj, hc, hu⟩ => ?_⟩
  · rw [Below.heap_setCell w2 _ v' k hg]
    have hne : some k ≠ v.ownBlock := fun e => ho ⟨i, v, hi, by rw [hb.cell i, hv], e.symm⟩
    rw [hgrow.block k (by have := h1.size; omega) hne, h1.block k hk]
  · rw [(hb2.set i v').cell j] at hc
    by_cases hji : i = j
    · subst hji
      rw [Array.getElem?_setIfInBounds_self, if_pos hlt] at hc
      injection hc with hc
      subst hc
      rw [hv'] at hu
      injection hu with hu
      subst hu
      rcases hgg with h | h
      · exact ⟨i, v, hi, by rw [hb.cell i, hv], h⟩
      · omega
    · rw [Array.getElem?_setIfInBounds_ne hji] at hc
      exact ⟨j, u, hj, by rw [hb.cell j, hc], hu⟩
end

/-- How a step of the parser ends. -/
def Par {α : Type} (g B mb : Nat) (last : Int) (w : World) (val : α → Value) (r : Qy.R α) (e : Ending) (w' : World) : Prop :=
  match r with
  | .ok a s => e = .returned (val a) ∧ PSt g B mb last s w' ∧ Fr g w w'
  | .bad p x => FailAt p x e ∧ Fr g w w'
def uV : Unit → Value := fun _ => .tuple #[]
def iV : Int → Value := .int .i64
def aV : Qy.Arg → Value := fun a => .agg #[.bool a.var, .int .i64 a.n]

theorem Qy.fail_eq {α : Type} (last : Int) (s : Qy.St) (x : Int) : Qy.fail (α := α) last s x = .bad (Qy.front last s.toks) x := rfl
theorem Qy.skip_eq (k : Int) (x : List UInt8) (s : Qy.St) : Qy.skip k x s = (Qy.hit k x s.toks, if Qy.hit k x s.toks then { s with toks := s.toks.tail } else s) := by
  unfold Qy.skip Qy.hit
  cases s.toks with
  | nil => rfl
  | cons t r =>
    by_cases h : t.kind = k ∧ t.text = x
    · have : (t.kind == k && t.text == x) = true := by simp [h.1, h.2]
      simp only [this, if_pos h]
      rfl
    · have : (t.kind == k && t.text == x) = false := by
        cases h1 : t.kind == k <;> cases h2 : t.text == x <;> simp_all
      simp only [this, if_neg h]
      rfl

theorem toks_cut {w : World} {B b o g : Nat} {t : Lx.Tok} {r : List Lx.Tok} (hT : Toks w B (some ⟨b, o, none⟩) (t :: r)) (hBg : B ≤ g) (u : Value) (b1 o1 : Nat) (h : r ≠ [] → b1 = b ∧ o1 = o + 4) : Toks (w.setCell ⟨g, 0, none⟩ u) B (some ⟨b1, o1, none⟩) r :=
  ⟨fun j y hj => by
    have hr : r ≠ [] := by intro e; rw [e] at hj; simp at hj
    obtain ⟨rfl, rfl⟩ := h hr
    obtain ⟨b2, o2, e2, hb2, h4⟩ := hT.at_ (j + 1) y (by simpa using hj)
    injection e2 with e2
    injection e2 with e3 e4
    subst e3; subst e4
    refine ⟨_, _, rfl, hb2, ?_⟩
    rw [show o + 4 + j * 4 = o + (j + 1) * 4 by omega]
    exact h4.cells fun i => (Below.setCell (Below.refl g w) (show g ≤ (⟨g, 0, none⟩ : Addr).block from Nat.le_refl g) u).cell (p := ⟨b1, i, none⟩) (show b1 < g by omega), by have := hT.len; simp only [List.length_cons] at this; omega, fun y hy => hT.texts y (List.mem_cons_of_mem _ hy)⟩
theorem set_below {g i : Nat} {w : World} (u : Value) : Below g w (w.setCell ⟨g, i, none⟩ u) := Below.setCell (Below.refl g w) (show g ≤ (⟨g, i, none⟩ : Addr).block from Nat.le_refl g) u
/-- The tokens are cut by the one in front. -/
theorem pst_cut {g B mb b o : Nat} {last : Int} {t : Lx.Tok} {r : List Lx.Tok} {names : List (List UInt8)} {shown : List Int} {atoms : List Qy.Atom} {tests : List Qy.Test} {w : World} {v0 vN vS vA vT : Value}
    (hb : Blk w g 105 #[v0, .int .i64 last, .map (some mb), vN, .slice none 0 0, vS, vA, vT]) (hT : Toks w B (some ⟨b, o, none⟩) (t :: r)) (ho : POwn g names shown atoms tests vN vS vA vT w)
    (hk : KindsAt w mb) (hm : mb < g) (hB : B ≤ g) (hf : names.length ≤ 8) (htx : ∀ t ∈ names, t.length ≤ 140737488351232) (b1 o1 c1 : Nat) (h1 : r ≠ [] → b1 = b ∧ o1 = o + 4) (hc : r.length ≤ c1) :
    PSt g B mb last ⟨r, names, shown, atoms, tests⟩ (w.setCell ⟨g, 0, none⟩ (.slice (some ⟨b1, o1, none⟩) r.length c1)) ∧ Fr g w (w.setCell ⟨g, 0, none⟩ (.slice (some ⟨b1, o1, none⟩) r.length c1)) :=
  ⟨⟨⟨_, _, _, _, _, _, by have := hb.set 0 (.slice (some ⟨b1, o1, none⟩) r.length c1); simpa using this, toks_cut hT hB _ _ _ h1, hc, ho.set hb _ _⟩, hk.under (set_below _) hm, hm, hB, hf, htx⟩, Fr.at0 hb _⟩

theorem lSkip (g B mb : Nat) (last k : Int) (x : ByteArray) (s : Qy.St) (w : World) (h : PSt g B mb last s w) :
    Calls Tryd.prog 85 #[.pointer (some ⟨g, 0, none⟩), .int .i64 k, .string x] w fun e w' => e = .returned (.bool (Qy.skip k x.data.toList s).1) ∧ PSt g B mb last (Qy.skip k x.data.toList s).2 w' ∧ Fr g w w' := by
  obtain ⟨⟨A, c, vN, vS, vA, vT, hb, hT, hc, ho⟩, hk, hm, hB, hf, htx⟩ := h
  rw [Qy.skip_eq]
  cases hh : Qy.hit k x.data.toList s.toks
  · refine (lSkipNo g B c A s.toks k x _ _ _ _ _ _ _ w hb hT hh).mono ?_
    rintro e w' ⟨rfl, rfl⟩
    exact ⟨rfl, ⟨⟨A, c, vN, vS, vA, vT, hb, hT, hc, ho⟩, hk, hm, hB, hf, htx⟩, Fr.refl _ _⟩
  · obtain ⟨toks, names, shown, atoms, tests⟩ := s
    cases toks with
    | nil => cases hh
    | cons t r =>
      refine (lSkipYes g B c A t r k x _ _ _ _ _ _ _ w hb hT hc hB hh).mono ?_
      rintro e w' ⟨rfl, A', c', hb', hT', hc', u, rfl⟩
      exact ⟨rfl, ⟨⟨A', c', vN, vS, vA, vT, hb', hT', hc', ho.set hb _ _⟩, hk.under (set_below _) hm, hm, hB, hf, htx⟩, Fr.at0 hb _⟩

theorem lNeed (n : Nat) (g B mb : Nat) (last k : Int) (x : ByteArray) (s : Qy.St) (w : World) (h : PSt g B mb last s w)
    (hno : ∀ (c : Nat) (A : Option Addr) (l : List Lx.Tok) (v2 v3 v4 v5 v6 v7 : Value), Blk w g 105 #[.slice A l.length c, .int .i64 last, v2, v3, v4, v5, v6, v7] → Toks w B A l → Qy.hit k x.data.toList l = false →
      Calls Tryd.prog n #[.pointer (some ⟨g, 0, none⟩), .string x] w fun e w' => FailAt (Qy.front last l) 500 e ∧ w = w')
    (hyes : ∀ (c : Nat) (A : Option Addr) (t : Lx.Tok) (r : List Lx.Tok) (v1 v2 v3 v4 v5 v6 v7 : Value), Blk w g 105 #[.slice A (r.length + 1) c, v1, v2, v3, v4, v5, v6, v7] → Toks w B A (t :: r) → r.length + 1 ≤ c → B ≤ g → Qy.hit k x.data.toList (t :: r) = true →
      Calls Tryd.prog n #[.pointer (some ⟨g, 0, none⟩), .string x] w fun e w' => e = .returned (.tuple #[]) ∧
        ∃ A' c', Blk w' g 105 #[.slice A' r.length c', v1, v2, v3, v4, v5, v6, v7] ∧ Toks w' B A' r ∧ r.length ≤ c' ∧ ∃ u, w' = w.setCell ⟨g, 0, none⟩ u) :
    Calls Tryd.prog n #[.pointer (some ⟨g, 0, none⟩), .string x] w (Par g B mb last w uV (Qy.need last k x.data.toList s)) := by
  obtain ⟨⟨A, c, vN, vS, vA, vT, hb, hT, hc, ho⟩, hk, hm, hB, hf, htx⟩ := h
  unfold Qy.need
  rw [Qy.skip_eq]
  cases hh : Qy.hit k x.data.toList s.toks
  · refine (hno c A s.toks _ _ _ _ _ _ hb hT hh).mono ?_
    rintro e w' ⟨he, rfl⟩
    exact ⟨he, Fr.refl _ _⟩
  · obtain ⟨toks, names, shown, atoms, tests⟩ := s
    cases toks with
    | nil => cases hh
    | cons t r =>
      refine (hyes c A t r _ _ _ _ _ _ _ hb hT hc hB hh).mono ?_
      rintro e w' ⟨rfl, A', c', hb', hT', hc', u, rfl⟩
      exact ⟨rfl, ⟨⟨A', c', vN, vS, vA, vT, hb', hT', hc', ho.set hb _ _⟩, hk.under (set_below _) hm, hm, hB, hf, htx⟩, Fr.at0 hb _⟩
theorem lWord (g B mb : Nat) (last : Int) (x : ByteArray) (s : Qy.St) (w : World) (h : PSt g B mb last s w) :
    Calls Tryd.prog 83 #[.pointer (some ⟨g, 0, none⟩), .string x] w (Par g B mb last w uV (Qy.word last x.data.toList s)) :=
  lNeed _ g B mb last 1 x s w h (fun c A l _ _ _ _ _ _ => lWordNo g B c A l last x _ _ _ _ _ _ w) (fun c A t r _ _ _ _ _ _ _ => lWordYes g B c A t r x _ _ _ _ _ _ _ w)
theorem lSign (g B mb : Nat) (last : Int) (x : ByteArray) (s : Qy.St) (w : World) (h : PSt g B mb last s w) :
    Calls Tryd.prog 90 #[.pointer (some ⟨g, 0, none⟩), .string x] w (Par g B mb last w uV (Qy.need last 3 x.data.toList s)) :=
  lNeed _ g B mb last 3 x s w h (fun c A l _ _ _ _ _ _ => lSignNo g B c A l last x _ _ _ _ _ _ w) (fun c A t r _ _ _ _ _ _ _ => lSignYes g B c A t r x _ _ _ _ _ _ _ w)

set_option maxHeartbeats 1000000 in
theorem lNumber (g B mb : Nat) (last most : Int) (s : Qy.St) (w : World) (h : PSt g B mb last s w) :
    Calls Tryd.prog 100 #[.pointer (some ⟨g, 0, none⟩), .int .i64 most] w (Par g B mb last w iV (Qy.number last most s)) := by
  obtain ⟨⟨A, c, vN, vS, vA, vT, hb, hT, hcap, ho⟩, hk, hm, hB, hf, htx⟩ := h
  obtain ⟨toks, names, shown, atoms, tests⟩ := s
  simp only at hb hT hcap ho hf htx
  have h2 := Lib.hid (lFail g B c A toks last 500 _ _ _ _ _ _ w hb hT)
  have c0 := hb.cell 0
  have f0 := hb.free 0
  simp at c0
  obtain ⟨R, hR⟩ : ∃ R, R = Qy.number last most ⟨toks, names, shown, atoms, tests⟩ := ⟨_, rfl⟩
  rw [← hR]
  cases toks with
  | nil =>
    have HR := Lib.hid hR
    clear hR hb hT ho hk htx hm hB hf
    go_enter Tryd.func100, Tryd.ntmps100
    go_wp2_with fail
    refine (h2.out).mono ?_
    rintro e w1 ⟨he, rfl⟩
    unfold FailAt at he
    subst he
    exact ⟨rfl, by rw [HR.out]; exact ⟨rfl, Fr.refl _ _⟩⟩
  | cons t r =>
    obtain ⟨b, o, rfl, hbB, q0, q1, q2, q3⟩ := hT.at_ 0 t rfl
    have hl := hT.len
    simp only [List.length_cons] at hl c0 hcap
    simp only [Nat.zero_mul, Nat.add_zero] at q0 q1 q2 q3
    have Hc := Lib.hid (pst_cut hb hT ho hk hm hB hf htx)
    clear hb hT ho hk htx hf
    cases hk2 : t.kind != 2
    · by_cases hmost : most < t.n
      · have HR : Hid (R = .bad t.pos 500) := Lib.hid (by rw [hR]; unfold Qy.number; simp only; rw [if_neg (by omega)]; rfl)
        clear hR
        go_enter Tryd.func100, Tryd.ntmps100
        go_wp2_with fail
        refine (h2.out).mono ?_
        rintro e w1 ⟨he, rfl⟩
        unfold FailAt at he
        subst he
        exact ⟨rfl, by rw [HR.out]; exact ⟨rfl, Fr.refl _ _⟩⟩
      · have HR : Hid (R = .ok t.n ⟨r, names, shown, atoms, tests⟩) := Lib.hid (by
          rw [hR]; unfold Qy.number; simp only; rw [if_pos ⟨by simpa using hk2, by omega⟩])
        clear hR
        have hne : b ≠ g := by omega
        go_enter Tryd.func100, Tryd.ntmps100
        go_wp2_with fail
        · rename_i hc1
          have hr : r = [] := List.eq_nil_of_length_eq_zero (by omega)
          go_ret
          rw [HR.out]
          exact ⟨rfl, by simpa using Hc.out _ _ _ (fun h => absurd hr h) (by omega)⟩
        · go_ret
          rw [HR.out]
          exact ⟨rfl, by simpa using Hc.out _ _ _ (fun _ => ⟨rfl, rfl⟩) (by omega)⟩
    · have HR : Hid (R = .bad t.pos 500) := Lib.hid (by rw [hR]; unfold Qy.number; simp only; rw [if_neg (by simp at hk2; simp [hk2])]; rfl)
      clear hR
      go_enter Tryd.func100, Tryd.ntmps100
      go_wp2_with fail
      refine (h2.out).mono ?_
      rintro e w1 ⟨he, rfl⟩
      unfold FailAt at he
      subst he
      exact ⟨rfl, by rw [HR.out]; exact ⟨rfl, Fr.refl _ _⟩⟩
end Go.Proofs.YtocelmjncjompaaDoor

namespace Go.Proofs.YtocelmjncjompaaDoor
open Go.RowKit Go.Maps Go.WideMaps

def Qy.idx {α : Type} [BEq α] (l : List α) (x : α) : Int := match l.findIdx? (· == x) with | some i => (i : Int) | none => -1
theorem Qy.idx_some {α : Type} [BEq α] [LawfulBEq α] {l : List α} {x : α} {k : Nat} (h : l[k]? = some x) (hno : ∀ j, j < k → ∀ y, l[j]? = some y → (y == x) = false) : l.findIdx? (· == x) = some k := by
  induction l generalizing k with
  | nil => simp at h
  | cons y r ih =>
    cases k with
    | zero => simp at h; simp [List.findIdx?_cons, h]
    | succ k =>
      have h0 := hno 0 (by omega) y (by simp)
      rw [List.findIdx?_cons, h0, ih (by simpa using h) (fun j hj z hz => hno (j + 1) (by omega) z (by simpa using hz))]
      rfl
theorem Qy.idx_none {α : Type} [BEq α] {l : List α} {x : α} (hno : ∀ (j : Nat) (y : α), l[j]? = some y → (y == x) = false) : l.findIdx? (· == x) = none := by
  rw [List.findIdx?_eq_none_iff]
  intro y hy
  obtain ⟨j, hj⟩ := List.mem_iff_getElem?.1 hy
  exact hno j y hj

set_option maxHeartbeats 1000000 in
theorem lIndexStr (A : Option Addr) (B c : Nat) (l : List (List UInt8)) (x : List UInt8) (w : World) (h : Lies w B A 1 (l.map strC)) :
    Calls Tryd.prog 60 #[.slice A l.length c, .string (Lx.bs x)] w fun e w' => e = .returned (.int .i64 (Qy.idx l x)) ∧ w = w' := by
  have hl := h.len
  rw [List.length_map] at hl
  obtain ⟨n, hn⟩ : ∃ n, n = l.length := ⟨_, rfl⟩
  rw [← hn] at hl ⊢
  have Hn := Lib.hid hn
  clear hn
  go_enter Tryd.func60, Tryd.ntmps60
  go_wp2
  go_loopw [8] (fun v8 wr => ∃ k : Nat, k ≤ n ∧ v8 = .int .i64 k ∧ Hid (∀ j, j < k → ∀ y, l[j]? = some y → (y == x) = false) ∧ w = wr) (fun v8 _ => n - (intOf v8).toNat)
  case atStart => exact ⟨0, by omega, rfl, Lib.hid (fun j hj => absurd hj (Nat.not_lt_zero j)), rfl⟩
  case round =>
    obtain ⟨k, hk, rfl, hno, rfl⟩ := hrel
    by_cases hlt : k < n
    · obtain ⟨y, hy⟩ : ∃ y, l[k]? = some y := ⟨_, List.getElem?_eq_getElem (by have := Hn.out; omega)⟩
      obtain ⟨b, o, rfl, hb, hc⟩ := h.at_ k (strC y) (by rw [List.getElem?_map, hy]; rfl)
      have hc1 := hc 0 _ rfl
      rw [Nat.mul_one, Nat.add_zero] at hc1
      have Hy := Lib.hid hy
      clear hc hy h
      have hsw : ((Lx.bs x).toList == (Lx.bs y).toList) = (y == x) := by
        rw [ByteArray.toList_eq, ByteArray.toList_eq, Lx.bs_list, Lx.bs_list, Bool.eq_iff_iff, beq_iff_eq, beq_iff_eq]
        exact eq_comm
      cases hq : y == x
      · rw [hq] at hsw
        have Hq := Lib.hid hq
        clear hq
        go_wp2
        go_roundw
        case rel => exact ⟨k + 1, by omega, by go_num, Lib.hid (fun j hj z hz => by
          rcases Nat.lt_or_ge j k with h1 | h1
          · exact hno.out j h1 z hz
          · obtain rfl : j = k := by omega
            rw [Hy.out] at hz; injection hz with hz; rw [← hz]; exact Hq.out), trivial⟩
        case measure => simp [intOf]; omega
      · rw [hq] at hsw
        have Hq := Lib.hid hq
        clear hq
        go_wp2
        go_ret
        refine ⟨ret_int ?_, rfl⟩
        have hyx : y = x := by simpa using Hq.out
        unfold Qy.idx
        rw [Qy.idx_some (k := k) (by rw [Hy.out, hyx]) hno.out]
    · obtain rfl : k = n := by omega
      clear h
      go_wp2
      go_ret
      refine ⟨ret_int ?_, rfl⟩
      unfold Qy.idx
      rw [Qy.idx_none (fun j y hy => hno.out j (by have := (List.getElem?_eq_some_iff.1 hy).1; have := Hn.out; omega) y hy)]

def Qy.kOk (k : Nat) : Bool := decide (k ≠ 0)
set_option maxRecDepth 20000 in
theorem KindsAt.look2 {w : World} {b : Nat} (h : KindsAt w b) (s : ByteArray) (hs : s.size ≤ maxLen) : (Instr.lookup 88 (.map (some b)) (.string s) true).run Tryd.prog w = .ok (.tuple #[.int .i64 (Qy.kindOf s.data.toList : Nat), .bool (Qy.kOk (Qy.kindOf s.data.toList))]) w := by
  obtain ⟨v, ps, hrun, hv⟩ := World.ownsMap.look_ok h keyLaw Tryd.underlying88 (zeroInt w) (plainElem_int Tryd.underlying3 (WalkArith.wf_i64 (n := 0) (by omega))) (keyOf_string_mk Tryd.underlying9 hs)
  obtain ⟨c, rfl, hc, _⟩ := plainElem_int_inv Tryd.underlying3 hv
  simp only [Prod.mk.injEq] at hc
  obtain ⟨hat, _⟩ := hc
  rw [Qy.kindD_kind] at hat
  injection hat with hat
  injection hat with _ hat
  have hk12 := Qy.kindD_at s.data.toList
  have ht : Qy.kindWords.take 12 = Qy.kindWords := rfl
  have hhas : has (Qy.kindD 12) (.string s.data.toList) = decide (Qy.kindOf s.data.toList ≠ 0) := by
    unfold Qy.kindOf
    cases hf : Qy.kindWords.findIdx? (· == s.data.toList) with
    | none => exact has_false_of_atKey (fun z => by rw [hk12 z 12 (Nat.le_refl _), ht, hf])
    | some i => rw [has_true_of_atKey (fun z => by rw [hk12 z 12 (Nat.le_refl _), ht, hf])]; simp
  rw [hrun, ← hat, hhas]
  rfl

theorem flat_cells {sz : Nat} : ∀ (L : List (List Value)), (∀ c ∈ L, c.length = sz) → ∀ (k j : Nat) (cs : List Value) (v : Value), L[k]? = some cs → cs[j]? = some v → L.flatten[k * sz + j]? = some v
  | [], _, k, j, cs, v, h, _ => by simp at h
  | c :: r, hl, 0, j, cs, v, h, hv => by
    simp at h; subst h
    rw [List.flatten_cons, List.getElem?_append_left (by have := (List.getElem?_eq_some_iff.1 hv).1; omega)]
    simpa using hv
  | c :: r, hl, k + 1, j, cs, v, h, hv => by
    have hc := hl c (by simp)
    rw [List.flatten_cons, List.getElem?_append_right (by rw [hc, Nat.succ_mul]; omega), hc, show (k + 1) * sz + j - sz = k * sz + j by rw [Nat.succ_mul]; omega]
    exact flat_cells r (fun c hc => hl c (by simp [hc])) k j cs v (by simpa using h) hv
theorem own_lies {w : World} {base n sz : Nat} {e : TypeId} {v : Value} {xs : List Value} (h : w.ownsRow base e sz v n xs) (L : List (List Value)) (hx : xs = L.flatten) (hl : ∀ c ∈ L, c.length = sz) (hn : n = L.length) (hb : n ≤ 140737488351232) : ∃ A c, v = .slice A n c ∧ n ≤ c ∧ Lies w w.heap.size A sz L := by
  have hcells := fun g hg => World.ownsRow.cells h (g := g) hg
  have hlt := World.ownsRow.lt h
  rcases h.2 with ⟨rfl, h0⟩ | ⟨g, cap, cur, rfl, _, _, hcap, _⟩
  · refine ⟨none, 0, by rw [h0], by omega, ?_⟩
    have : L = [] := List.eq_nil_of_length_eq_zero (by omega)
    subst this
    exact Lies.nil _ _ _ _
  · refine ⟨_, _, rfl, hcap, ⟨fun k cs hk => ⟨g, 0, rfl, (hlt g rfl).2, fun j u hj => ?_⟩, by omega⟩⟩
    have := hcells g rfl (k * sz + j) u (by rw [hx]; exact flat_cells L hl k j cs u hk hj)
    have hadd : (⟨g, 0, none⟩ : Addr).add (k * sz + j) = ⟨g, 0 + k * sz + j, none⟩ := by unfold Addr.add; split <;> simp_all
    rwa [hadd] at this
end Go.Proofs.YtocelmjncjompaaDoor

namespace Go.Proofs.YtocelmjncjompaaDoor
open Go.RowKit Go.Maps Go.WideMaps

/-- Where the arguments of the atoms and of the tests lie. -/
def Qy.inAtom (A : Option Addr) (i : Nat) : List Addr := match A with
  | some a => [⟨a.block, a.off + i * 9 + 1, none⟩, ⟨a.block, a.off + i * 9 + 3, none⟩, ⟨a.block, a.off + i * 9 + 5, none⟩]
  | none => []
def Qy.inTest (A : Option Addr) (i : Nat) : List Addr := match A with
  | some a => [⟨a.block, a.off + i * 5 + 1, none⟩, ⟨a.block, a.off + i * 5 + 3, none⟩]
  | none => []
def Qy.argsAt (A2 A3 : Option Addr) (n2 n3 : Nat) : List Addr := (List.range n2).flatMap (Qy.inAtom A2) ++ (List.range n3).flatMap (Qy.inTest A3)
def ptrs (l : List Addr) : List Value := l.map fun a => .pointer (some a)
theorem Tryd.infoArgP : (Tryd.prog.info? 96).map (fun i => (i.zero, i.size, i.bytes)) = some (some (.pointer none), 1, 8) := by kernel_rfl
theorem ptrs_app (a b : List Addr) : ptrs (a ++ b) = ptrs a ++ ptrs b := by simp [ptrs]
theorem ptrs_flat (l : List Addr) : ptrs l = (l.map fun a => [Value.pointer (some a)]).flatten := by
  induction l with
  | nil => rfl
  | cons a r ih => simp only [ptrs, List.map_cons, List.flatten_cons] at ih ⊢; rw [← ih]; rfl
theorem range_step {α : Type} (f : Nat → List α) (k : Nat) : (List.range (k + 1)).flatMap f = (List.range k).flatMap f ++ f k := by rw [List.range_succ, List.flatMap_append]; simp

/-- The box of the pointer, and the query's slices of atoms and tests. -/
structure ArgsPre (Bn Qb n2 n3 c2 c3 : Nat) (A2 A3 : Option Addr) (w : World) : Prop where
  box : Blk w Bn 95 #[.pointer (some ⟨Qb, 0, none⟩)]
  two : w.cell? ⟨Qb, 2, none⟩ = some (.slice A2 n2 c2)
  three : w.cell? ⟨Qb, 3, none⟩ = some (.slice A3 n3 c3)
  lt : Qb < w.heap.size

set_option maxRecDepth 20000 in
set_option maxHeartbeats 2000000 in
theorem argsSeq (n Bn Qb n2 n3 c2 c3 : Nat) (A2 A3 : Option Addr) (h2 : n2 ≤ 1000) (h3 : n3 ≤ 1000) (ha2 : 0 < n2 → ∃ b o, A2 = some ⟨b, o, none⟩) (ha3 : 0 < n3 → ∃ b o, A3 = some ⟨b, o, none⟩) :
    SeqB Fence.wide n Tryd.prog 81 #[.pointer (some ⟨Bn, 0, none⟩)] (fun (a : Addr) => #[.pointer (some a)]) (KT 96) (Qy.argsAt A2 A3 n2 n3) (ArgsPre Bn Qb n2 n3 c2 c3 A2 A3) := by
  intro l J Jx w hPre hJ0 _ _ hY
  obtain ⟨hB, hq2, hq3, hQ⟩ := hPre
  refine callsIn_wide.2 ?_
  obtain ⟨i0, hi0, hz0, hz1, hz2⟩ := info_parts Tryd.infoArgP
  have cB := hB.cell 0
  have hBlt := hB.lt
  simp at cB
  have HJ0 := Lib.hid hJ0; have HY := Lib.hid hY
  clear hJ0 hY hB
  obtain ⟨L1, hL1⟩ : ∃ L1, L1 = (List.range n2).flatMap (Qy.inAtom A2) := ⟨_, rfl⟩
  have HL1 := Lib.hid hL1
  clear hL1
  go_enter Tryd.func81, Tryd.ntmps81
  go_wp2_with fail
  go_loopw [3, 14] (fun v3 v14 wr => ∃ k : Nat, k ≤ n2 ∧ v14 = .int .i64 k ∧ wr.ownsRow w.heap.size 96 1 v3 (3 * k) (ptrs ((List.range k).flatMap (Qy.inAtom A2))) ∧ Below w.heap.size w wr) (fun _ v14 _ => n2 - (intOf v14).toNat)
  case atStart => exact ⟨0, by omega, rfl, ⟨rfl, .inl ⟨rfl, rfl⟩⟩, Below.refl _ _⟩
  case round =>
    obtain ⟨k, hk, rfl, hown, hbel⟩ := hrel
    by_cases hlt : k < n2
    · obtain ⟨b, o, rfl⟩ := ha2 (by omega)
      have cB' := (hbel.cell (p := ⟨Bn, 0, none⟩) hBlt).trans cB
      have cq := (hbel.cell (p := ⟨Qb, 2, none⟩) hQ).trans hq2
      have hsz := hbel.size
      obtain ⟨vA, cA, rfl⟩ := own_form hown
      have Hown := Lib.hid hown; have Hbel := Lib.hid hbel
      clear hown hbel
      go_wp2_with fail
      go_region_law (refine step_append_lies _ rfl _ _ _ rfl w.heap.size 96 i0 _ 1 8 Tryd.underlying127 hi0 hz0 hz1 hz2 rfl (by omega) _ (3 * k) _ rfl ((Hown.out.alloc _).drew) ⟨wr.heap.size, 0, none⟩ 3 3 [.pointer (some ⟨b, o + k * 9 + 1, none⟩), .pointer (some ⟨b, o + k * 9 + 3, none⟩), .pointer (some ⟨b, o + k * 9 + 5, none⟩)] rfl rfl (World.news_of_block (cs := #[.pointer (some ⟨b, o + k * 9 + 1, none⟩), .pointer (some ⟨b, o + k * 9 + 3, none⟩), .pointer (some ⟨b, o + k * 9 + 5, none⟩)]) (t := 96) (fr := (0, 0)) (heap_alloc_new wr _)) (by simp [Value.oneCell']) (by omega) (by unfold maxLen; omega) (by omega) (by simp; omega) (wr.heap.size + 1) (by simp) ?_; intro gg cap w3 hown3 hgrow3 hat3 hlt3; have HP := Lib.hid (And.intro hown3 (Below.grown (((Below.refl w.heap.size wr).alloc hsz _).drew) hgrow3 (by simp; omega) (fun j hj => (World.ownsRow.lt Hown.out j hj).1))); clear hown3 hgrow3 hat3)
      all_goals (try go_wp2_with fail)
      all_goals go_roundw
      all_goals first
        | (refine ⟨k + 1, by omega, by go_num, ?_, Hbel.out.trans HP.out.2⟩; rw [range_step, ptrs_app]; exact HP.out.1)
        | (simp [intOf]; omega)
    · obtain rfl : k = n2 := by omega
      rw [← HL1.out] at hown
      have Hown := Lib.hid hown; have Hbel := Lib.hid hbel
      have cB' := (hbel.cell (p := ⟨Bn, 0, none⟩) hBlt).trans cB
      have cq := (hbel.cell (p := ⟨Qb, 3, none⟩) hQ).trans hq3
      clear hown hbel
      go_wp2_with fail
      clear cB' cq
      go_loopw [3, 41] (fun v3 v41 wr => ∃ k2 : Nat, k2 ≤ n3 ∧ v41 = .int .i64 k2 ∧ wr.ownsRow w.heap.size 96 1 v3 (3 * k + 2 * k2) (ptrs (L1 ++ (List.range k2).flatMap (Qy.inTest A3))) ∧ Below w.heap.size w wr) (fun _ v41 _ => n3 - (intOf v41).toNat)
      case atStart => exact ⟨0, by omega, rfl, by simpa using Hown.out, Hbel.out⟩
      case round =>
        clear Hown Hbel
        obtain ⟨k2, hk2, rfl, hown, hbel⟩ := hrel
        by_cases hlt2 : k2 < n3
        · obtain ⟨b, o, rfl⟩ := ha3 (by omega)
          have cB' := (hbel.cell (p := ⟨Bn, 0, none⟩) hBlt).trans cB
          have cq := (hbel.cell (p := ⟨Qb, 3, none⟩) hQ).trans hq3
          have hsz := hbel.size
          obtain ⟨vA, cA, rfl⟩ := own_form hown
          have Hown := Lib.hid hown; have Hbel := Lib.hid hbel
          clear hown hbel
          go_wp2_with fail
          go_region_law (refine step_append_lies _ rfl _ _ _ rfl w.heap.size 96 i0 _ 1 8 Tryd.underlying127 hi0 hz0 hz1 hz2 rfl (by omega) _ (3 * k + 2 * k2) _ rfl ((Hown.out.alloc _).drew) ⟨wr.heap.size, 0, none⟩ 2 2 [.pointer (some ⟨b, o + k2 * 5 + 1, none⟩), .pointer (some ⟨b, o + k2 * 5 + 3 - 0, none⟩)] rfl rfl (World.news_of_block (cs := #[.pointer (some ⟨b, o + k2 * 5 + 1, none⟩), .pointer (some ⟨b, o + k2 * 5 + 3, none⟩)]) (t := 96) (fr := (0, 0)) (heap_alloc_new wr _)) (by simp [Value.oneCell']) (by omega) (by unfold maxLen; omega) (by omega) (by simp; omega) (wr.heap.size + 1) (by simp) ?_; intro gg cap w3 hown3 hgrow3 hat3 hlt3; have HP := Lib.hid (And.intro hown3 (Below.grown (((Below.refl w.heap.size wr).alloc hsz _).drew) hgrow3 (by simp; omega) (fun j hj => (World.ownsRow.lt Hown.out j hj).1))); clear hown3 hgrow3 hat3)
          all_goals (try go_wp2_with fail)
          all_goals go_roundw
          all_goals first
            | (refine ⟨k2 + 1, by omega, by go_num, ?_, Hbel.out.trans HP.out.2⟩; rw [range_step, ← List.append_assoc, ptrs_app]; exact HP.out.1)
            | (simp [intOf]; omega)
        · obtain rfl : k2 = n3 := by omega
          have hxs : L1 ++ (List.range k2).flatMap (Qy.inTest A3) = Qy.argsAt A2 A3 k k2 := by rw [HL1.out]; rfl
          rw [hxs] at hown
          have hlen : (Qy.argsAt A2 A3 k k2).length = 3 * k + 2 * k2 := by have := hown.1; simpa [ptrs] using this
          have hJ := Lib.hid (HJ0.out _ hbel)
          obtain ⟨A, cA, rfl, hcA, hL⟩ := own_lies hown ((Qy.argsAt A2 A3 k k2).map fun a => [.pointer (some a)]) (ptrs_flat _) (fun c hc => by
            obtain ⟨x, _, rfl⟩ := List.mem_map.1 hc; rfl) (by rw [List.length_map, hlen]) (by omega)
          have Hown := Lib.hid hown; have HL := Lib.hid hL
          have Hlen := Lib.hid hlen
          clear hown hbel hxs hL hlen HL1 HJ0
          obtain ⟨N, hN⟩ : ∃ N, N = 3 * k + 2 * k2 := ⟨_, rfl⟩
          rw [← hN] at Hown Hlen ⊢
          have hNb : N ≤ 5000 := by omega
          clear hN
          obtain ⟨w0, hw0⟩ : ∃ w0, w0 = wr := ⟨_, rfl⟩
          rw [← hw0] at hJ Hown HL ⊢
          clear hw0
          go_wp2_with fail
          refine (wpIn_wide (n := n)).1 ?_
          gi_loopw [64] (fun v64 wq => ∃ j : Nat, j ≤ N ∧ v64 = .int .i64 j ∧ Hid (J ((Qy.argsAt A2 A3 k k2).take j) wq) ∧ Hid (KT 96 w0 wq)) (fun v64 _ => N - (intOf v64).toNat)
          case atStart => exact ⟨0, by omega, rfl, hJ, Lib.hid (KT.refl _ _)⟩
          case round =>
            obtain ⟨j, hj, rfl, HJ, HK⟩ := hrel
            by_cases hlt3 : j < N
            · obtain ⟨x, hx⟩ : ∃ x, (Qy.argsAt A2 A3 k k2)[j]? = some x := ⟨_, List.getElem?_eq_getElem (by rw [Hlen.out]; exact hlt3)⟩
              have htk : (Qy.argsAt A2 A3 k k2).take (j + 1) = (Qy.argsAt A2 A3 k k2).take j ++ [x] := by rw [List.take_add_one, hx]; rfl
              obtain ⟨b, o, rfl, hbl, hc⟩ := HL.out.at_ j [.pointer (some x)] (by rw [List.getElem?_map, hx]; rfl)
              have hcell := hc 0 _ rfl
              rw [Nat.mul_one, Nat.add_zero] at hcell
              have hcell2 : wr.cell? ⟨b, o + j, none⟩ = some (.pointer (some x)) := by
                have hown2 := HK.out.own Hown.out
                rw [← hcell]
                rcases Hown.out.2 with ⟨h, _⟩ | ⟨g', cap', cur', hv, _, hh, _⟩
                · simp at h
                · simp at hv
                  obtain ⟨⟨rfl, rfl⟩, _⟩ := hv
                  exact World.cell?_of_block (a := ⟨b, 0 + j, none⟩) ((HK.out.rows _ _ _ hh).trans hh.symm)
              obtain ⟨fn, tmps, assign, body, hy, hR⟩ := HY.out _ x wr HJ.out (by rw [← htk]; exact List.take_prefix _ _)
              have Htk := Lib.hid htk
              have HR := Lib.hid hR
              clear hc hx htk hcell hR
              gi_wp2
              refine ⟨fun h => (by cases h), HR.out.mono ?_⟩
              rintro e W3 (⟨rfl, hJ3, hk3⟩ | ⟨rfl, hJx3, _⟩)
              · have HJ3 := Lib.hid hJ3; have Hk3 := Lib.hid hk3
                clear hJ3 hk3 hy
                gi_wp2
                go_roundw
                case rel => exact ⟨j + 1, by omega, by go_num, by rw [Htk.out]; exact HJ3, Lib.hid (HK.out.trans Hk3.out)⟩
                case measure => simp [intOf]; omega
              · have HJx3 := Lib.hid hJx3
                clear hJx3 hy
                gi_wp2
                refine bodyPost_ret (results_none rfl _ _ _) rfl ?_
                exact ⟨⟨_, rfl⟩, .inr ⟨_, by rw [← Htk.out]; exact List.take_prefix _ _, HJx3.out⟩⟩
            · obtain rfl : j = N := by omega
              have hall : (Qy.argsAt A2 A3 k k2).take j = Qy.argsAt A2 A3 k k2 := List.take_of_length_le (by rw [Hlen.out]; exact Nat.le_refl _)
              rw [hall] at HJ
              clear hall
              gi_wp2
              go_end0
              exact ⟨⟨_, rfl⟩, .inl HJ.out⟩
end Go.Proofs.YtocelmjncjompaaDoor
