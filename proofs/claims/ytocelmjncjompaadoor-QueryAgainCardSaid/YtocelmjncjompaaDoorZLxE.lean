/- Parts of the proof, joined into one text: LxE, LxNum, LxStep. -/
import Derived.Test.YtocelmjncjompaaDoorZLxB
import Derived.Deep.RegionHeld3
import Derived.Deep.AppendLies
import Derived.Deep.RegionLaw
import Derived.Test.YtocelmjncjompaaDoorZLxPlain

namespace Go.Proofs.YtocelmjncjompaaDoor
open Go.RowKit
open Lx (Tok)

/-- Block g is known whole, and none of it is frozen. -/
def Blk (w : World) (g : Nat) (t : TypeId) (cs : Array Value) : Prop := w.heap[g]? = some (.cells cs t (0, 0))
section
variable {w w' : World} {g : Nat} {t : TypeId} {cs : Array Value}
theorem Blk.lt (h : Blk w g t cs) : g < w.heap.size := by
  rcases Nat.lt_or_ge g w.heap.size with hlt | hge
  · exact hlt
  · unfold Blk at h; rw [Array.getElem?_eq_none hge] at h; cases h
theorem Blk.cell (h : Blk w g t cs) (i : Nat) : w.cell? ⟨g, i, none⟩ = cs[i]? := cell_of_row w g i cs t (0, 0) h
theorem Blk.free (h : Blk w g t cs) (i : Nat) : w.frozen? ⟨g, i, none⟩ = false := by
  unfold Blk at h
  simp [World.frozen?, h]
theorem Blk.new (w : World) (t : TypeId) (cs : Array Value) : Blk (w.alloc (.cells cs t)) w.heap.size t cs := heap_alloc_new w _
theorem Blk.drew (h : Blk w g t cs) : Blk w.drew g t cs := h
theorem Blk.drewN (h : Blk w g t cs) (n : Nat) : Blk (w.drewN n) g t cs := h
theorem Blk.alloc (h : Blk w g t cs) (o : Obj) : Blk (w.alloc o) g t cs := (Below.heap_alloc w o g h.lt).trans h
theorem Blk.set (h : Blk w g t cs) (i : Nat) (u : Value) : Blk (w.setCell ⟨g, i, none⟩ u) g t (cs.setIfInBounds i u) := by
  unfold Blk at h ⊢
  simp [World.setCell, Array.getElem?_modify, h]
theorem Blk.far (h : Blk w g t cs) {p : Addr} (hp : g ≠ p.block) (u : Value) : Blk (w.setCell p u) g t cs := (Below.heap_setCell w p u g hp).trans h
theorem Blk.below {B : Nat} (h : Blk w g t cs) (hb : Below B w w') (hg : g < B) : Blk w' g t cs := (hb.block g hg).trans h
theorem Blk.grown {row : Option Nat} (h : Blk w g t cs) (hb : w.grownBy w' row) (hg : row ≠ some g) : Blk w' g t cs := (hb.block g h.lt (fun e => hg e.symm)).trans h
theorem Blk.ne {g' : Nat} {t' : TypeId} {cs' : Array Value} (h : Blk w g t cs) (h' : Blk w g' t' cs') (hne : t ≠ t') : g ≠ g' := by
  rintro rfl
  unfold Blk at h h'
  rw [h] at h'
  injection h' with h'
  injection h' with _ ht
  exact hne ht
theorem own_ne {base : Nat} {e : TypeId} {size n : Nat} {v : Value} {xs : List Value} (h : w.ownsRow base e size v n xs) (hg : Blk w g t cs) (hne : e ≠ t) : v.ownBlock ≠ some g := by
  rcases h.2 with ⟨rfl, _⟩ | ⟨g', cap, cur, rfl, _, hh, _⟩
  · simp [Value.ownBlock]
  · intro he
    have : g' = g := by simpa [Value.ownBlock] using he
    subst this
    exact Blk.ne (t := e) hh hg hne rfl
end
/-- What a value owns stays owned in a world whose blocks below B are as they were. -/
theorem own_below {w w' : World} {base : Nat} {e : TypeId} {size n : Nat} {v : Value} {xs : List Value} (h : w.ownsRow base e size v n xs) (hb : Below w.heap.size w w') : w'.ownsRow base e size v n xs := by
  obtain ⟨h1, h2⟩ := h
  refine ⟨h1, ?_⟩
  rcases h2 with h2 | ⟨g, cap, cur, hv, hg, hh, r⟩
  · exact .inl h2
  · refine .inr ⟨g, cap, cur, hv, hg, ?_, r⟩
    have hlt : g < w.heap.size := by
      rcases Nat.lt_or_ge g w.heap.size with hlt | hge
      · exact hlt
      · rw [Array.getElem?_eq_none hge] at hh; cases hh
    exact (hb.block g hlt).trans hh
theorem own_setCell_far {w : World} {base : Nat} {e : TypeId} {size n : Nat} {v : Value} {xs : List Value} (h : w.ownsRow base e size v n xs) {p : Addr} (hp : v.ownBlock ≠ some p.block) (u : Value) : (w.setCell p u).ownsRow base e size v n xs := by
  obtain ⟨h1, h2⟩ := h
  refine ⟨h1, ?_⟩
  rcases h2 with h2 | ⟨g, cap, cur, hv, hg, hh, r⟩
  · exact .inl h2
  · exact .inr ⟨g, cap, cur, hv, hg, by
      rw [Below.heap_setCell _ _ _ _ (by intro e; exact hp (by rw [hv, ← e]; rfl))]; exact hh, r⟩

theorem own_lt {w : World} {base : Nat} {e : TypeId} {size n : Nat} {v : Value} {xs : List Value} (h : w.ownsRow base e size v n xs) {b : Nat} (hb : v.ownBlock = some b) : b < w.heap.size := by
  rcases h.2 with ⟨rfl, _⟩ | ⟨g, cap, cur, rfl, _, hh, _⟩
  · cases hb
  · have : g = b := by simpa [Value.ownBlock] using hb
    subst this
    rcases Nat.lt_or_ge g w.heap.size with hlt | hge
    · exact hlt
    · rw [Array.getElem?_eq_none hge] at hh; cases hh

theorem Tryd.infoTok : (Tryd.prog.info? 35).map (fun i => (i.zero, i.size, i.bytes)) = some (some (.agg #[.int .i64 0, .string ⟨#[]⟩, .int .i64 0, .int .i64 0]), 4, 40) := by kernel_rfl

theorem own_ge {w : World} {base : Nat} {e : TypeId} {size n : Nat} {v : Value} {xs : List Value} (h : w.ownsRow base e size v n xs) {b : Nat} (hb : v.ownBlock = some b) : base ≤ b := by
  rcases h.2 with ⟨rfl, _⟩ | ⟨g, cap, cur, rfl, hg, hh, _⟩
  · cases hb
  · have : g = b := by simpa [Value.ownBlock] using hb
    omega
theorem add_end {g m a t gg cap : Nat} {src : ByteArray} {v : Value} {o : Obj} {xs : List Value} {w w2 w3 : World} (hg : g ≤ w2.heap.size) (hbel : Below g w w2) (hgrow : (w2.alloc o).drew.grownBy w3 v.ownBlock)
    (hb3 : Blk w3 g 63 #[.string src, .int .i64 a, v]) (hown : w3.ownsRow g 35 4 (.slice (some ⟨gg, 0, none⟩) (m + 1) cap) (m + 1) xs) (_hvg : v.ownBlock ≠ some g)
    {ys : List Value} (hownv : w2.ownsRow g 35 4 v m ys) :
    Blk ((w3.setCell ⟨g, 2, none⟩ (.slice (some ⟨gg, 0, none⟩) (m + 1) cap)).setCell ⟨g, 1, none⟩ (.int .i64 ((a : Int) + (t : Int)))) g 63 #[.string src, .int .i64 ((a + t : Nat) : Int), .slice (some ⟨gg, 0, none⟩) (m + 1) cap] ∧
    ((w3.setCell ⟨g, 2, none⟩ (.slice (some ⟨gg, 0, none⟩) (m + 1) cap)).setCell ⟨g, 1, none⟩ (.int .i64 ((a : Int) + (t : Int)))).ownsRow g 35 4 (.slice (some ⟨gg, 0, none⟩) (m + 1) cap) (m + 1) xs ∧
    Below g w ((w3.setCell ⟨g, 2, none⟩ (.slice (some ⟨gg, 0, none⟩) (m + 1) cap)).setCell ⟨g, 1, none⟩ (.int .i64 ((a : Int) + (t : Int)))) := by
  have hne := own_ne hown hb3 (by decide)
  refine ⟨?_, ?_, ?_⟩
  · have := (hb3.set 2 (.slice (some ⟨gg, 0, none⟩) (m + 1) cap)).set 1 (.int .i64 ((a : Int) + (t : Int)))
    simpa using this
  · exact own_setCell_far (own_setCell_far hown hne _) hne _
  · refine (Below.setCell (Below.setCell ?_ (show g ≤ (⟨g, 2, none⟩ : Addr).block from Nat.le_refl g) _) (show g ≤ (⟨g, 1, none⟩ : Addr).block from Nat.le_refl g) _)
    refine hbel.trans ?_
    refine Below.grown (((Below.refl _ _).alloc hg o).drew) hgrow (by simp; omega) ?_
    intro k hk
    exact own_ge hownv hk

set_option maxHeartbeats 1000000 in
theorem lAddOk (g a m : Nat) (src text s : ByteArray) (k n p : Int) (v : Value) (xs : List Value) (w : World)
    (hblk : Blk w g 63 #[.string src, .int .i64 a, v]) (hown : w.ownsRow g 35 4 v m xs) (hm : m ≤ 65536) (ha : a + text.size ≤ 65536) (hs : s.size ≤ maxLen)
    (hv : Lx.valid ⟨k, s.data.toList, n, p⟩ = true) :
    Calls Tryd.prog 69 #[.pointer (some ⟨g, 0, none⟩), .string text, .agg #[.int .i64 k, .string s, .int .i64 n, .int .i64 p]] w fun e w' =>
      e = .returned (.tuple #[]) ∧ ∃ v', Blk w' g 63 #[.string src, .int .i64 (a + text.size : Nat), v'] ∧ w'.ownsRow g 35 4 v' (m + 1) (xs ++ [.int .i64 k, .string s, .int .i64 n, .int .i64 a]) ∧ Below g w w' := by
  obtain ⟨i0, hi0, hz0, hz1, hz2⟩ := info_parts Tryd.infoTok
  have hlt := hblk.lt
  have hval := lValid k n p s (w.alloc (.cells #[.int .i64 k, .string s, .int .i64 n, .int .i64 p] 35)) hs
  rw [hv] at hval
  have Hval := Lib.hid hval
  clear hval hv
  have Hblk := Lib.hid hblk; clear hblk
  go_enter Tryd.func69, Tryd.ntmps69
  go_wp2_with (go_at_call 46; refine (Hval.out).mono ?_)
  rintro e w1 ⟨rfl, hb⟩
  have hb1 : Blk w1 g 63 #[.string src, .int .i64 a, v] := ((Hblk.out).alloc _).below hb (by simp; omega)
  have hbx : Blk w1 w.heap.size 35 #[.int .i64 k, .string s, .int .i64 n, .int .i64 p] := (Blk.new w _ _).below hb (by simp)
  have hown1 : w1.ownsRow g 35 4 v m xs := own_below (hown.alloc _) hb
  have hsz1 : w.heap.size + 1 ≤ w1.heap.size := by have := hb.size; simpa using this
  have hbel1 : Below g w w1 := ((Below.refl _ _).alloc (by omega) _).trans (hb.mono (by simp; omega))
  have c0 := hb1.cell 0; have c1 := hb1.cell 1; have c2 := hb1.cell 2
  have f1 := hb1.free 1; have f2 := hb1.free 2
  have x0 := hbx.cell 0; have x1 := hbx.cell 1; have x2 := hbx.cell 2; have x3 := hbx.cell 3; have xf := hbx.free 3
  simp at c0 c1 c2 x0 x1 x2 x3
  have Hb := Lib.hid hb; have Hb1 := Lib.hid hb1; have Hbx := Lib.hid hbx; have Hbel1 := Lib.hid hbel1
  clear hb hb1 hbx hbel1
  have hgne : g ≠ w.heap.size := by omega
  go_wp2
  obtain ⟨w2, hw2⟩ : ∃ w2, w2 = w1.setCell ⟨w.heap.size, 3, none⟩ (.int .i64 a) := ⟨_, rfl⟩
  rw [← hw2]
  have hb2 : Blk w2 g 63 #[.string src, .int .i64 a, v] := by rw [hw2]; exact (Hb1.out).far hgne _
  have hbx2 : Blk w2 w.heap.size 35 #[.int .i64 k, .string s, .int .i64 n, .int .i64 a] := by rw [hw2]; exact (Hbx.out).set 3 _
  have hown2 : w2.ownsRow g 35 4 v m xs := by
    rw [hw2]
    refine own_setCell_far hown1 ?_ _
    intro hown0
    have := own_lt hown hown0
    simp at this
  have hbel2 : Below g w w2 := by rw [hw2]; exact (Hbel1.out).setCell (show g ≤ w.heap.size by omega) _
  have hsz2 : w.heap.size + 1 ≤ w2.heap.size := by rw [hw2]; simpa [World.setCell] using hsz1
  clear hw2 c0 c1 c2 f1 f2 x0 x1 x2 x3 xf hown1 hsz1
  have c0 := hb2.cell 0; have c1 := hb2.cell 1; have c2 := hb2.cell 2
  have f1 := hb2.free 1; have f2 := hb2.free 2
  have x0 := hbx2.cell 0; have x1 := hbx2.cell 1; have x2 := hbx2.cell 2; have x3 := hbx2.cell 3
  simp at c0 c1 c2 x0 x1 x2 x3
  have hvg := own_ne hown2 hb2 (by decide)
  have Hb2 := Lib.hid hb2; have Hbx2 := Lib.hid hbx2; have Hbel2 := Lib.hid hbel2
  clear hb2 hbx2 hbel2
  clear w1 Hb Hb1 Hbx Hbel1
  have c2' := ((Hb2.out).alloc (.cells #[.int .i64 k, .string s, .int .i64 n, .int .i64 a] 35)).cell 2
  simp at c2'
  go_region_law (refine step_append_lies _ rfl _ _ _ rfl g 35 i0 _ 4 40 Tryd.underlying23 hi0 hz0 hz1 hz2 rfl (by omega) v m xs rfl ((hown2.alloc _).drew) ⟨w2.heap.size, 0, none⟩ 1 1 [.int .i64 k, .string s, .int .i64 n, .int .i64 a] rfl rfl (World.news_of_block (cs := #[.int .i64 k, .string s, .int .i64 n, .int .i64 a]) (t := 35) (fr := (0, 0)) (heap_alloc_new w2 _)) (by simp [Value.oneCell']) (by omega) (by unfold maxLen; omega) (by omega) (by simp; omega) (w2.heap.size + 1) (by simp) ?_; intro gg cap w3 hown3 hgrow3 hat3 hlt3; have Hb3 := Lib.hid ((((Hb2.out).alloc (.cells #[.int .i64 k, .string s, .int .i64 n, .int .i64 a] 35)).drew).grown hgrow3 hvg); have c3 := Hb3.out.cell 2; have f3 := Hb3.out.free 2; have d3 := Hb3.out.cell 1; have e3 := Hb3.out.free 1; simp at c3 d3)
  all_goals go_wp2
  all_goals go_end0
  all_goals exact ⟨rfl, .slice (some ⟨gg, 0, none⟩) (m + 1) cap, add_end (by omega) Hbel2.out hgrow3 Hb3.out hown3 hvg hown2⟩

/-- How the scanner's functions end where a token is wrong. -/
def PanicAt (a : Nat) (e : Ending) : Prop := e = .panicked [{ v := .iface 56 (.int .i64 a), recovered := false }]

set_option maxHeartbeats 1000000 in
theorem lAddBad (g a : Nat) (src text s : ByteArray) (k n p : Int) (v : Value) (w : World)
    (hblk : Blk w g 63 #[.string src, .int .i64 a, v]) (hs : s.size ≤ maxLen)
    (hv : Lx.valid ⟨k, s.data.toList, n, p⟩ = false) :
    Calls Tryd.prog 69 #[.pointer (some ⟨g, 0, none⟩), .string text, .agg #[.int .i64 k, .string s, .int .i64 n, .int .i64 p]] w fun e w' => PanicAt a e ∧ Below w.heap.size w w' := by
  have hval := lValid k n p s (w.alloc (.cells #[.int .i64 k, .string s, .int .i64 n, .int .i64 p] 35)) hs
  rw [hv] at hval
  have Hval := Lib.hid hval
  clear hval hv
  have hlt := hblk.lt
  have Hblk := Lib.hid hblk; clear hblk
  go_enter Tryd.func69, Tryd.ntmps69
  go_wp2_with (go_at_call 46; refine (Hval.out).mono ?_)
  rintro e w1 ⟨rfl, hb⟩
  have hb1 : Blk w1 g 63 #[.string src, .int .i64 a, v] := ((Hblk.out).alloc _).below hb (by simp; omega)
  have c1 := hb1.cell 1
  simp at c1
  have Hb := Lib.hid hb
  clear hb hb1
  go_wp2
  refine ⟨rfl, rfl, ?_⟩
  exact ((Below.refl _ _).alloc (Nat.le_refl _) _).trans (Hb.out.mono (by simp))

set_option maxHeartbeats 1000000 in
theorem lWrong (g a : Nat) (src : ByteArray) (v : Value) (w : World) (hblk : Blk w g 63 #[.string src, .int .i64 a, v]) :
    Calls Tryd.prog 35 #[.pointer (some ⟨g, 0, none⟩)] w fun e w' => PanicAt a e ∧ w = w' := by
  have c1 := hblk.cell 1
  simp at c1
  go_enter Tryd.func35, Tryd.ntmps35
  go_wp2
  exact ⟨rfl, rfl, rfl⟩
end Go.Proofs.YtocelmjncjompaaDoor

namespace Go.Proofs.YtocelmjncjompaaDoor.Lx

theorem decVal_nil (acc : Nat) : decVal acc [] = acc := List.foldl_nil
theorem decVal_cons (acc : Nat) (c : UInt8) (r : List UInt8) : decVal acc (c :: r) = decVal (10 * acc + (c.toNat - 48)) r := List.foldl_cons
theorem decVal_snoc (r : List UInt8) (acc : Nat) (c : UInt8) : decVal acc (r ++ [c]) = 10 * decVal acc r + (c.toNat - 48) := by
  unfold decVal; rw [List.foldl_append]; simp only [List.foldl_cons, List.foldl_nil]
theorem decVal_ge : ∀ (l : List UInt8) (acc : Nat), acc ≤ decVal acc l
  | [], acc => by rw [decVal_nil]; exact Nat.le_refl _
  | c :: r, acc => by
    rw [decVal_cons]
    have := decVal_ge r (10 * acc + (c.toNat - 48))
    omega
theorem figure_nat {c : UInt8} (h : figure c = true) : 48 ≤ c.toNat ∧ c.toNat ≤ 57 := by
  rw [figure_iff] at h; simp at h; omega

theorem parse_okA : ∀ (l : List UInt8) (acc : Nat), l.all figure = true → decVal acc l < 18446744073709551616 → Lib.parseUint10 acc l = .ok (decVal acc l)
  | [], acc, _, _ => by rw [decVal_nil]; rfl
  | c :: r, acc, h, hv => by
    simp only [List.all_cons, Bool.and_eq_true] at h
    obtain ⟨h1, h2⟩ := figure_nat h.1
    rw [decVal_cons] at hv ⊢
    have hge := decVal_ge r (10 * acc + (c.toNat - 48))
    have ih := parse_okA r (10 * acc + (c.toNat - 48)) h.2 hv
    rw [Lib.parseUint10, if_pos ⟨h1, h2⟩, if_neg (by omega), if_neg (by omega), Nat.mul_comm acc 10, ih]
theorem parse_bigA : ∀ (l : List UInt8) (acc : Nat), l.all figure = true → acc < 18446744073709551616 → ¬ decVal acc l < 18446744073709551616 → Lib.parseUint10 acc l = .range
  | [], acc, _, ha, hv => absurd ha (by rwa [decVal_nil] at hv)
  | c :: r, acc, h, ha, hv => by
    simp only [List.all_cons, Bool.and_eq_true] at h
    obtain ⟨h1, h2⟩ := figure_nat h.1
    rw [decVal_cons] at hv
    rw [Lib.parseUint10, if_pos ⟨h1, h2⟩]
    by_cases hb : 1844674407370955162 ≤ acc
    · rw [if_pos hb]
    · rw [if_neg hb]
      by_cases hc : 18446744073709551616 ≤ acc * 10 + (c.toNat - 48)
      · rw [if_pos hc]
      · rw [if_neg hc, Nat.mul_comm acc 10]
        exact parse_bigA r _ h.2 (by omega) hv
theorem parse_ok {l : List UInt8} (h : l.all figure = true) (hv : decVal 0 l < 18446744073709551616) : Lib.parseUint10 0 l = .ok (decVal 0 l) := parse_okA l 0 h hv
theorem parse_big {l : List UInt8} (h : l.all figure = true) (hv : ¬ decVal 0 l < 18446744073709551616) : Lib.parseUint10 0 l = .range := parse_bigA l 0 h (by omega) hv
theorem head_app {r s : List UInt8} (h : r ≠ []) : (r ++ s).head? = r.head? := by cases r <;> simp_all

theorem atoi_ok {l : List UInt8} (h : l.all figure = true) (hne : l ≠ []) (hv : decVal 0 l < 9223372036854775808) : Lib.atoiAll l = .ok (decVal 0 l : Int) := by
  match l, hne with
  | c :: r, _ =>
    have h0 := h
    simp only [List.all_cons, Bool.and_eq_true] at h0
    obtain ⟨h1, h2⟩ := figure_nat h0.1
    unfold Lib.atoiAll
    simp only
    rw [if_neg (by omega)]
    unfold Lib.parseMag
    rw [if_neg (by simp), parse_ok h (by omega)]
    simp only
    rw [if_neg (by omega), if_neg (by omega), if_neg (by omega)]
theorem atoi_big {l : List UInt8} (h : l.all figure = true) (hne : l ≠ []) (hv : ¬ decVal 0 l < 9223372036854775808) : Lib.atoiAll l = .range := by
  match l, hne with
  | c :: r, _ =>
    have h0 := h
    simp only [List.all_cons, Bool.and_eq_true] at h0
    obtain ⟨h1, h2⟩ := figure_nat h0.1
    unfold Lib.atoiAll
    simp only
    rw [if_neg (by omega)]
    unfold Lib.parseMag
    rw [if_neg (by simp)]
    by_cases hb : decVal 0 (c :: r) < 18446744073709551616
    · rw [parse_ok h hb]
      simp only
      rw [if_pos (by omega)]
    · rw [parse_big h hb]

/-- No leading zero. -/
def plain (l : List UInt8) : Prop := l.length = 1 ∨ l.head? ≠ some 48
instance (l : List UInt8) : Decidable (plain l) := by unfold plain; exact inferInstance

theorem ofNat_figure {c : UInt8} (h : figure c = true) : UInt8.ofNat (48 + (c.toNat - 48)) = c := by
  obtain ⟨h1, h2⟩ := figure_nat h
  rw [show 48 + (c.toNat - 48) = c.toNat by omega]
  simp
theorem decVal_pos {l : List UInt8} (h : l.all figure = true) (hne : l ≠ []) (hh : l.head? ≠ some 48) : 1 ≤ decVal 0 l := by
  match l, hne with
  | c :: r, _ =>
    simp only [List.all_cons, Bool.and_eq_true] at h
    obtain ⟨h1, h2⟩ := figure_nat h.1
    have : c.toNat ≠ 48 := fun e => hh (by
      rw [List.head?_cons]; congr 1; exact UInt8.toNat_inj.1 (by rw [e]; rfl))
    rw [decVal_cons]
    have := decVal_ge r (10 * 0 + (c.toNat - 48))
    omega
theorem digits_of : ∀ (n : Nat) (l : List UInt8), l.length = n → l.all figure = true → l ≠ [] → plain l → Lib.decDigits (decVal 0 l) = l := by
  intro n
  induction n with
  | zero => intro l h _ hne _; exact absurd (List.eq_nil_of_length_eq_zero h) hne
  | succ n ih =>
    intro l hl hf hne hp
    have hsn := List.dropLast_concat_getLast hne
    obtain ⟨r, c, rfl⟩ : ∃ r c, l = r ++ [c] := ⟨_, _, hsn.symm⟩
    simp only [List.all_append, List.all_cons, List.all_nil, Bool.and_true, Bool.and_eq_true] at hf
    obtain ⟨h1, h2⟩ := figure_nat hf.2
    rw [decVal_snoc]
    by_cases hr : r = []
    · subst hr
      rw [Lib.decDigits, dif_pos (by rw [decVal_nil]; omega)]
      simp only [decVal_nil, Nat.mul_zero, Nat.zero_add, List.nil_append, ofNat_figure hf.2]
    · have hlr : r.length = n := by simpa using hl
      have hh : r.head? ≠ some 48 := by
        rcases hp with hp | hp
        · exfalso
          have : 0 < r.length := List.length_pos_iff.2 hr
          simp at hp
          exact hr hp
        · rwa [head_app hr] at hp
      have hpos := decVal_pos hf.1 hr hh
      rw [Lib.decDigits, dif_neg (by omega)]
      rw [show (10 * decVal 0 r + (c.toNat - 48)) / 10 = decVal 0 r by omega, show (10 * decVal 0 r + (c.toNat - 48)) % 10 = c.toNat - 48 by omega]
      rw [ih r hlr hf.1 hr (.inr hh), ofNat_figure hf.2]

theorem dig_figure {d : Nat} (h : d < 10) : figure (UInt8.ofNat (48 + d)) = true ∧ (UInt8.ofNat (48 + d)).toNat = 48 + d := by
  have e : (UInt8.ofNat (48 + d)).toNat = 48 + d := by simp; omega
  refine ⟨?_, e⟩
  rw [figure_iff, e]; simp; omega
theorem digits_all (u : Nat) : (Lib.decDigits u).all figure = true := by
  induction u using Nat.strongRecOn with
  | _ u ih =>
    by_cases h : u < 10
    · rw [Lib.decDigits, dif_pos h, List.all_cons, (dig_figure h).1]; rfl
    · rw [Lib.decDigits, dif_neg h, List.all_append, ih (u / 10) (by omega)]
      rw [List.all_cons, (dig_figure (show u % 10 < 10 by omega)).1]; rfl
theorem digits_ne (u : Nat) : Lib.decDigits u ≠ [] := by
  rw [Lib.decDigits]; split <;> simp
theorem digits_val (u : Nat) : decVal 0 (Lib.decDigits u) = u := by
  induction u using Nat.strongRecOn with
  | _ u ih =>
    by_cases h : u < 10
    · rw [Lib.decDigits, dif_pos h]
      rw [decVal_cons, decVal_nil, (dig_figure h).2]; omega
    · rw [Lib.decDigits, dif_neg h, decVal_snoc, ih (u / 10) (by omega), (dig_figure (show u % 10 < 10 by omega)).2]; omega
theorem digits_head (u : Nat) (h : (Lib.decDigits u).head? = some 48) : u = 0 := by
  induction u using Nat.strongRecOn with
  | _ u ih =>
    by_cases hu : u < 10
    · rw [Lib.decDigits, dif_pos hu] at h
      simp only [List.head?_cons, Option.some.injEq] at h
      have := congrArg UInt8.toNat h
      rw [(dig_figure hu).2] at this
      simp at this
      exact this
    · rw [Lib.decDigits, dif_neg hu, head_app (digits_ne _)] at h
      have := ih (u / 10) (by omega) h
      omega
theorem digits_plain (u : Nat) : plain (Lib.decDigits u) := by
  by_cases h : (Lib.decDigits u).head? = some 48
  · have := digits_head u h
    subst this
    left
    rw [Lib.decDigits, dif_pos (by omega)]; rfl
  · exact .inr h
/-- The numeral of what digits spell is they themselves, just where they have no leading zero. -/
theorem digits_eq_iff {l : List UInt8} (hf : l.all figure = true) (hne : l ≠ []) : Lib.decDigits (decVal 0 l) = l ↔ plain l :=
  ⟨fun h => by rw [← h]; exact digits_plain _, fun h => digits_of _ l rfl hf hne h⟩

theorem number_some {l : List UInt8} (h1 : decVal 0 l ≤ 1099511627776) (h2 : plain l) : number l = some (decVal 0 l) := by
  unfold number; rw [if_pos ⟨h1, h2⟩]
theorem number_big {l : List UInt8} (h1 : ¬ decVal 0 l ≤ 1099511627776) : number l = none := by
  unfold number; rw [if_neg (fun h => h1 h.1)]
theorem number_zero {l : List UInt8} (h1 : ¬ plain l) : number l = none := by
  unfold number; rw [if_neg (fun h => h1 h.2)]
theorem number_val {l : List UInt8} {n : Nat} (h : number l = some n) : n = decVal 0 l ∧ n ≤ 1099511627776 ∧ plain l := by
  unfold number at h
  split at h
  · rename_i hh
    injection h with h
    subst h
    exact ⟨rfl, hh.1, hh.2⟩
  · cases h
theorem number_digits (u : Nat) (h : u ≤ 1099511627776) : number (Lib.decDigits u) = some u := by
  rw [number_some (by rw [digits_val]; exact h) (digits_plain u), digits_val]
end Go.Proofs.YtocelmjncjompaaDoor.Lx

namespace Go.Proofs.YtocelmjncjompaaDoor.Lx

theorem all_bytes (P : UInt8 → Bool) (h : (List.range 256).all (fun n => P (UInt8.ofNat n)) = true) (c : UInt8) : P c = true := by
  have := List.all_eq_true.1 h c.toNat (List.mem_range.2 c.toNat_lt)
  simpa using this

def byteFacts (c : UInt8) : Bool := (cls c == 1) == space c && (cls c == 2) == letter c && (cls c == 3) == figure c && (cls c == 4) == sign c &&
    (!(letter c) || (!(space c) && !(figure c) && !(sign c) && c != 47)) && (!(figure c) || (!(space c) && !(letter c) && !(sign c) && c != 47)) && (!(sign c) || (!(space c) && !(letter c) && !(figure c) && !(part c))) && (!(space c) || (!(part c) && c != 47 && !(sign c))) &&
    (c != 47 || sign c) && (c != 32 || space c) && (c != 10 || space c)
theorem byte_facts (c : UInt8) : byteFacts c = true := all_bytes byteFacts (by decide +kernel) c

theorem cls_range (c : UInt8) : cls c = 0 ∨ cls c = 1 ∨ cls c = 2 ∨ cls c = 3 ∨ cls c = 4 ∨ cls c = 5 := by
  unfold cls; repeat' split
  all_goals simp

structure Facts (c : UInt8) : Prop where
  c1 : (cls c == 1) = space c
  c2 : (cls c == 2) = letter c
  c3 : (cls c == 3) = figure c
  c4 : (cls c == 4) = sign c
  letter_ : letter c = true → space c = false ∧ figure c = false ∧ sign c = false ∧ c ≠ 47
  figure_ : figure c = true → space c = false ∧ letter c = false ∧ sign c = false ∧ c ≠ 47
  sign_ : sign c = true → space c = false ∧ letter c = false ∧ figure c = false ∧ part c = false
  space_ : space c = true → part c = false ∧ c ≠ 47 ∧ sign c = false
  slash : c = 47 → sign c = true
theorem facts (c : UInt8) : Facts c := by
  have h := byte_facts c
  unfold byteFacts at h
  simp only [Bool.and_eq_true, beq_iff_eq] at h
  obtain ⟨⟨⟨⟨⟨⟨⟨⟨⟨⟨h1, h2⟩, h3⟩, h4⟩, h5⟩, h6⟩, h7⟩, h8⟩, h9⟩, _⟩, _⟩ := h
  refine ⟨h1, h2, h3, h4, fun h => ?_, fun h => ?_, fun h => ?_, fun h => ?_, fun h => ?_⟩
  · rw [h] at h5; simp at h5; exact ⟨h5.1.1.1, h5.1.1.2, h5.1.2, h5.2⟩
  · rw [h] at h6; simp at h6; exact ⟨h6.1.1.1, h6.1.1.2, h6.1.2, h6.2⟩
  · rw [h] at h7; simp at h7; exact ⟨h7.1.1.1, h7.1.1.2, h7.1.2, h7.2⟩
  · rw [h] at h8; simp at h8; exact ⟨h8.1.1, h8.1.2, h8.2⟩
  · subst h; rfl

def comment (l : List UInt8) : Bool := match l with | c :: r => c == 47 && r.head? == some 47 | [] => false

theorem step_space {c : UInt8} {r : List UInt8} (h : space c = true) : step c r = .skip 1 := by unfold step; rw [h]; rfl
theorem step_comment {c : UInt8} {r : List UInt8} (h : comment (c :: r) = true) : step c r = .skip ((c :: r).takeWhile (· != 10)).length := by
  have h' : (c == 47 && r.head? == some 47) = true := h
  have hc : c = 47 := by simp at h'; exact h'.1
  have hs : space c = false := by rw [hc]; rfl
  unfold step
  rw [hs, h']; rfl
theorem not_comment {c : UInt8} {r : List UInt8} (h : c ≠ 47) : (c == 47 && r.head? == some 47) = false := by
  rw [show (c == 47) = false from beq_eq_false_iff_ne.2 h]; rfl
theorem step_letter {c : UInt8} {r : List UInt8} (h : letter c = true) :
    step c r = if isName ((c :: r).takeWhile part) then .tok ⟨1, (c :: r).takeWhile part, 0, 0⟩ ((c :: r).takeWhile part).length else .err := by
  obtain ⟨h1, _, _, h4⟩ := (facts c).letter_ h
  unfold step
  rw [h1, not_comment h4, h]; rfl
theorem step_figure {c : UInt8} {r : List UInt8} (h : figure c = true) :
    step c r = match number ((c :: r).takeWhile figure) with
      | some n => .tok ⟨2, [], n, 0⟩ ((c :: r).takeWhile figure).length
      | none => .err := by
  obtain ⟨h1, h2, _, h4⟩ := (facts c).figure_ h
  unfold step
  rw [h1, not_comment h4, h2, h]; rfl
theorem step_sign {c : UInt8} {r : List UInt8} (h : sign c = true) (hc : comment (c :: r) = false) : step c r = .tok ⟨3, [c], 0, 0⟩ 1 := by
  obtain ⟨h1, h2, h3, _⟩ := (facts c).sign_ h
  have h' : (c == 47 && r.head? == some 47) = false := hc
  unfold step
  rw [h1, h', h2, h3, h]; rfl
theorem step_err {c : UInt8} {r : List UInt8} (h1 : space c = false) (h2 : letter c = false) (h3 : figure c = false) (h4 : sign c = false) : step c r = .err := by
  have h5 : c ≠ 47 := fun e => by have := (facts c).slash e; rw [h4] at this; cases this
  unfold step
  rw [h1, not_comment h5, h2, h3, h4]; rfl

/-- A whole run of white space. -/
theorem lexAt_spaces : ∀ (l : List UInt8) (p : Nat), lexAt l p = lexAt (l.drop (l.takeWhile space).length) (p + (l.takeWhile space).length)
  | [], p => rfl
  | c :: r, p => by
    cases h : space c
    · simp [h]
    · rw [lexAt_cons, step_space h]
      simp only [List.takeWhile_cons, h, if_true, List.length_cons, List.drop_succ_cons, List.drop_zero]
      rw [lexAt_spaces r (p + 1), Nat.add_assoc, Nat.add_comm 1]
theorem lexAt_skip {c : UInt8} {r : List UInt8} {k : Nat} (h : step c r = .skip k) (p : Nat) : lexAt (c :: r) p = lexAt ((c :: r).drop k) (p + k) := by
  rw [lexAt_cons, h]
theorem lexAt_tok {c : UInt8} {r : List UInt8} {t : Tok} {k : Nat} (h : step c r = .tok t k) (p : Nat) : lexAt (c :: r) p = (lexAt ((c :: r).drop k) (p + k)).cons { t with pos := p } := by
  rw [lexAt_cons, h]
theorem lexAt_err {c : UInt8} {r : List UInt8} (h : step c r = .err) (p : Nat) : lexAt (c :: r) p = .err p := by
  rw [lexAt_cons, h]

theorem step_valid {c : UInt8} {r : List UInt8} {t : Tok} {k : Nat} (h : step c r = .tok t k) : valid t = true ∧ k ≤ (c :: r).length ∧ t.text.length ≤ 32 := by
  have hf := facts c
  cases h1 : space c
  case true => rw [step_space h1] at h; cases h
  cases h2 : comment (c :: r)
  case true => rw [step_comment h2] at h; cases h
  have twl : ∀ p : UInt8 → Bool, ((c :: r).takeWhile p).length ≤ (c :: r).length := fun p => (List.takeWhile_prefix p).length_le
  cases h3 : letter c
  case true =>
    rw [step_letter h3] at h
    split at h
    · rename_i hn
      injection h with h h'
      subst h; subst h'
      refine ⟨(show (isName _ && decide ((0 : Int) = 0)) = true by rw [hn]; rfl), twl _, ?_⟩
      have hn2 := hn
      unfold isName at hn2
      split at hn2
      · cases hn2
      · rename_i e
        simp only [Bool.and_eq_true, decide_eq_true_eq] at hn2
        simp only
        exact hn2.1.1
    · cases h
  cases h4 : figure c
  case true =>
    rw [step_figure h4] at h
    split at h
    · rename_i n hn
      injection h with h h'
      subst h; subst h'
      obtain ⟨_, hb, _⟩ := number_val hn
      exact ⟨(show (([] : List UInt8).isEmpty && decide (0 ≤ (n : Int)) && decide ((n : Int) ≤ 1099511627776)) = true by simp; omega), twl _, by simp⟩
    · cases h
  cases h5 : sign c
  case true =>
    rw [step_sign h5 h2] at h
    injection h with h h'
    subst h; subst h'
    exact ⟨(show (sign c && decide ((0 : Int) = 0)) = true by rw [h5]; rfl), by simp, by simp⟩
  rw [step_err h1 h3 h4 h5] at h
  cases h

theorem lexN_texts : ∀ (f : Nat) (l : List UInt8) (p : Nat) (ts : List Tok), lexN f l p = .ok ts → ∀ t ∈ ts, valid t = true ∧ t.text.length ≤ 32
  | _, [], p, ts, h => by
    have : ts = [] := by cases ‹Nat› <;> (simp only [lexN] at h; injection h with h; exact h.symm)
    subst this; intro t ht; simp at ht
  | 0, _ :: _, p, ts, h => by
    simp only [lexN] at h; injection h with h
    subst h; intro t ht; simp at ht
  | f + 1, c :: r, p, ts, h => by
    simp only [lexN] at h
    cases hs : step c r with
    | skip k => rw [hs] at h; exact lexN_texts f _ _ ts h
    | err => rw [hs] at h; cases h
    | tok t k =>
      rw [hs] at h
      simp only at h
      cases hr : lexN f ((c :: r).drop k) (p + k) with
      | err q => rw [hr] at h; cases h
      | ok ts' =>
        rw [hr] at h
        simp only [Res.cons] at h
        injection h with h
        subst h
        intro u hu
        rcases List.mem_cons.1 hu with rfl | hu
        · obtain ⟨h1, _, h3⟩ := step_valid hs
          exact ⟨h1, h3⟩
        · exact lexN_texts f _ _ ts' hr u hu
theorem lex_texts {l : List UInt8} {ts : List Tok} (h : lex l = .ok ts) : ∀ t ∈ ts, valid t = true ∧ t.text.length ≤ 32 := lexN_texts _ _ _ _ h

theorem tok_lex {D r : List UInt8} {c : UInt8} {a k : Nat} {t : Tok} (l : List Tok) (hd : D.drop a = c :: r) (h : step c r = .tok t k) : (lexAt (D.drop (a + k)) (a + k)).app (l ++ [{ t with pos := a }]) = (lexAt (D.drop a) a).app l := by
  rw [hd, lexAt_tok h, Res.app_cons, ← hd, List.drop_drop]
theorem skip_lex {D r : List UInt8} {c : UInt8} {a k : Nat} (l : List Tok) (hd : D.drop a = c :: r) (h : step c r = .skip k) : (lexAt (D.drop (a + k)) (a + k)).app l = (lexAt (D.drop a) a).app l := by
  rw [hd, lexAt_skip h, ← hd, List.drop_drop]
theorem spaces_lex {D : List UInt8} {a : Nat} (l : List Tok) : (lexAt (D.drop (a + ((D.drop a).takeWhile space).length)) (a + ((D.drop a).takeWhile space).length)).app l = (lexAt (D.drop a) a).app l := by
  rw [lexAt_spaces (D.drop a) a, List.drop_drop]
theorem err_lex {D r : List UInt8} {c : UInt8} {a : Nat} (l : List Tok) (hd : D.drop a = c :: r) (h : step c r = .err) : (lexAt (D.drop a) a).app l = .err a := by
  rw [hd, lexAt_err h]; rfl
end Go.Proofs.YtocelmjncjompaaDoor.Lx
