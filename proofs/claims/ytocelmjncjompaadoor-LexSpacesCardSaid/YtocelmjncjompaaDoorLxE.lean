/- Walks of the scanner: add. -/
import Derived.Test.YtocelmjncjompaaDoorLxD
import Derived.Deep.RegionHeld3
import Derived.Deep.AppendLies
import Derived.Deep.RegionLaw
namespace Go.Proofs.YtocelmjncjompaaDoor
open Go.RowKit
open Lx (Tok)

/-- Block g is known whole, and none of it is frozen. -/
def Blk (w : World) (g : Nat) (t : TypeId) (cs : Array Value) : Prop := w.heap[g]? = some (.cells cs t (0, 0))
section
variable {w w' : World} {g : Nat} {t : TypeId} {cs : Array Value}
theorem Blk.lt (h : Blk w g t cs) : g < w.heap.size := by
  rcases Nat.lt_or_ge g w.heap.size with hlt | hge
  · exact hlt
  · unfold Blk at h; rw [Array.getElem?_eq_none hge] at h; cases h
theorem Blk.cell (h : Blk w g t cs) (i : Nat) : w.cell? ⟨g, i, none⟩ = cs[i]? := cell_of_row w g i cs t (0, 0) h
theorem Blk.free (h : Blk w g t cs) (i : Nat) : w.frozen? ⟨g, i, none⟩ = false := by
  unfold Blk at h
  simp [World.frozen?, h]
theorem Blk.new (w : World) (t : TypeId) (cs : Array Value) : Blk (w.alloc (.cells cs t)) w.heap.size t cs := heap_alloc_new w _
theorem Blk.drew (h : Blk w g t cs) : Blk w.drew g t cs := h
theorem Blk.drewN (h : Blk w g t cs) (n : Nat) : Blk (w.drewN n) g t cs := h
theorem Blk.alloc (h : Blk w g t cs) (o : Obj) : Blk (w.alloc o) g t cs := (Below.heap_alloc w o g h.lt).trans h
theorem Blk.set (h : Blk w g t cs) (i : Nat) (u : Value) : Blk (w.setCell ⟨g, i, none⟩ u) g t (cs.setIfInBounds i u) := by
  unfold Blk at h ⊢
  simp [World.setCell, Array.getElem?_modify, h]
theorem Blk.far (h : Blk w g t cs) {p : Addr} (hp : g ≠ p.block) (u : Value) : Blk (w.setCell p u) g t cs := (Below.heap_setCell w p u g hp).trans h
theorem Blk.below {B : Nat} (h : Blk w g t cs) (hb : Below B w w') (hg : g < B) : Blk w' g t cs := (hb.block g hg).trans h
theorem Blk.grown {row : Option Nat} (h : Blk w g t cs) (hb : w.grownBy w' row) (hg : row ≠ some g) : Blk w' g t cs := (hb.block g h.lt (fun e => hg e.symm)).trans h
theorem Blk.ne {g' : Nat} {t' : TypeId} {cs' : Array Value} (h : Blk w g t cs) (h' : Blk w g' t' cs') (hne : t ≠ t') : g ≠ g' := by
  rintro rfl
  unfold Blk at h h'
  rw [h] at h'
  injection h' with h'
  injection h' with _ ht
  exact hne ht
theorem own_ne {base : Nat} {e : TypeId} {size n : Nat} {v : Value} {xs : List Value} (h : w.ownsRow base e size v n xs) (hg : Blk w g t cs) (hne : e ≠ t) : v.ownBlock ≠ some g := by
  rcases h.2 with ⟨rfl, _⟩ | ⟨g', cap, cur, rfl, _, hh, _⟩
  · simp [Value.ownBlock]
  · intro he
    have : g' = g := by simpa [Value.ownBlock] using he
    subst this
    exact Blk.ne (t := e) hh hg hne rfl
end
/-- What a value owns stays owned in a world whose blocks below B are as they were. -/
theorem own_below {w w' : World} {base : Nat} {e : TypeId} {size n : Nat} {v : Value} {xs : List Value} (h : w.ownsRow base e size v n xs) (hb : Below w.heap.size w w') : w'.ownsRow base e size v n xs := by
  obtain ⟨h1, h2⟩ := h
  refine ⟨h1, ?_⟩
  rcases h2 with h2 | ⟨g, cap, cur, hv, hg, hh, r⟩
  · exact .inl h2
  · refine .inr ⟨g, cap, cur, hv, hg, ?_, r⟩
    have hlt : g < w.heap.size := by
      rcases Nat.lt_or_ge g w.heap.size with hlt | hge
      · exact hlt
      · rw [Array.getElem?_eq_none hge] at hh; cases hh
    exact (hb.block g hlt).trans hh
theorem own_setCell_far {w : World} {base : Nat} {e : TypeId} {size n : Nat} {v : Value} {xs : List Value} (h : w.ownsRow base e size v n xs) {p : Addr} (hp : v.ownBlock ≠ some p.block) (u : Value) : (w.setCell p u).ownsRow base e size v n xs := by
  obtain ⟨h1, h2⟩ := h
  refine ⟨h1, ?_⟩
  rcases h2 with h2 | ⟨g, cap, cur, hv, hg, hh, r⟩
  · exact .inl h2
  · exact .inr ⟨g, cap, cur, hv, hg, by
      rw [Below.heap_setCell _ _ _ _ (by intro e; exact hp (by rw [hv, ← e]; rfl))]; exact hh, r⟩

theorem own_lt {w : World} {base : Nat} {e : TypeId} {size n : Nat} {v : Value} {xs : List Value} (h : w.ownsRow base e size v n xs) {b : Nat} (hb : v.ownBlock = some b) : b < w.heap.size := by
  rcases h.2 with ⟨rfl, _⟩ | ⟨g, cap, cur, rfl, _, hh, _⟩
  · cases hb
  · have : g = b := by simpa [Value.ownBlock] using hb
    subst this
    rcases Nat.lt_or_ge g w.heap.size with hlt | hge
    · exact hlt
    · rw [Array.getElem?_eq_none hge] at hh; cases hh

theorem Tryd.infoTok : (Tryd.prog.info? 35).map (fun i => (i.zero, i.size, i.bytes)) = some (some (.agg #[.int .i64 0, .string ⟨#[]⟩, .int .i64 0, .int .i64 0]), 4, 40) := by kernel_rfl

theorem own_ge {w : World} {base : Nat} {e : TypeId} {size n : Nat} {v : Value} {xs : List Value} (h : w.ownsRow base e size v n xs) {b : Nat} (hb : v.ownBlock = some b) : base ≤ b := by
  rcases h.2 with ⟨rfl, _⟩ | ⟨g, cap, cur, rfl, hg, hh, _⟩
  · cases hb
  · have : g = b := by simpa [Value.ownBlock] using hb
    omega
theorem add_end {g m a t gg cap : Nat} {src : ByteArray} {v : Value} {o : Obj} {xs : List Value} {w w2 w3 : World} (hg : g ≤ w2.heap.size) (hbel : Below g w w2) (hgrow : (w2.alloc o).drew.grownBy w3 v.ownBlock)
    (hb3 : Blk w3 g 63 #[.string src, .int .i64 a, v]) (hown : w3.ownsRow g 35 4 (.slice (some ⟨gg, 0, none⟩) (m + 1) cap) (m + 1) xs) (_hvg : v.ownBlock ≠ some g)
    {ys : List Value} (hownv : w2.ownsRow g 35 4 v m ys) :
    Blk ((w3.setCell ⟨g, 2, none⟩ (.slice (some ⟨gg, 0, none⟩) (m + 1) cap)).setCell ⟨g, 1, none⟩ (.int .i64 ((a : Int) + (t : Int)))) g 63 #[.string src, .int .i64 ((a + t : Nat) : Int), .slice (some ⟨gg, 0, none⟩) (m + 1) cap] ∧
    ((w3.setCell ⟨g, 2, none⟩ (.slice (some ⟨gg, 0, none⟩) (m + 1) cap)).setCell ⟨g, 1, none⟩ (.int .i64 ((a : Int) + (t : Int)))).ownsRow g 35 4 (.slice (some ⟨gg, 0, none⟩) (m + 1) cap) (m + 1) xs ∧
    Below g w ((w3.setCell ⟨g, 2, none⟩ (.slice (some ⟨gg, 0, none⟩) (m + 1) cap)).setCell ⟨g, 1, none⟩ (.int .i64 ((a : Int) + (t : Int)))) := by
  have hne := own_ne hown hb3 (by decide)
  refine ⟨?_, ?_, ?_⟩
  · have := (hb3.set 2 (.slice (some ⟨gg, 0, none⟩) (m + 1) cap)).set 1 (.int .i64 ((a : Int) + (t : Int)))
    simpa using this
  · exact own_setCell_far (own_setCell_far hown hne _) hne _
  · refine (Below.setCell (Below.setCell ?_ (show g ≤ (⟨g, 2, none⟩ : Addr).block from Nat.le_refl g) _) (show g ≤ (⟨g, 1, none⟩ : Addr).block from Nat.le_refl g) _)
    refine hbel.trans ?_
    refine Below.grown (((Below.refl _ _).alloc hg o).drew) hgrow (by simp; omega) ?_
    intro k hk
    exact own_ge hownv hk

set_option maxHeartbeats 1000000 in
theorem lAddOk (g a m : Nat) (src text s : ByteArray) (k n p : Int) (v : Value) (xs : List Value) (w : World)
    (hblk : Blk w g 63 #[.string src, .int .i64 a, v]) (hown : w.ownsRow g 35 4 v m xs) (hm : m ≤ 65536) (ha : a + text.size ≤ 65536) (hs : s.size ≤ maxLen)
    (hv : Lx.valid ⟨k, s.data.toList, n, p⟩ = true) :
    Calls Tryd.prog 69 #[.pointer (some ⟨g, 0, none⟩), .string text, .agg #[.int .i64 k, .string s, .int .i64 n, .int .i64 p]] w fun e w' =>
      e = .returned (.tuple #[]) ∧ ∃ v', Blk w' g 63 #[.string src, .int .i64 (a + text.size : Nat), v'] ∧ w'.ownsRow g 35 4 v' (m + 1) (xs ++ [.int .i64 k, .string s, .int .i64 n, .int .i64 a]) ∧ Below g w w' := by
  obtain ⟨i0, hi0, hz0, hz1, hz2⟩ := info_parts Tryd.infoTok
  have hlt := hblk.lt
  have hval := lValid k n p s (w.alloc (.cells #[.int .i64 k, .string s, .int .i64 n, .int .i64 p] 35)) hs
  rw [hv] at hval
  have Hval := Lib.hid hval
  clear hval hv
  have Hblk := Lib.hid hblk; clear hblk
  go_enter Tryd.func69, Tryd.ntmps69
  go_wp2_with (go_at_call 46; refine (Hval.out).mono ?_)
  rintro e w1 ⟨rfl, hb⟩
  have hb1 : Blk w1 g 63 #[.string src, .int .i64 a, v] := ((Hblk.out).alloc _).below hb (by simp; omega)
  have hbx : Blk w1 w.heap.size 35 #[.int .i64 k, .string s, .int .i64 n, .int .i64 p] := (Blk.new w _ _).below hb (by simp)
  have hown1 : w1.ownsRow g 35 4 v m xs := own_below (hown.alloc _) hb
  have hsz1 : w.heap.size + 1 ≤ w1.heap.size := by have := hb.size; simpa using this
  have hbel1 : Below g w w1 := ((Below.refl _ _).alloc (by omega) _).trans (hb.mono (by simp; omega))
  have c0 := hb1.cell 0; have c1 := hb1.cell 1; have c2 := hb1.cell 2
  have f1 := hb1.free 1; have f2 := hb1.free 2
  have x0 := hbx.cell 0; have x1 := hbx.cell 1; have x2 := hbx.cell 2; have x3 := hbx.cell 3; have xf := hbx.free 3
  simp at c0 c1 c2 x0 x1 x2 x3
  have Hb := Lib.hid hb; have Hb1 := Lib.hid hb1; have Hbx := Lib.hid hbx; have Hbel1 := Lib.hid hbel1
  clear hb hb1 hbx hbel1
  have hgne : g ≠ w.heap.size := by omega
  go_wp2
  obtain ⟨w2, hw2⟩ : ∃ w2, w2 = w1.setCell ⟨w.heap.size, 3, none⟩ (.int .i64 a) := ⟨_, rfl⟩
  rw [← hw2]
  have hb2 : Blk w2 g 63 #[.string src, .int .i64 a, v] := by rw [hw2]; exact (Hb1.out).far hgne _
  have hbx2 : Blk w2 w.heap.size 35 #[.int .i64 k, .string s, .int .i64 n, .int .i64 a] := by rw [hw2]; exact (Hbx.out).set 3 _
  have hown2 : w2.ownsRow g 35 4 v m xs := by
    rw [hw2]
    refine own_setCell_far hown1 ?_ _
    intro hown0
    have := own_lt hown hown0
    simp at this
  have hbel2 : Below g w w2 := by rw [hw2]; exact (Hbel1.out).setCell (show g ≤ w.heap.size by omega) _
  have hsz2 : w.heap.size + 1 ≤ w2.heap.size := by rw [hw2]; simpa [World.setCell] using hsz1
  clear hw2 c0 c1 c2 f1 f2 x0 x1 x2 x3 xf hown1 hsz1
  have c0 := hb2.cell 0; have c1 := hb2.cell 1; have c2 := hb2.cell 2
  have f1 := hb2.free 1; have f2 := hb2.free 2
  have x0 := hbx2.cell 0; have x1 := hbx2.cell 1; have x2 := hbx2.cell 2; have x3 := hbx2.cell 3
  simp at c0 c1 c2 x0 x1 x2 x3
  have hvg := own_ne hown2 hb2 (by decide)
  have Hb2 := Lib.hid hb2; have Hbx2 := Lib.hid hbx2; have Hbel2 := Lib.hid hbel2
  clear hb2 hbx2 hbel2
  clear w1 Hb Hb1 Hbx Hbel1
  have c2' := ((Hb2.out).alloc (.cells #[.int .i64 k, .string s, .int .i64 n, .int .i64 a] 35)).cell 2
  simp at c2'
  go_region_law (refine step_append_lies _ rfl _ _ _ rfl g 35 i0 _ 4 40 Tryd.underlying23 hi0 hz0 hz1 hz2 rfl (by omega) v m xs rfl ((hown2.alloc _).drew) ⟨w2.heap.size, 0, none⟩ 1 1 [.int .i64 k, .string s, .int .i64 n, .int .i64 a] rfl rfl (World.news_of_block (cs := #[.int .i64 k, .string s, .int .i64 n, .int .i64 a]) (t := 35) (fr := (0, 0)) (heap_alloc_new w2 _)) (by simp [Value.oneCell']) (by omega) (by unfold maxLen; omega) (by omega) (by simp; omega) (w2.heap.size + 1) (by simp) ?_; intro gg cap w3 hown3 hgrow3 hat3 hlt3; have Hb3 := Lib.hid ((((Hb2.out).alloc (.cells #[.int .i64 k, .string s, .int .i64 n, .int .i64 a] 35)).drew).grown hgrow3 hvg); have c3 := Hb3.out.cell 2; have f3 := Hb3.out.free 2; have d3 := Hb3.out.cell 1; have e3 := Hb3.out.free 1; simp at c3 d3)
  all_goals go_wp2
  all_goals go_end0
  all_goals exact ⟨rfl, .slice (some ⟨gg, 0, none⟩) (m + 1) cap, add_end (by omega) Hbel2.out hgrow3 Hb3.out hown3 hvg hown2⟩

/-- How the scanner's functions end where a token is wrong. -/
def PanicAt (a : Nat) (e : Ending) : Prop := e = .panicked [{ v := .iface 56 (.int .i64 a), recovered := false }]

set_option maxHeartbeats 1000000 in
theorem lAddBad (g a : Nat) (src text s : ByteArray) (k n p : Int) (v : Value) (w : World)
    (hblk : Blk w g 63 #[.string src, .int .i64 a, v]) (hs : s.size ≤ maxLen)
    (hv : Lx.valid ⟨k, s.data.toList, n, p⟩ = false) :
    Calls Tryd.prog 69 #[.pointer (some ⟨g, 0, none⟩), .string text, .agg #[.int .i64 k, .string s, .int .i64 n, .int .i64 p]] w fun e w' => PanicAt a e ∧ Below w.heap.size w w' := by
  have hval := lValid k n p s (w.alloc (.cells #[.int .i64 k, .string s, .int .i64 n, .int .i64 p] 35)) hs
  rw [hv] at hval
  have Hval := Lib.hid hval
  clear hval hv
  have hlt := hblk.lt
  have Hblk := Lib.hid hblk; clear hblk
  go_enter Tryd.func69, Tryd.ntmps69
  go_wp2_with (go_at_call 46; refine (Hval.out).mono ?_)
  rintro e w1 ⟨rfl, hb⟩
  have hb1 : Blk w1 g 63 #[.string src, .int .i64 a, v] := ((Hblk.out).alloc _).below hb (by simp; omega)
  have c1 := hb1.cell 1
  simp at c1
  have Hb := Lib.hid hb
  clear hb hb1
  go_wp2
  refine ⟨rfl, rfl, ?_⟩
  exact ((Below.refl _ _).alloc (Nat.le_refl _) _).trans (Hb.out.mono (by simp))

set_option maxHeartbeats 1000000 in
theorem lWrong (g a : Nat) (src : ByteArray) (v : Value) (w : World) (hblk : Blk w g 63 #[.string src, .int .i64 a, v]) :
    Calls Tryd.prog 35 #[.pointer (some ⟨g, 0, none⟩)] w fun e w' => PanicAt a e ∧ w = w' := by
  have c1 := hblk.cell 1
  simp at c1
  go_enter Tryd.func35, Tryd.ntmps35
  go_wp2
  exact ⟨rfl, rfl, rfl⟩
end Go.Proofs.YtocelmjncjompaaDoor
