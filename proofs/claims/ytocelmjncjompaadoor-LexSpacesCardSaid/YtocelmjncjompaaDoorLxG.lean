/- Walks of the scanner: sign, space. -/
import Derived.Test.YtocelmjncjompaaDoorLxF
namespace Go.Proofs.YtocelmjncjompaaDoor
open Go.RowKit
open Lx (Tok)

theorem quiet_left {P : Program} {f : FuncId} {args : Array Value} {w : World} {n : Nat} {v : Value}
    (h : Calls P f args (w.drewN n) fun e w' => e = .returned v ∧ w.drewN n = w') : Calls P f args (w.drewN n) fun e w'' => e = .returned v ∧ ∃ m, w'' = w.drewN m :=
  h.mono fun _ _ ⟨he, hm⟩ => ⟨he, n, hm.symm⟩
theorem quiet_add_left {P : Program} {f : FuncId} {args : Array Value} {w : World} {a n : Nat} {v : Value}
    (h : Calls P f args (w.drewN (a + n)) fun e w' => e = .returned v ∧ w.drewN (a + n) = w') :
    Calls P f args (w.drewN (a + n)) fun e w'' => e = .returned v ∧ ∃ m, w'' = w.drewN (a + m) :=
  h.mono fun _ _ ⟨he, hm⟩ => ⟨he, n, hm.symm⟩

theorem scan_move {g a k : Nat} {src : ByteArray} {l : List Tok} {v : Value} {w : World} (hb : Blk w g 63 #[.string src, .int .i64 a, v]) (ho : w.ownsRow g 35 4 v l.length (l.flatMap Tok.cells))
    (hf : l.length ≤ a) (ha : a + k ≤ src.size) (hl : src.size ≤ 65536) (x : Int) (hx : x = ((a + k : Nat) : Int)) : Scan g src (a + k) l (w.setCell ⟨g, 1, none⟩ (.int .i64 x)) := by
  subst hx
  have := hb.set 1 (.int .i64 ((a + k : Nat) : Int))
  exact ⟨⟨v, by simpa using this, own_setCell_far ho (own_ne ho hb (by decide)) _⟩, by omega, ha, hl⟩

set_option maxHeartbeats 1000000 in
theorem lSpace1 (g a : Nat) (src : ByteArray) (l : List Tok) (w : World) (hS : Scan g src a l w) (t : ByteArray) (ht : t.data.toList = (src.data.toList.drop a).takeWhile Lx.space) :
    Calls Tryd.prog 36 #[.pointer (some ⟨g, 0, none⟩)] w (Steps1 g src a w (some (a + t.size, l))) := by
  obtain ⟨⟨v, hblk, hown⟩, hfew, hat, hlen⟩ := hS
  have hlt := hblk.lt
  have htl : a + t.size ≤ src.size := by
    rw [← Lx.ba_len, ht]
    have := Lx.tw_le Lx.space (src.data.toList.drop a)
    rw [List.length_drop, Lx.ba_len] at this
    omega
  have hrun := fun W (hW : Blk W g 63 #[.string src, .int .i64 a, v]) => lRunP g a src v [1] Lx.space W Lx.cls_space hW hat hlen (by simp) #[.int .i64 1] rfl t ht 1 rfl 1
  have Hrun := Lib.hid hrun; have Ht := Lib.hid ht
  clear hrun ht
  have c1 := hblk.cell 1
  have f1 := hblk.free 1
  simp at c1
  have hne : g ≠ w.heap.size := by omega
  have d1 := (hblk.alloc (.cells #[.int .i64 1] 3)).cell 1
  have e1 := (hblk.alloc (.cells #[.int .i64 1] 3)).free 1
  simp at d1
  have Hblk := Lib.hid hblk; clear hblk
  go_enter Tryd.func36, Tryd.ntmps36
  go_wp2_with fail
  go_region_with (go_at_call 68; refine (Hrun.out _ (Blk.drew Hblk.out)).mono ?_; rintro e w1 ⟨rfl, n, rfl⟩)
  all_goals go_end0
  all_goals exact ⟨rfl, scan_move ((Hblk.out.alloc (.cells #[.int .i64 1] 3)).drewN (1 + n)) (own_drewN (hown.alloc (.cells #[.int .i64 1] 3)) (1 + n)) hfew htl hlen _ (by rw [IntWalk.i64_in _ (by omega)]; omega), (bel_drewN ((Below.refl _ _).alloc (by omega) _) (1 + n)).setCell (show g ≤ (⟨g, 1, none⟩ : Addr).block from Nat.le_refl g) _⟩

theorem Lx.nl_some (l : List UInt8) (o : Nat) (h : Lib.indexByte l 10 = o) : (l.takeWhile (· != 10)).length = o := by
  obtain ⟨h1, h2⟩ := Lib.indexByte_some h
  have hlt : o < l.length := (List.getElem?_eq_some_iff.1 h1).1
  refine Lx.tw_len _ l o (by omega) (fun j hj hjo => ?_) (fun hh => ?_)
  · have := h2 j hjo
    rw [List.getElem?_eq_getElem hj] at this
    simpa using this
  · rw [List.getElem?_eq_getElem hlt] at h1
    simpa using Option.some.inj h1
theorem Lx.nl_none (l : List UInt8) (h : Lib.indexByte l 10 < 0) : (l.takeWhile (· != 10)).length = l.length := by
  have hge := Lib.indexByte_ge l 10
  have h2 := Lib.indexByte_none (l := l) (c := 10) (by omega)
  refine Lx.tw_len _ l l.length (by omega) (fun j hj hjo => ?_) (fun hh => absurd hh (by omega))
  have := h2 j
  rw [List.getElem?_eq_getElem hj] at this
  simpa using this
theorem Lx.comment_iff (l : List UInt8) : Lib.hasPrefix l [47, 47] = Lx.comment l := by
  rw [Bool.eq_iff_iff]
  match l with
  | [] => simp [Lx.comment, Lib.hasPrefix]
  | [c] => simp [Lx.comment, Lib.hasPrefix]
  | c :: d :: r => simp only [Lx.comment, Lib.hasPrefix, List.isPrefixOf, List.head?_cons, Bool.and_true, Bool.and_eq_true, beq_iff_eq, Option.some.injEq]; exact ⟨fun ⟨h1, h2⟩ => ⟨h1.symm, h2.symm⟩, fun ⟨h1, h2⟩ => ⟨h1.symm, h2.symm⟩⟩
end Go.Proofs.YtocelmjncjompaaDoor
