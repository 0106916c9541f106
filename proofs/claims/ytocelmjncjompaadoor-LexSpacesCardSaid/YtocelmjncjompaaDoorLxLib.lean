/- What the package-level variables hold ('Env'), and the library's contracts in the form in which the walks meet them. -/
import Derived.Test.YtocelmjncjompaaDoorRows
import Derived.Test.YtocelmjncjompaaDoorShelf
import Derived.Test.YtocelmjncjompaaDoorLxSpec
import Derived.WalkKit
import Derived.WalkSpells
import Derived.WalkLawsBesides
import Derived.Lib.LaidTab
namespace Go.Proofs.YtocelmjncjompaaDoor
open Go.RowKit

/-- The variables of the library that the program reads. -/
structure Env (w : World) : Prop where
  pow : ∃ t fz, w.heap[(4 : Nat)]? = some (.cells ((Lib.pow10Tab.map (Value.int .u64)).toArray) t fz)
  rng : ∃ te pe, w.cell? ⟨2, 0, none⟩ = some (.iface te pe)
  size : 7 ≤ w.heap.size

theorem Env.below {B : Nat} {w w' : World} (h : Env w) (hb : Below B w w') (hB : 7 ≤ B) : Env w' := by
  obtain ⟨⟨t, fz, hp⟩, ⟨te, pe, hr⟩, hs⟩ := h
  refine ⟨⟨t, fz, (hb.block _ (by omega)).trans hp⟩, ⟨te, pe, (hb.cell (p := ⟨2, 0, none⟩) (show (2 : Nat) < B by omega)).trans hr⟩, Nat.le_trans hs hb.size⟩
theorem Env.next {w w' : World} (h : Env w) (hb : Below w.heap.size w w') : Env w' := h.below hb h.size

theorem Env.tab {w : World} (h : Env w) (name : String) (hn : Tryd.prog.globalNamed name = some 4) : Lib.TabIs Tryd.prog w name .u64 Lib.pow10Tab := by
  obtain ⟨t, fz, hp⟩ := h.pow
  unfold Lib.TabIs World.var?
  rw [hn]
  simp only [Option.bind_some, hp]

theorem bcell {W w1 : World} (hb : Below W.heap.size W w1) : (∀ b o, b < W.heap.size → w1.cell? ⟨b, o, none⟩ = W.cell? ⟨b, o, none⟩) ∧ (∀ b o, b < W.heap.size → w1.frozen? ⟨b, o, none⟩ = W.frozen? ⟨b, o, none⟩) :=
  ⟨fun b o h => hb.cell (p := ⟨b, o, none⟩) h, fun b o h => hb.frozen (p := ⟨b, o, none⟩) h⟩

theorem below_grow (w : World) (k : Nat) (os : Array Obj) : Below w.heap.size w (Go.Sort.grow (w.drewN k) os) :=
  ⟨rfl, rfl, rfl, by simp [Go.Sort.grow, World.drewN], fun i hi => by
    show (w.heap ++ os)[i]? = _
    rw [Array.getElem?_append, if_pos hi]⟩

theorem cItoa (n : Int) (h0 : -9223372036854775808 ≤ n) (h1 : n ≤ 9223372036854775807) (w : World) (he : Env w) :
    Calls Tryd.prog 47 #[.int .i64 n] w fun e w' => e = .returned (.string ⟨(Lib.itoa n).toArray⟩) ∧ Below w.heap.size w w' :=
  (Any.strconv_Itoa Tryd.laysM171 n h0 h1 w (he.tab _ (by kernel_rfl))).mono fun e w' ⟨h, k, os, hw⟩ => ⟨h, by subst hw; exact below_grow _ _ _⟩

theorem cIndexByte (s : ByteArray) (c : Int) (w : World) :
    Calls Tryd.prog 72 #[.string s, .int .u8 c] w fun e w' => e = .returned (.int .i64 (Lib.indexByte s.data.toList c.toNat.toUInt8)) ∧ w = w' :=
  (Any.strings_IndexByte Tryd.lays137 s c w).mono fun _e _w' ⟨h, k⟩ => ⟨h, k.symm⟩
theorem cHasPrefix (s p : ByteArray) (w : World) :
    Calls Tryd.prog 71 #[.string s, .string p] w fun e w' => e = .returned (.bool (Lib.hasPrefix s.data.toList p.data.toList)) ∧ w = w' :=
  (Any.strings_HasPrefix Tryd.lays99 s p w).mono fun _e _w' ⟨h, k⟩ => ⟨h, k.symm⟩
theorem cContainsInt (b off n c : Nat) (zs : List Int) (x : Int) (w : World) (hz : n ≤ zs.length) (hbig : n ≤ 9223372036854775807) (hc : ∀ j, j < zs.length → w.cell? ⟨b, off + j, none⟩ = some (.int .i64 (zs.getD j 0))) :
    Calls Tryd.prog 91 #[.slice (some ⟨b, off, none⟩) n c, .int .i64 x] w fun e w' => e = .returned (.bool ((zs.take n).contains x)) ∧ w = w' :=
  (Any.slices_Contains_int Tryd.lays107 b off n c zs x w hz hbig hc).mono fun _e _w' ⟨h, k⟩ => ⟨h, k.symm⟩

/-- strconv.Atoi at a row of digits: the number and no error, or an error where no int holds it. -/
theorem cAtoi (s : ByteArray) (hs : s.size ≤ 281474976710656) (w : World) (he : Env w) (hd : (∃ v, Lib.atoiAll s.data.toList = .ok v) ∨ Lib.atoiAll s.data.toList = .range) :
    Calls Tryd.prog 70 #[.string s] w fun e w' => (match Lib.atoiAll s.data.toList with
      | .ok v => e = .returned (.tuple #[.int .i64 v, .nilIface])
      | _ => ∃ n N T, e = .returned (.tuple #[.int .i64 n, .iface T (.pointer (some ⟨N, 0, none⟩))])) ∧ Below w.heap.size w w' := by
  obtain ⟨te, pe, hr⟩ := he.rng
  rcases hd with ⟨v, hv⟩ | hv
  · refine (Any.strconv_Atoi_ok Tryd.laysC172 s (by omega) v hv w).mono fun e w' ⟨h, k⟩ => ?_
    rw [hv]
    refine ⟨h, ?_⟩
    rcases k with rfl | ⟨t, rfl⟩
    · exact Below.refl _ _
    · exact Lib.bytesWorld_below _ _ _
  · refine (Any.strconv_Atoi_range Tryd.laysC172 s hs hv _ w hr (.inr ⟨te, pe, rfl⟩)).mono fun e w' ⟨N, h, _, _, k⟩ => ?_
    rw [hv]
    exact ⟨⟨_, N, _, h⟩, k⟩
end Go.Proofs.YtocelmjncjompaaDoor
