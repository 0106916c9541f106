/- Parts of the proof, joined into one text: LxM, QyMem, QyEql, QyRange. -/
import Derived.Test.YtocelmjncjompaaDoorZLxJ
import Derived.Test.YtocelmjncjompaaDoorZLxPlain
import Derived.Laws.StructEq
import Derived.RangeFuncNested
import Derived.RangeFuncBound
import Derived.RangeFuncCalls
import Derived.RangeFuncLeaves
import Derived.Test.YtocelmjncjompaaDoorZLxMem

namespace Go.Proofs.YtocelmjncjompaaDoor
open Go.RowKit
open Lx (Tok)

theorem lLexOk (s : ByteArray) (l : List Tok) (w : World) (he : Env w) (hs : s.size ≤ 65536) (hl : Lx.lex s.data.toList = .ok l) :
    Calls Tryd.prog 15 #[.string s] w fun e w' => ∃ A c, e = .returned (.tuple #[.slice A l.length c, .int .i64 0, .int .i64 0]) ∧ Toks w' w'.heap.size A l ∧ Below w.heap.size w w' ∧ Env w' := by
  refine (lLexShort s w he hs).mono fun e w' ⟨hb, h⟩ => ?_
  rw [if_neg (by rw [Lx.ba_len]; omega), hl] at h
  obtain ⟨A, c, h1, h2, _⟩ := h
  exact ⟨A, c, h1, h2, hb, he.next hb⟩
theorem lLexErr (s : ByteArray) (p : Nat) (w : World) (he : Env w) (hs : s.size ≤ 65536) (hl : Lx.lex s.data.toList = .err p) :
    Calls Tryd.prog 15 #[.string s] w fun e w' => e = .returned (.tuple #[.slice none 0 0, .int .i64 p, .int .i64 90]) ∧ Below w.heap.size w w' ∧ Env w' := by
  refine (lLexShort s w he hs).mono fun e w' ⟨hb, h⟩ => ?_
  rw [if_neg (by rw [Lx.ba_len]; omega), hl] at h
  exact ⟨h, hb, he.next hb⟩
theorem lTextOk (A : Option Addr) (c : Nat) (l : List Tok) (s : List UInt8) (w : World) (he : Env w) (h : Toks w w.heap.size A l) (hl : l.length ≤ 65536) (ht : Lx.text l = some s) :
    Calls Tryd.prog 19 #[.slice A l.length c] w fun e w' => e = .returned (.tuple #[.string (Lx.bs s), .int .i64 0]) ∧ Below w.heap.size w w' ∧ Env w' := by
  refine (lText A c l w he h hl).mono fun e w' ⟨hb, h⟩ => ?_
  rw [ht] at h
  exact ⟨h, hb, he.next hb⟩
theorem lTextErr (A : Option Addr) (c : Nat) (l : List Tok) (w : World) (he : Env w) (h : Toks w w.heap.size A l) (hl : l.length ≤ 65536) (ht : Lx.text l = none) :
    Calls Tryd.prog 19 #[.slice A l.length c] w fun e w' => e = .returned (.tuple #[.string ⟨#[]⟩, .int .i64 90]) ∧ Below w.heap.size w w' ∧ Env w' := by
  refine (lText A c l w he h hl).mono fun e w' ⟨hb, h⟩ => ?_
  rw [ht] at h
  exact ⟨h, hb, he.next hb⟩

theorem toks_new (w : World) (l : List Tok) (cs : Array Value) (h : cs.toList = l.flatMap Tok.cells) (hl : l.length ≤ 65536) (ht : ∀ t ∈ l, t.text.length ≤ 65536) :
    Toks (w.alloc (.cells cs 35)) (w.alloc (.cells cs 35)).heap.size (some ⟨w.heap.size, 0, none⟩) l := by
  refine ⟨fun k t hk => ?_, by omega, fun t h => by have := ht t h; omega⟩
  have hb := Blk.new w 35 cs
  have hcell := fun (j : Nat) (hj : j < 4) => (hb.cell (k * 4 + j)).trans (show cs[k * 4 + j]? = t.cells[j]? by rw [← Array.getElem?_toList, h]; exact flat_at l k t j hk hj)
  refine ⟨w.heap.size, 0, rfl, by simp, ?_, ?_, ?_, ?_⟩
  · have := hcell 0 (by omega); simp [Tok.cells] at this ⊢; exact this
  · have := hcell 1 (by omega); simp [Tok.cells, Lx.bs] at this ⊢; exact this
  · have := hcell 2 (by omega); simp [Tok.cells] at this ⊢; exact this
  · have := hcell 3 (by omega); simp [Tok.cells] at this ⊢; exact this
theorem Toks.first {w : World} {B : Nat} {A : Option Addr} {t : Tok} {l : List Tok} (h : Toks w B A (t :: l)) : ∃ b o, A = some ⟨b, o, none⟩ ∧ b < B ∧ w.cell? ⟨b, o, none⟩ = some (.int .i64 t.kind) ∧ w.cell? ⟨b, o + 1, none⟩ = some (.string (Lx.bs t.text)) ∧ w.cell? ⟨b, o + 2, none⟩ = some (.int .i64 t.n) ∧ w.cell? ⟨b, o + 3, none⟩ = some (.int .i64 t.pos) := by
  obtain ⟨b, o, h1, h2, h3⟩ := h.at_ 0 t rfl
  exact ⟨b, o, h1, h2, by simpa using h3.kind, by simpa using h3.text, by simpa using h3.n, by simpa using h3.pos⟩

def sA : ByteArray := ⟨#[101, 97, 114, 110, 32, 51, 48, 59]⟩
def tA : List Tok := [⟨1, [101, 97, 114, 110], 0, 0⟩, ⟨2, [], 30, 5⟩, ⟨3, [59], 0, 7⟩]
theorem exA : Lx.lex sA.data.toList = .ok tA := by decide +kernel
theorem exB : Lx.lex (⟨#[48, 48, 55]⟩ : ByteArray).data.toList = .err 0 := by decide +kernel
theorem exC : Lx.lex (⟨#[49, 48, 57, 57, 53, 49, 49, 54, 50, 55, 55, 55, 54]⟩ : ByteArray).data.toList = .ok [⟨2, [], 1099511627776, 0⟩] := by decide +kernel
theorem exD : Lx.lex (⟨#[97, 32, 47, 47, 32, 98]⟩ : ByteArray).data.toList = .ok [⟨1, [97], 0, 0⟩] := by decide +kernel
theorem exE : Lx.lex (⟨#[97, 32, 36]⟩ : ByteArray).data.toList = .err 2 := by decide +kernel
theorem exF : Lx.lex (⟨#[97, 61, 49]⟩ : ByteArray).data.toList = .ok [⟨1, [97], 0, 0⟩, ⟨3, [61], 0, 1⟩, ⟨2, [], 1, 2⟩] := by decide +kernel
theorem exG : Lx.lex (⟨#[]⟩ : ByteArray).data.toList = .ok [] := by decide +kernel
theorem exT : Lx.text [⟨1, [97], 0, 0⟩, ⟨3, [61], 0, 1⟩, ⟨2, [], 1, 2⟩] = some [97, 32, 61, 32, 49] := by
  have h1 : Lib.decDigits 1 = [49] := by rw [Lib.decDigits_one (by omega)]; rfl
  have h2 : ([⟨1, [97], 0, 0⟩, ⟨3, [61], 0, 1⟩, ⟨2, [], 1, 2⟩] : List Tok).all Lx.valid = true := by decide +kernel
  unfold Lx.text
  rw [if_pos h2]
  show some ([97] ++ 32 :: ([61] ++ 32 :: Lib.decDigits 1)) = _
  rw [h1]; rfl
theorem exZ : Lx.text [⟨0, [], 0, 0⟩] = none := by decide +kernel
theorem exN1 : Lx.isName [66, 95, 49, 50] = true := by decide +kernel
theorem exN2 : Lx.isName [95, 49, 50] = false := by decide +kernel

set_option maxRecDepth 100000 in
set_option maxHeartbeats 4000000 in
theorem lSane (w : World) (he : Env w) : Calls Tryd.prog 14 #[] w fun e w' => e = .returned (.bool true) ∧ Below w.heap.size w w' := by
  have HE := Lib.hid he; clear he
  go_enter Tryd.func14, Tryd.ntmps14
  go_wp2_with fail
  refine (lLexOk ⟨#[101, 97, 114, 110, 32, 51, 48, 59]⟩ tA _ HE.out (show (8 : Nat) ≤ 65536 by omega) exA).mono ?_
  rintro e w1 ⟨A1, c1, rfl, hT1, hb1, he1⟩
  have HT1 := Lib.hid hT1; have HB1 := Lib.hid hb1; have HE1 := Lib.hid he1; clear hT1 hb1 he1
  go_wp2_with fail
  refine (lLexErr ⟨#[48, 48, 55]⟩ 0 _ (HE1.out.next ((Below.refl _ _).alloc (Nat.le_refl _) _)) (show (3 : Nat) ≤ 65536 by omega) exB).mono ?_
  rintro e w2 ⟨rfl, hb2, he2⟩
  have HB2 := Lib.hid hb2; have HE2 := Lib.hid he2; clear hb2 he2
  go_wp2_with fail
  refine (lLexOk ⟨#[49, 48, 57, 57, 53, 49, 49, 54, 50, 55, 55, 55, 54]⟩ _ _ HE2.out (show (13 : Nat) ≤ 65536 by omega) exC).mono ?_
  rintro e w3 ⟨A3, c3, rfl, hT3, hb3, he3⟩
  have HT3 := Lib.hid hT3; have HB3 := Lib.hid hb3; have HE3 := Lib.hid he3; clear hT3 hb3 he3
  go_wp2_with fail
  refine (lLexOk ⟨#[97, 32, 47, 47, 32, 98]⟩ _ _ HE3.out (show (6 : Nat) ≤ 65536 by omega) exD).mono ?_
  rintro e w4 ⟨A4, c4, rfl, hT4, hb4, he4⟩
  have HT4 := Lib.hid hT4; have HB4 := Lib.hid hb4; have HE4 := Lib.hid he4; clear hT4 hb4 he4
  go_wp2_with fail
  refine (lLexErr ⟨#[97, 32, 36]⟩ 2 _ HE4.out (show (3 : Nat) ≤ 65536 by omega) exE).mono ?_
  rintro e w5 ⟨rfl, hb5, he5⟩
  have HB5 := Lib.hid hb5; have HE5 := Lib.hid he5; clear hb5 he5
  go_wp2_with fail
  refine (lLexOk ⟨#[97, 61, 49]⟩ _ _ HE5.out (show (3 : Nat) ≤ 65536 by omega) exF).mono ?_
  rintro e w6 ⟨A6, c6, rfl, hT6, hb6, he6⟩
  have HT6 := Lib.hid hT6; have HB6 := Lib.hid hb6; have HE6 := Lib.hid he6; clear hT6 hb6 he6
  go_wp2_with fail
  refine (lTextOk A6 c6 [⟨1, [97], 0, 0⟩, ⟨3, [61], 0, 1⟩, ⟨2, [], 1, 2⟩] _ _ HE6.out HT6.out (show (3 : Nat) ≤ 65536 by omega) exT).mono ?_
  rintro e w7 ⟨rfl, hb7, he7⟩
  have HB7 := Lib.hid hb7; have HE7 := Lib.hid he7; clear hb7 he7
  go_wp2_with fail
  refine (lLexOk ⟨#[]⟩ _ _ HE7.out (show (0 : Nat) ≤ 65536 by omega) exG).mono ?_
  rintro e w8 ⟨A8, c8, rfl, hT8, hb8, he8⟩
  have HT8 := Lib.hid hT8; have HB8 := Lib.hid hb8; have HE8 := Lib.hid he8; clear hT8 hb8 he8
  go_wp2_with fail
  refine (lTextErr (some ⟨w8.heap.size, 0, none⟩) 1 [⟨0, [], 0, 0⟩] _ (HE8.out.next ((Below.refl _ _).alloc (Nat.le_refl _) _)) (toks_new w8 [⟨0, [], 0, 0⟩] #[.int .i64 0, .string ⟨#[]⟩, .int .i64 0, .int .i64 0] rfl (show (1 : Nat) ≤ 65536 by omega) (by simp)) (show (1 : Nat) ≤ 65536 by omega) exZ).mono ?_
  rintro e w9 ⟨rfl, hb9, he9⟩
  have HB9 := Lib.hid hb9; have HE9 := Lib.hid he9; clear hb9 he9
  -- all that was made stays
  have s8 : w8.heap.size ≤ w9.heap.size := by have := HB9.out.size; simp at this; omega
  have k89 : Below w8.heap.size w8 w9 := ((Below.refl _ _).alloc (Nat.le_refl _) _).trans (HB9.out.mono (by simp))
  have k69 : Below w6.heap.size w6 w9 := HB7.out.trans ((HB8.out.mono HB7.out.size).trans (k89.mono (Nat.le_trans HB7.out.size HB8.out.size)))
  have k49 : Below w4.heap.size w4 w9 := HB5.out.trans ((HB6.out.mono HB5.out.size).trans (k69.mono (Nat.le_trans HB5.out.size HB6.out.size)))
  have k39 : Below w3.heap.size w3 w9 := HB4.out.trans (k49.mono HB4.out.size)
  have hw1 : Below (w1.alloc (.cells #[.int .i64 1, .string ⟨#[101, 97, 114, 110]⟩, .int .i64 0, .int .i64 0, .int .i64 2, .string ⟨#[]⟩, .int .i64 30, .int .i64 5, .int .i64 3, .string ⟨#[59]⟩, .int .i64 0, .int .i64 7] 35)).heap.size
      (w1.alloc (.cells #[.int .i64 1, .string ⟨#[101, 97, 114, 110]⟩, .int .i64 0, .int .i64 0, .int .i64 2, .string ⟨#[]⟩, .int .i64 30, .int .i64 5, .int .i64 3, .string ⟨#[59]⟩, .int .i64 0, .int .i64 7] 35)) w9 :=
    HB2.out.trans ((HB3.out.mono HB2.out.size).trans (k39.mono (Nat.le_trans HB2.out.size HB3.out.size)))
  have tW := (toks_new w1 tA #[.int .i64 1, .string ⟨#[101, 97, 114, 110]⟩, .int .i64 0, .int .i64 0, .int .i64 2, .string ⟨#[]⟩, .int .i64 30, .int .i64 5, .int .i64 3, .string ⟨#[59]⟩, .int .i64 0, .int .i64 7] rfl (show (3 : Nat) ≤ 65536 by omega) (by simp [tA])).below hw1 (Nat.le_refl _) |>.mono hw1.size
  have tT1 := (HT1.out.below (((Below.refl _ _).alloc (Nat.le_refl _) _).trans (hw1.mono (by simp))) (Nat.le_refl _)).mono (Nat.le_trans (by simp) hw1.size)
  have tT3 := (HT3.out.below k39 (Nat.le_refl _)).mono k39.size
  have tT4 := (HT4.out.below k49 (Nat.le_refl _)).mono k49.size
  have tT6 := (HT6.out.below k69 (Nat.le_refl _)).mono k69.size
  have heq := rEqual A1 (some ⟨w1.heap.size, 0, none⟩) c1 3 tA tA w9 tT1 tW
  rw [decide_eq_true (show tA = tA from rfl)] at heq
  have Heq := Lib.hid heq
  obtain ⟨b3, o3, hA3, hb3, _, _, q3, _⟩ := tT3.first
  obtain ⟨b4, o4, hA4, hb4, _, q4, _, _⟩ := tT4.first
  subst hA3 hA4
  have K09 := Lib.hid (HB1.out.trans ((((Below.refl _ _).alloc (Nat.le_refl _) _).trans (hw1.mono (by simp))).mono HB1.out.size) : Below w.heap.size w w9)
  have TT4 := Lib.hid tT4; have TT6 := Lib.hid tT6
  clear tW tT1 tT3 tT4 tT6 heq hw1 k39 k49 k69 k89
  simp at q3 q4
  have hsame1 := fun n => lSame (some ⟨b4, o4, none⟩) A6 c4 c6 [⟨1, [97], 0, 0⟩] [⟨1, [97], 0, 0⟩, ⟨3, [61], 0, 1⟩, ⟨2, [], 1, 2⟩] (w9.drewN n) (TT4.out.drewN n) (TT6.out.drewN n)
  have Hs1 := Lib.hid hsame1; clear hsame1
  have e97 : (Lx.bs [97]).toList = [97] := by rw [ByteArray.toList_eq, Lx.bs_list]
  have e5 : (Lx.bs [97, 32, 61, 32, 49]).toList = [97, 32, 61, 32, 49] := by rw [ByteArray.toList_eq, Lx.bs_list]
  have hn1 := fun W => lName ⟨#[66, 95, 49, 50]⟩ W (show (4 : Nat) ≤ maxLen by unfold maxLen; omega)
  have hn2 := fun W => lName ⟨#[95, 49, 50]⟩ W (show (3 : Nat) ≤ maxLen by unfold maxLen; omega)
  rw [show Lx.isName (⟨#[66, 95, 49, 50]⟩ : ByteArray).data.toList = true from exN1] at hn1
  rw [show Lx.isName (⟨#[95, 49, 50]⟩ : ByteArray).data.toList = false from exN2] at hn2
  have Hn1 := Lib.hid hn1; have Hn2 := Lib.hid hn2; clear hn1 hn2
  go_wp2_with fail
  refine (Heq.out).mono ?_
  rintro e w10 ⟨rfl, n10, rfl⟩
  go_wp2_with fail
  refine (Hn1.out _).mono ?_
  rintro e w11 ⟨rfl, rfl⟩
  go_wp2_with fail
  refine (Hn2.out _).mono ?_
  rintro e w12 ⟨rfl, rfl⟩
  go_wp2_with fail
  refine (Hs1.out _).mono ?_
  rintro e w13 ⟨rfl, hb13⟩
  have HB13 := Lib.hid hb13; clear hb13
  have hsame2 := lSame (some ⟨b4, o4, none⟩) (some ⟨w13.heap.size, 0, none⟩) c4 1 [⟨1, [97], 0, 0⟩] [⟨1, [97], 0, 9⟩] (w13.alloc (.cells #[.int .i64 1, .string ⟨#[97]⟩, .int .i64 0, .int .i64 9] 35))
    (((TT4.out.drewN n10).below HB13.out (Nat.le_refl _)).below ((Below.refl w13.heap.size _).alloc (Nat.le_refl _) _) HB13.out.size |>.mono (Nat.le_trans HB13.out.size (by simp)))
    (toks_new w13 [⟨1, [97], 0, 9⟩] #[.int .i64 1, .string ⟨#[97]⟩, .int .i64 0, .int .i64 9] rfl (show (1 : Nat) ≤ 65536 by omega) (by simp))
  have Hs2 := Lib.hid hsame2; clear hsame2
  have k1 : Lx.same [⟨1, [97], 0, 0⟩] [⟨1, [97], 0, 0⟩, ⟨3, [61], 0, 1⟩, ⟨2, [], 1, 2⟩] = false := by decide +kernel
  have k2 : Lx.same [⟨1, [97], 0, 0⟩] [⟨1, [97], 0, 9⟩] = true := by decide +kernel
  go_wp2_with fail
  refine (Hs2.out).mono ?_
  rintro e w14 ⟨rfl, hb14⟩
  have HB14 := Lib.hid hb14; clear hb14
  go_wp2_with fail
  go_ret
  refine ⟨ret_bool ?_, ?_⟩
  · simp
  · exact (bel_drewN K09.out n10).trans ((HB13.out.mono K09.out.size).trans (((Below.refl _ _).alloc (Nat.le_trans K09.out.size HB13.out.size) _).trans (HB14.out.mono (by have := HB13.out.size; have := K09.out.size; simp at *; omega))))
end Go.Proofs.YtocelmjncjompaaDoor

namespace Go.Proofs.YtocelmjncjompaaDoor
open Go.RowKit

/-- A slice's address, below block B, from which on the elements of l lie, each of so many cells. -/
structure Lies (w : World) (B : Nat) (A : Option Addr) (sz : Nat) (l : List (List Value)) : Prop where
  at_ : ∀ k cs, l[k]? = some cs → ∃ b o, A = some ⟨b, o, none⟩ ∧ b < B ∧ ∀ j v, cs[j]? = some v → w.cell? ⟨b, o + k * sz + j, none⟩ = some v
  len : l.length ≤ 140737488351232
theorem Lies.below {w w' : World} {B B' : Nat} {A : Option Addr} {sz : Nat} {l : List (List Value)} (h : Lies w B A sz l) (hb : Below B' w w') (hB : B ≤ B') : Lies w' B A sz l :=
  ⟨fun k cs hk => by
    obtain ⟨b, o, e, hlt, hc⟩ := h.at_ k cs hk
    exact ⟨b, o, e, hlt, fun j v hj => (hb.cell (p := ⟨b, o + k * sz + j, none⟩) (show b < B' by omega)).trans (hc j v hj)⟩, h.len⟩
theorem Lies.mono {w : World} {B B' : Nat} {A : Option Addr} {sz : Nat} {l : List (List Value)} (h : Lies w B A sz l) (hB : B ≤ B') : Lies w B' A sz l :=
  ⟨fun k cs hk => by
    obtain ⟨b, o, e, hlt, hc⟩ := h.at_ k cs hk
    exact ⟨b, o, e, by omega, hc⟩, h.len⟩
theorem Lies.drewN {w : World} {B : Nat} {A : Option Addr} {sz : Nat} {l : List (List Value)} (h : Lies w B A sz l) (n : Nat) : Lies (w.drewN n) B A sz l := ⟨fun k cs hk => h.at_ k cs hk, h.len⟩
theorem Lies.nil (w : World) (B : Nat) (A : Option Addr) (sz : Nat) : Lies w B A sz [] := ⟨fun k cs h => by simp at h, by simp⟩

def strC (x : List UInt8) : List Value := [.string (Lx.bs x)]
def intC (n : Int) : List Value := [.int .i64 n]
def argC (a : Qy.Arg) : List Value := [.bool a.var, .int .i64 a.n]
def atomC (x : Qy.Atom) : List Value := .int .i64 x.kind :: (argC x.subj ++ argC x.obj ++ argC x.val ++ [.int .i64 x.term, .int .i64 x.known])
def testC (x : Qy.Test) : List Value := .int .i64 x.op :: (argC x.a ++ argC x.b)

/-- A query as a value: four slices. -/
structure QAt (w : World) (B : Nat) (v : Value) (q : Qy.Query) : Prop where
  form : ∃ A0 c0 A1 c1 A2 c2 A3 c3, v = .agg #[.slice A0 q.names.length c0, .slice A1 q.shown.length c1, .slice A2 q.atoms.length c2, .slice A3 q.tests.length c3] ∧
    Lies w B A0 1 (q.names.map strC) ∧ Lies w B A1 1 (q.shown.map intC) ∧ Lies w B A2 9 (q.atoms.map atomC) ∧ Lies w B A3 5 (q.tests.map testC)
  texts : ∀ n ∈ q.names, n.length ≤ 140737488351232

theorem lIn (n a b : Int) (w : World) : Calls Tryd.prog 57 #[.int .i64 n, .int .i64 a, .int .i64 b] w fun e w' => e = .returned (.bool (decide (a ≤ n) && decide (n ≤ b))) ∧ w = w' := by
  by_cases h : a ≤ n
  · go_enter Tryd.func57, Tryd.ntmps57
    go_wp2
    go_ret
    exact ⟨ret_bool (by simp [h]), rfl⟩
  · go_enter Tryd.func57, Tryd.ntmps57
    go_wp2
    go_ret
    exact ⟨ret_bool (by simp; omega), rfl⟩
theorem lConditions (A0 A1 A2 A3 : Option Addr) (n0 n1 n2 n3 c0 c1 c2 c3 : Nat) (w : World) (h2 : n2 ≤ 140737488351232) (h3 : n3 ≤ 140737488351232) :
    Calls Tryd.prog 58 #[.agg #[.slice A0 n0 c0, .slice A1 n1 c1, .slice A2 n2 c2, .slice A3 n3 c3]] w fun e w' => e = .returned (.int .i64 ((n2 + n3 : Nat) : Int)) ∧ Below w.heap.size w w' := by
  go_enter Tryd.func58, Tryd.ntmps58
  go_wp2
  go_ret
  exact ⟨ret_int (by omega), (Below.refl _ _).alloc (Nat.le_refl _) _⟩

/-- Few, as the reference counts (its sum may wrap). -/
def Qy.sumN (l : List (List UInt8)) : Int := l.foldl (fun n t => wrap64 (n + (t.length : Int))) 0
def Qy.few (q : Qy.Query) : Bool := decide ((q.names.length : Int) ≤ 20) && decide (Qy.sumN q.names ≤ 1000) && decide ((q.shown.length : Int) ≤ 20) && decide ((q.atoms.length : Int) ≤ 20) && decide ((q.tests.length : Int) ≤ 20)
theorem Qy.sumN_snoc (l : List (List UInt8)) (k : Nat) (t : List UInt8) (h : l[k]? = some t) : Qy.sumN (l.take (k + 1)) = wrap64 (Qy.sumN (l.take k) + (t.length : Int)) := by
  unfold Qy.sumN
  rw [List.take_add_one, h]
  simp [List.foldl_append]

set_option maxHeartbeats 1000000 in
theorem rQFew (v : Value) (q : Qy.Query) (w : World) (h : QAt w w.heap.size v q) : Calls Tryd.prog 28 #[v] w fun e w' => e = .returned (.bool (Qy.few q)) ∧ Below w.heap.size w w' := by
  obtain ⟨⟨A0, c0, A1, c1, A2, c2, A3, c3, rfl, h0, h1, h2, h3⟩, htx⟩ := h
  have z0 := h0.len; have z1 := h1.len; have z2 := h2.len; have z3 := h3.len
  rw [List.length_map] at z0 z1 z2 z3
  clear h1 h2 h3
  obtain ⟨n0, hn0⟩ : ∃ n0, n0 = q.names.length := ⟨_, rfl⟩
  obtain ⟨n1, hn1⟩ : ∃ n1, n1 = q.shown.length := ⟨_, rfl⟩
  obtain ⟨n2, hn2⟩ : ∃ n2, n2 = q.atoms.length := ⟨_, rfl⟩
  obtain ⟨n3, hn3⟩ : ∃ n3, n3 = q.tests.length := ⟨_, rfl⟩
  have hfew : Qy.few q = (decide ((n0 : Int) ≤ 20) && decide (Qy.sumN q.names ≤ 1000) && decide ((n1 : Int) ≤ 20) && decide ((n2 : Int) ≤ 20) && decide ((n3 : Int) ≤ 20)) := by
    rw [hn0, hn1, hn2, hn3]; rfl
  rw [← hn0] at z0 ⊢
  rw [← hn1] at z1 ⊢
  rw [← hn2] at z2 ⊢
  rw [← hn3] at z3 ⊢
  have Hn0 := Lib.hid hn0; have Hf := Lib.hid hfew
  clear hn0 hn1 hn2 hn3 hfew
  go_enter Tryd.func28, Tryd.ntmps28
  go_wp2
  go_loop [3, 4] (fun n i => ∃ k : Nat, k ≤ n0 ∧ i = .int .i64 k ∧ n = .int .i64 (Qy.sumN (q.names.take k))) (fun _ i => n0 - (intOf i).toNat)
  case atStart => exact ⟨0, by omega, rfl, rfl⟩
  case round =>
    obtain ⟨k, hk, rfl, rfl⟩ := hrel
    by_cases hlt : k < n0
    · obtain ⟨t, ht⟩ : ∃ t, q.names[k]? = some t := ⟨_, List.getElem?_eq_getElem (by have := Hn0.out; omega)⟩
      have htl := htx t (List.mem_of_getElem? ht)
      obtain ⟨b, o, rfl, hb, hc⟩ := h0.at_ k (strC t) (by rw [List.getElem?_map, ht]; rfl)
      have hc1 := hc 0 _ rfl
      rw [Nat.mul_one, Nat.add_zero] at hc1
      have hc2 := (cell_alloc_old w (.cells #[.slice (some ⟨b, o, none⟩) n0 c0, .slice A1 n1 c1, .slice A2 n2 c2, .slice A3 n3 c3] 46) b (o + k) hb).trans hc1
      have hls := Lx.bs_size t
      have Hs := Lib.hid (Qy.sumN_snoc q.names k t ht)
      clear hc hc1 ht h0
      obtain ⟨F, hF⟩ : ∃ F, F = Qy.sumN (q.names.take k) := ⟨_, rfl⟩
      rw [← hF] at Hs ⊢
      clear hF
      go_wp2
      go_round
      case rel => exact ⟨k + 1, by omega, by go_num, by rw [Hs.out]⟩
      case measure => simp [intOf]; omega
    · obtain rfl : k = n0 := by omega
      have e : q.names.take k = q.names := List.take_of_length_le (by rw [← Hn0.out]; exact Nat.le_refl _)
      rw [e]
      obtain ⟨F, hF⟩ : ∃ F, F = Qy.sumN q.names := ⟨_, rfl⟩
      rw [← hF] at Hf ⊢
      clear hF
      by_cases e0 : (k : Int) ≤ 20
      · by_cases e1 : F ≤ 1000
        · by_cases e2 : (n1 : Int) ≤ 20
          · by_cases e3 : (n2 : Int) ≤ 20
            all_goals
              go_wp2
              go_ret
              exact ⟨ret_bool (by rw [Hf.out]; simp [*] <;> omega), (Below.refl _ _).alloc (Nat.le_refl _) _⟩
          · go_wp2
            go_ret
            exact ⟨ret_bool (by rw [Hf.out]; simp [*] <;> omega), (Below.refl _ _).alloc (Nat.le_refl _) _⟩
        · go_wp2
          go_ret
          exact ⟨ret_bool (by rw [Hf.out]; simp [*] <;> omega), (Below.refl _ _).alloc (Nat.le_refl _) _⟩
      · go_wp2
        go_ret
        exact ⟨ret_bool (by rw [Hf.out]; simp [*] <;> omega), (Below.refl _ _).alloc (Nat.le_refl _) _⟩
end Go.Proofs.YtocelmjncjompaaDoor

namespace Go.Proofs.YtocelmjncjompaaDoor
open Go.RowKit

def atomV (x : Qy.Atom) : Value := .agg #[.int .i64 x.kind, .bool x.subj.var, .int .i64 x.subj.n, .bool x.obj.var, .int .i64 x.obj.n, .bool x.val.var, .int .i64 x.val.n, .int .i64 x.term, .int .i64 x.known]
def testV (x : Qy.Test) : Value := .agg #[.int .i64 x.op, .bool x.a.var, .int .i64 x.a.n, .bool x.b.var, .int .i64 x.b.n]
theorem eqBool (d : Nat) (w : World) (x y : Bool) : (Op.equalIn (d + 1) 4 (.bool x) (.bool y)).run Tryd.prog w = .ok (x == y) w := run_equalIn_bool w d 4 x y Tryd.underlying4
theorem eqInt (d : Nat) (w : World) (x y : Int) : (Op.equalIn (d + 1) 3 (.int .i64 x) (.int .i64 y)).run Tryd.prog w = .ok (x == y) w := run_equalIn_int w d 3 .i64 .i64 x y Tryd.underlying3
theorem eqArg (d : Nat) (a b : Qy.Arg) (w : World) : (Op.equalIn (d + 1 + 1) 73 (.agg #[.bool a.var, .int .i64 a.n]) (.agg #[.bool b.var, .int .i64 b.n])).run Tryd.prog w = .ok (a.var == b.var && a.n == b.n) w := by
  rw [run_equalIn_struct w (d + 1) 73 _ _ (by kernel_rfl) (by kernel_rfl)]
  have p0 : ∀ (w : World) (x : Bool) (n : Int), (part 4 #[.bool x, .int .i64 n] 0).run Tryd.prog w = .ok (.bool x) w := fun _ _ _ => by kernel_rfl
  have p1 : ∀ (w : World) (x : Bool) (n : Int), (part 3 #[.bool x, .int .i64 n] 1).run Tryd.prog w = .ok (.int .i64 n) w := fun _ _ _ => by kernel_rfl
  simp only [Program.fieldsOf, Tryd.underlying73]
  cases h1 : a.var == b.var <;> cases h2 : a.n == b.n <;> simp [Op.eqFields, p0, p1, eqBool, eqInt, h1, h2]
theorem eqAtom (x y : Qy.Atom) (w : World) : (Op.equal 76 (atomV x) (atomV y)).run Tryd.prog w = .ok (decide (x = y)) w := by
  have e : decide (x = y) = (x.kind == y.kind && ((x.subj.var == y.subj.var && x.subj.n == y.subj.n) && ((x.obj.var == y.obj.var && x.obj.n == y.obj.n) && ((x.val.var == y.val.var && x.val.n == y.val.n) && (x.term == y.term && x.known == y.known))))) := by
    obtain ⟨a, ⟨b, c⟩, ⟨d, e⟩, ⟨f, g⟩, i, j⟩ := x
    obtain ⟨a', ⟨b', c'⟩, ⟨d', e'⟩, ⟨f', g'⟩, i', j'⟩ := y
    rw [Bool.eq_iff_iff]
    simp only [decide_eq_true_eq, Qy.Atom.mk.injEq, Qy.Arg.mk.injEq, Bool.and_eq_true, beq_iff_eq]
  rw [e]
  show (Op.equalIn (9997 + 1 + 1 + 1) 76 (atomV x) (atomV y)).run Tryd.prog w = _
  unfold atomV
  rw [run_equalIn_struct w (9997 + 1 + 1) 76 _ _ (by kernel_rfl) (by kernel_rfl)]
  have p0 : ∀ (w : World) (z : Qy.Atom), (part 3 #[.int .i64 z.kind, .bool z.subj.var, .int .i64 z.subj.n, .bool z.obj.var, .int .i64 z.obj.n, .bool z.val.var, .int .i64 z.val.n, .int .i64 z.term, .int .i64 z.known] 0).run Tryd.prog w = .ok (.int .i64 z.kind) w := fun _ _ => by kernel_rfl
  have p1 : ∀ (w : World) (z : Qy.Atom), (part 73 #[.int .i64 z.kind, .bool z.subj.var, .int .i64 z.subj.n, .bool z.obj.var, .int .i64 z.obj.n, .bool z.val.var, .int .i64 z.val.n, .int .i64 z.term, .int .i64 z.known] 1).run Tryd.prog w = .ok (.agg #[.bool z.subj.var, .int .i64 z.subj.n]) w := fun _ _ => by kernel_rfl
  have p3 : ∀ (w : World) (z : Qy.Atom), (part 73 #[.int .i64 z.kind, .bool z.subj.var, .int .i64 z.subj.n, .bool z.obj.var, .int .i64 z.obj.n, .bool z.val.var, .int .i64 z.val.n, .int .i64 z.term, .int .i64 z.known] 3).run Tryd.prog w = .ok (.agg #[.bool z.obj.var, .int .i64 z.obj.n]) w := fun _ _ => by kernel_rfl
  have p5 : ∀ (w : World) (z : Qy.Atom), (part 73 #[.int .i64 z.kind, .bool z.subj.var, .int .i64 z.subj.n, .bool z.obj.var, .int .i64 z.obj.n, .bool z.val.var, .int .i64 z.val.n, .int .i64 z.term, .int .i64 z.known] 5).run Tryd.prog w = .ok (.agg #[.bool z.val.var, .int .i64 z.val.n]) w := fun _ _ => by kernel_rfl
  have p7 : ∀ (w : World) (z : Qy.Atom), (part 3 #[.int .i64 z.kind, .bool z.subj.var, .int .i64 z.subj.n, .bool z.obj.var, .int .i64 z.obj.n, .bool z.val.var, .int .i64 z.val.n, .int .i64 z.term, .int .i64 z.known] 7).run Tryd.prog w = .ok (.int .i64 z.term) w := fun _ _ => by kernel_rfl
  have p8 : ∀ (w : World) (z : Qy.Atom), (part 3 #[.int .i64 z.kind, .bool z.subj.var, .int .i64 z.subj.n, .bool z.obj.var, .int .i64 z.obj.n, .bool z.val.var, .int .i64 z.val.n, .int .i64 z.term, .int .i64 z.known] 8).run Tryd.prog w = .ok (.int .i64 z.known) w := fun _ _ => by kernel_rfl
  simp only [Program.fieldsOf, Tryd.underlying76]
  cases h1 : x.kind == y.kind
  · simp [Op.eqFields, p0, eqInt, h1]
  cases h2 : (x.subj.var == y.subj.var && x.subj.n == y.subj.n)
  · simp only [Op.eqFields, Sem.run_bind, Sem.run_ite, p0, p1, eqInt, eqArg, h1, h2, Result.andThen_ok]; simp
  cases h3 : (x.obj.var == y.obj.var && x.obj.n == y.obj.n)
  · simp only [Op.eqFields, Sem.run_bind, Sem.run_ite, p0, p1, p3, eqInt, eqArg, h1, h2, h3, Result.andThen_ok]; simp
  cases h4 : (x.val.var == y.val.var && x.val.n == y.val.n)
  · simp only [Op.eqFields, Sem.run_bind, Sem.run_ite, p0, p1, p3, p5, eqInt, eqArg, h1, h2, h3, h4, Result.andThen_ok]; simp
  cases h5 : x.term == y.term
  · simp only [Op.eqFields, Sem.run_bind, Sem.run_ite, p0, p1, p3, p5, p7, eqInt, eqArg, h1, h2, h3, h4, h5, Result.andThen_ok]; simp
  cases h6 : x.known == y.known
  · simp only [Op.eqFields, Sem.run_bind, Sem.run_ite, p0, p1, p3, p5, p7, p8, eqInt, eqArg, h1, h2, h3, h4, h5, h6, Result.andThen_ok]; simp
  · simp only [Op.eqFields, Sem.run_bind, Sem.run_ite, p0, p1, p3, p5, p7, p8, eqInt, eqArg, h1, h2, h3, h4, h5, h6, Result.andThen_ok]; simp
theorem eqTest (x y : Qy.Test) (w : World) : (Op.equal 78 (testV x) (testV y)).run Tryd.prog w = .ok (decide (x = y)) w := by
  have e : decide (x = y) = (x.op == y.op && ((x.a.var == y.a.var && x.a.n == y.a.n) && (x.b.var == y.b.var && x.b.n == y.b.n))) := by
    obtain ⟨a, ⟨b, c⟩, ⟨d, e⟩⟩ := x
    obtain ⟨a', ⟨b', c'⟩, ⟨d', e'⟩⟩ := y
    rw [Bool.eq_iff_iff]
    simp only [decide_eq_true_eq, Qy.Test.mk.injEq, Qy.Arg.mk.injEq, Bool.and_eq_true, beq_iff_eq]
  rw [e]
  show (Op.equalIn (9997 + 1 + 1 + 1) 78 (testV x) (testV y)).run Tryd.prog w = _
  unfold testV
  rw [run_equalIn_struct w (9997 + 1 + 1) 78 _ _ (by kernel_rfl) (by kernel_rfl)]
  have p0 : ∀ (w : World) (z : Qy.Test), (part 3 #[.int .i64 z.op, .bool z.a.var, .int .i64 z.a.n, .bool z.b.var, .int .i64 z.b.n] 0).run Tryd.prog w = .ok (.int .i64 z.op) w := fun _ _ => by kernel_rfl
  have p1 : ∀ (w : World) (z : Qy.Test), (part 73 #[.int .i64 z.op, .bool z.a.var, .int .i64 z.a.n, .bool z.b.var, .int .i64 z.b.n] 1).run Tryd.prog w = .ok (.agg #[.bool z.a.var, .int .i64 z.a.n]) w := fun _ _ => by kernel_rfl
  have p3 : ∀ (w : World) (z : Qy.Test), (part 73 #[.int .i64 z.op, .bool z.a.var, .int .i64 z.a.n, .bool z.b.var, .int .i64 z.b.n] 3).run Tryd.prog w = .ok (.agg #[.bool z.b.var, .int .i64 z.b.n]) w := fun _ _ => by kernel_rfl
  simp only [Program.fieldsOf, Tryd.underlying78]
  cases h1 : x.op == y.op
  · simp [Op.eqFields, p0, eqInt, h1]
  cases h2 : (x.a.var == y.a.var && x.a.n == y.a.n)
  · simp only [Op.eqFields, Sem.run_bind, Sem.run_ite, p0, p1, eqInt, eqArg, h1, h2, Result.andThen_ok]; simp
  cases h3 : (x.b.var == y.b.var && x.b.n == y.b.n)
  · simp only [Op.eqFields, Sem.run_bind, Sem.run_ite, p0, p1, p3, eqInt, eqArg, h1, h2, h3, Result.andThen_ok]; simp
  · simp only [Op.eqFields, Sem.run_bind, Sem.run_ite, p0, p1, p3, eqInt, eqArg, h1, h2, h3, Result.andThen_ok]; simp
theorem neqAtom (x y : Qy.Atom) (w : World) : (binOp .neq 76 (atomV x) (atomV y)).run Tryd.prog w = .ok (.bool (!decide (x = y))) w := by
  have h := eqAtom x y w
  unfold atomV at h ⊢
  simp only [binOp]
  simp [h]
theorem neqTest (x y : Qy.Test) (w : World) : (binOp .neq 78 (testV x) (testV y)).run Tryd.prog w = .ok (.bool (!decide (x = y))) w := by
  have h := eqTest x y w
  unfold testV at h ⊢
  simp only [binOp]
  simp [h]
end Go.Proofs.YtocelmjncjompaaDoor

namespace Go.Proofs.YtocelmjncjompaaDoor
open Go.RowKit

section
variable {P : Program} {F : Fence} {n : Nat}
/-- The iterator gives just xs, in order, unless a round says 'no more'. Before its first round it may do what it likes behind the blocks that lay there; Kp: what a round keeps. -/
def SeqB {α : Type} (F : Fence) (n : Nat) (P : Program) (g : Nat) (lb : Array Value) (encs : α → Array Value) (Kp : World → World → Prop) (xs : List α) (Pre : World → Prop) : Prop :=
  ∀ (l : Nat) (J Jx : List α → World → Prop) (W : World), Pre W → (∀ Y, Below W.heap.size W Y → J [] Y) →
    (∀ pre Y k ds o', J pre Y → W.heap.size ≤ k → Y.heap[k]? = some (.deferred ds) → o'.isCells = false → J pre (Y.putObj k o')) → (∀ pre Y k ds o', Jx pre Y → W.heap.size ≤ k → Y.heap[k]? = some (.deferred ds) → o'.isCells = false → Jx pre (Y.putObj k o')) →
    (∀ pre x W1, J pre W1 → pre ++ [x] <+: xs → YieldAt F (n - 1) P l (encs x) W1 fun e W' =>
      (e = .returned (.bool true) ∧ J (pre ++ [x]) W' ∧ Kp W1 W') ∨ (e = .returned (.bool false) ∧ Jx (pre ++ [x]) W' ∧ ∀ (k : Nat) (ds : Option (List Deferred)), W.heap.size ≤ k → W1.heap[k]? = some (.deferred ds) → W'.heap[k]? = some (.deferred ds))) →
    CallsIn F n P g (#[.func (.yield l) #[] #[]] ++ lb) W fun e W' => (∃ v, e = .returned v) ∧ (J xs W' ∨ ∃ pre, pre <+: xs ∧ Jx pre W')

theorem wpIn_rangeB {α : Type} {g : Operand} {ps : Array Tmp} {assign body : Code} {Q : Exit → Act → World → Prop} {a : Act} {w : World}
    (hro : F.round = none) (h1 : F.depth.isSome = true → 1 ≤ n) {gf : Nat} {lb : Array Value} (hg : a.eval g = .func (.func gf) #[] lb) (hFg : F.fn gf) (eg : ∀ args w, (callFunc gf args).run P w = .ok (.enter gf args) w)
    {encs : α → Array Value} {Kp : World → World → Prop} {xs : List α} {Pre : World → Prop} (hseq : SeqB F (n - 1) P gf lb encs Kp xs Pre) (hpre : ∀ Y, Below w.heap.size w Y → Pre Y)
    (hKt : ∀ {A B C : World}, Kp A B → Kp B C → Kp A C) (hKb : ∀ (W : World) (l : Nat) (r r' : Loop), w.heap.size ≤ l → W.heap[l]? = some (.loop r) → Kp W (W.putObj l (.loop r'))) (hps : ∀ x, (encs x).size = ps.size)
    (I : List α → World → Prop) (Ix : Code → List α → World → Prop) (hI : OwnFrom w.heap.size I) (hIx : ∀ c, OwnFrom w.heap.size (Ix c)) (h0 : ∀ Y, Below w.heap.size w Y → I [] Y) (a₁ : α → Act)
    (hassign : ∀ (l : Nat) (x : α) (W : World) (K : Act → World → Prop), K (a₁ x) W →
      assign.wpIn (F.inRound l) (n - 1 - 1) P (Exit.then K (fun _ _ _ => False)) { tmps := (ps.zip (encs x)).foldl (fun t (p, v) => t.setIfInBounds p v) a.tmps, defers := [] } W)
    (hbody : ∀ (l : Nat) (pre : List α) (x : α) (W : World), I pre W → pre ++ [x] <+: xs → body.wpIn (F.inRound l) (n - 1 - 1) P (ownPostG w.heap.size Kp I Ix (pre ++ [x]) W) (a₁ x) W)
    (hdone : ∀ (D : Nat) (W : World), w.heap.size ≤ D → I xs W → W.heap[D]? = some (.deferred (some [])) → Q .normal { a with defers := { target := .collected D, args := #[] } :: a.defers } W)
    (hstop : ∀ (D : Nat) (c : Code) (pre : List α) (W : World), w.heap.size ≤ D → pre <+: xs → Ix c pre W → W.heap[D]? = some (.deferred (some [])) → c.wpIn F n P Q { a with defers := { target := .collected D, args := #[] } :: a.defers } W) :
    (Code.rangeFunc g ps assign body).wpIn F n P Q a w := by
  refine wpIn_rangeFunc ?_
  intro fn hfn
  rw [hro]
  obtain ⟨rec, hrec⟩ : ∃ rec : LoopState → Option Code → Loop, rec = fun st pe => { state := st, pending := pe, fn, tmps := a.tmps, params := ps, assign, body, defers := w.heap.size } := ⟨_, rfl⟩
  obtain ⟨W1, hW1⟩ : ∃ W1, (w.alloc (.deferred (some []))).alloc (.loop (rec .ready none)) = W1 := ⟨_, rfl⟩
  have hL1 : W1.heap[w.heap.size + 1]? = some (.loop (rec .ready none)) := by
    rw [← hW1]; have := World.alloc_heap_new (w.alloc (.deferred (some []))) (.loop (rec .ready none)); rwa [World.size_alloc] at this
  have hK1 : W1.heap[w.heap.size]? = some (.deferred (some [])) := by
    rw [← hW1]; exact (Below.heap_alloc _ _ _ (by simp)).trans (World.alloc_heap_new w _)
  have hsz1 : W1.heap.size = w.heap.size + 2 := by rw [← hW1]; simp
  have hb1 : Below w.heap.size w W1 := by
    rw [← hW1]; exact ((Below.refl _ w).alloc (Nat.le_refl _) _).alloc (by simp) _
  refine ⟨w.heap.size + 1, [{ target := .collected w.heap.size, args := #[] }], W1, { target := .fn (.func gf) lb, args := #[.func (.yield (w.heap.size + 1)) #[] #[]] }, W1, gf,
    #[.func (.yield (w.heap.size + 1)) #[] #[]] ++ lb, W1, ?_, ?_, ?_, ?_, h1, ?_⟩
  · rw [← hW1, hrec]; exact run_enterLoop_outer _ _ _ _ _
  · simp only [resolve, hg]
    simp [go_sem]
  · intro f' hf'; simp [Target.leads] at hf'; subst hf'; exact hFg
  · simp [invoke, go_sem, eg]
  · refine (hseq (w.heap.size + 1)
      (fun pre W => I pre W ∧ W.heap[w.heap.size + 1]? = some (.loop (rec .ready none)) ∧ W.heap[w.heap.size]? = some (.deferred (some [])))
      (fun pre W => ∃ c, Ix c pre W ∧ W.heap[w.heap.size + 1]? = some (.loop (rec .done (some c))) ∧ W.heap[w.heap.size]? = some (.deferred (some [])))
      W1 (hpre W1 hb1)
      (fun Y hY => ⟨h0 Y (hb1.trans (hY.mono (by omega))), (hY.block _ (by omega)).trans hL1, (hY.block _ (by omega)).trans hK1⟩)
      (fun pre Y k ds o' hJ hk hd ho => ⟨hI.putObj _ hJ.1 (by omega) hd rfl, (World.putObj_heap_other (by omega)).trans hJ.2.1, (World.putObj_heap_other (by omega)).trans hJ.2.2⟩)
      (fun pre Y k ds o' hJ hk hd ho => by
        obtain ⟨c, h1, h2, h3⟩ := hJ
        exact ⟨c, (hIx c).putObj _ h1 (by omega) hd rfl, (World.putObj_heap_other (by omega)).trans h2, (World.putObj_heap_other (by omega)).trans h3⟩)
      ?_).mono ?_
    · -- one round
      rintro pre x W ⟨hi, hl, hk⟩ hlen
      have hlt : w.heap.size + 1 < W.heap.size := (Array.getElem?_eq_some_iff.1 hl).1
      have hy := run_yield (P := P) (args := encs x) hl (by rw [hrec]; exact hps x)
      rw [hrec] at hy
      refine ⟨fn, _, assign, body, hy, roundIn_of_wpIn hfn (hassign _ x W _ ?_)⟩
      clear hy
      refine ⟨_, run_beginRound hl (by rw [hrec]), ?_⟩
      have hl2 : (W.putObj (w.heap.size + 1) (.loop { rec .ready none with state := .busy })).heap[w.heap.size + 1]? = some (.loop { rec .ready none with state := .busy }) := World.putObj_heap_same hlt
      have hk2 : (W.putObj (w.heap.size + 1) (.loop { rec .ready none with state := .busy })).heap[w.heap.size]? = some (.deferred (some [])) := (World.putObj_heap_other (by omega)).trans hk
      have hw2 : Kp W (W.putObj (w.heap.size + 1) (.loop { rec .ready none with state := .busy })) := hKb _ _ _ _ (by omega) hl
      refine wpIn_mono (hbody _ pre x _ (hI.putObj _ hi (by omega) hl rfl) hlen) ?_
      have fin : ∀ (jump : Option Code) (W3 : World), KeepsFrom w.heap.size (W.putObj (w.heap.size + 1) (.loop { rec .ready none with state := .busy })) W3 →
          (Instr.endRound (w.heap.size + 1) jump).run P W3 = .ok (.bool jump.isNone) (W3.putObj (w.heap.size + 1) (.loop (rec (if jump.isNone then .ready else .done) jump))) ∧
          W3.heap[w.heap.size + 1]? = some (.loop { rec .ready none with state := .busy }) ∧
          (W3.putObj (w.heap.size + 1) (.loop (rec (if jump.isNone then .ready else .done) jump))).heap[w.heap.size + 1]? = some (.loop (rec (if jump.isNone then .ready else .done) jump)) ∧
          (W3.putObj (w.heap.size + 1) (.loop (rec (if jump.isNone then .ready else .done) jump))).heap[w.heap.size]? = some (.deferred (some [])) := fun jump W3 hk3 => by
        have hl3 := hk3.same _ _ (by omega) hl2 rfl
        have := run_endRound (P := P) jump hl3
        rw [hrec] at this ⊢
        exact ⟨this, by rw [hrec] at hl3; exact hl3, World.putObj_heap_same (Array.getElem?_eq_some_iff.1 hl3).1, (World.putObj_heap_other (by omega)).trans (hk3.same _ _ (Nat.le_refl _) hk2 rfl)⟩
      rintro e a3 W3 hp
      cases e with
      | normal =>
        obtain ⟨hk3, hkp3, hi3⟩ := hp
        obtain ⟨hr, hl3, hl4, hk4⟩ := fin none W3 hk3
        exact ⟨_, _, hr, .inl ⟨rfl, ⟨hI.putObj _ hi3 (by omega) hl3 rfl, hl4, hk4⟩, hKt (hKt hw2 hkp3) (hKb _ _ _ _ (by omega) hl3)⟩⟩
      | ret =>
        obtain ⟨hk3, hi3⟩ := hp
        obtain ⟨hr, hl3, hl4, hk4⟩ := fin (some .ret) W3 hk3
        exact ⟨_, _, hr, .inr ⟨rfl, ⟨.ret, (hIx _).putObj _ hi3 (by omega) hl3 rfl, hl4, hk4⟩, fun k ds hk hd => (World.putObj_heap_other (by omega)).trans (hk3.same k _ (by omega) ((World.putObj_heap_other (by omega)).trans hd) rfl)⟩⟩
      | exit id =>
        obtain ⟨hk3, hi3⟩ := hp
        obtain ⟨hr, hl3, hl4, hk4⟩ := fin (some (.exit id)) W3 hk3
        exact ⟨_, _, hr, .inr ⟨rfl, ⟨.exit id, (hIx _).putObj _ hi3 (by omega) hl3 rfl, hl4, hk4⟩, fun k ds hk hd => (World.putObj_heap_other (by omega)).trans (hk3.same k _ (by omega) ((World.putObj_heap_other (by omega)).trans hd) rfl)⟩⟩
      | goto t =>
        obtain ⟨hk3, hi3⟩ := hp
        obtain ⟨hr, hl3, hl4, hk4⟩ := fin (some (.goto t)) W3 hk3
        exact ⟨_, _, hr, .inr ⟨rfl, ⟨.goto t, (hIx _).putObj _ hi3 (by omega) hl3 rfl, hl4, hk4⟩, fun k ds hk hd => (World.putObj_heap_other (by omega)).trans (hk3.same k _ (by omega) ((World.putObj_heap_other (by omega)).trans hd) rfl)⟩⟩
      | panic ch => exact hp.elim
      | outgrown => exact hp.elim
    · -- behind the iterator
      rintro e W2 ⟨⟨v, rfl⟩, (⟨hi, hl, hk⟩ | ⟨pre, hSp, c, hi, hl, hk⟩)⟩
      · exact ⟨none, _, by have := run_endLoop (P := P) hl (by rw [hrec]; simp); rw [hrec] at this; exact this, hdone _ _ (Nat.le_refl _) (hI.putObj _ hi (by omega) hl rfl) ((World.putObj_heap_other (by omega)).trans hk)⟩
      · exact ⟨some c, _, by have := run_endLoop (P := P) hl (by rw [hrec]; simp); rw [hrec] at this; exact this, hstop _ c pre _ (Nat.le_refl _) hSp ((hIx c).putObj _ hi (by omega) hl rfl) ((World.putObj_heap_other (by omega)).trans hk)⟩
end

/-- Blocks of elements of type T are as they were, and so are blocks of deferred calls. -/
structure KT (T : TypeId) (W W' : World) : Prop where
  size : W.heap.size ≤ W'.heap.size
  rows : ∀ (k : Nat) (cs : Array Value) (fr : Nat × Nat), W.heap[k]? = some (Obj.cells cs T fr) → W'.heap[k]? = some (Obj.cells cs T fr)
  defs : ∀ (k : Nat) (ds : Option (List Deferred)), W.heap[k]? = some (Obj.deferred ds) → W'.heap[k]? = some (Obj.deferred ds)
section
variable {T t : TypeId} {A B C : World}
theorem KT.refl (T : TypeId) (W : World) : KT T W W := ⟨Nat.le_refl _, fun _ _ _ h => h, fun _ _ h => h⟩
theorem KT.trans (h : KT T A B) (k : KT T B C) : KT T A C := ⟨Nat.le_trans h.size k.size, fun i cs fr hi => k.rows i cs fr (h.rows i cs fr hi), fun i ds hi => k.defs i ds (h.defs i ds hi)⟩
theorem KT.put (W : World) (l : Nat) (r r' : Loop) (h : W.heap[l]? = some (.loop r)) : KT T W (W.putObj l (.loop r')) :=
  ⟨by simp [World.putObj], fun k cs fr hk => by
    rw [World.putObj_heap_other]
    · exact hk
    · rintro rfl
      rw [h] at hk
      exact absurd hk (by simp), fun k ds hk => by
    rw [World.putObj_heap_other]
    · exact hk
    · rintro rfl
      rw [h] at hk
      cases hk⟩
theorem KT.set {g : Nat} {cs : Array Value} (hb : Blk B g t cs) (hne : t ≠ T) (h : KT T A B) (i : Nat) (u : Value) : KT T A (B.setCell ⟨g, i, none⟩ u) :=
  ⟨by simpa [World.setCell] using h.size, fun k cs' fr hk => by
    rw [Below.heap_setCell]
    · exact h.rows k cs' fr hk
    · rintro rfl
      have := h.rows _ _ _ hk
      unfold Blk at hb
      rw [hb] at this
      injection this with this
      injection this with _ ht
      exact hne ht, fun k ds hk => by
    rw [Below.heap_setCell]
    · exact h.defs k ds hk
    · rintro rfl
      have := h.defs _ _ hk
      unfold Blk at hb
      rw [hb] at this
      cases this⟩
theorem KT.below (h : KT T A B) (hb : Below B.heap.size B C) : KT T A C := ⟨Nat.le_trans h.size hb.size, fun k cs fr hk => by
  have := h.rows k cs fr hk
  exact (hb.block k (Array.getElem?_eq_some_iff.1 this).1).trans this, fun k ds hk => by
  have := h.defs k ds hk
  exact (hb.block k (Array.getElem?_eq_some_iff.1 this).1).trans this⟩
theorem KT.alloc (h : KT T A B) (o : Obj) : KT T A (B.alloc o) := h.below ((Below.refl _ _).alloc (Nat.le_refl _) o)
theorem KT.drewN (h : KT T A B) (n : Nat) : KT T A (B.drewN n) := ⟨h.size, h.rows, h.defs⟩
theorem KT.drew (h : KT T A B) : KT T A B.drew := ⟨h.size, h.rows, h.defs⟩
theorem KT.grown {base sz m : Nat} {e : TypeId} {v : Value} {xs : List Value} (h : KT T A B) (hown : B.ownsRow base e sz v m xs) (hne : e ≠ T) (hg : B.grownBy C v.ownBlock) : KT T A C :=
  ⟨Nat.le_trans h.size hg.size, fun k cs fr hk => by
    have h1 := h.rows k cs fr hk
    refine (hg.block k (Array.getElem?_eq_some_iff.1 h1).1 (fun e1 => ?_)).trans h1
    rcases hown.2 with ⟨rfl, _⟩ | ⟨g', cap', cur', rfl, _, hh', _⟩
    · simp [Value.ownBlock] at e1
    · have : k = g' := by simpa [Value.ownBlock] using e1
      subst this
      rw [h1] at hh'
      injection hh' with hh'
      injection hh' with _ ht
      exact hne ht.symm, fun k ds hk => by
    have h1 := h.defs k ds hk
    refine (hg.block k (Array.getElem?_eq_some_iff.1 h1).1 (fun e1 => ?_)).trans h1
    rcases hown.2 with ⟨rfl, _⟩ | ⟨g', cap', cur', rfl, _, hh', _⟩
    · simp [Value.ownBlock] at e1
    · have : k = g' := by simpa [Value.ownBlock] using e1
      subst this
      rw [h1] at hh'
      cases hh'⟩
theorem KT.blk {g : Nat} {cs : Array Value} (h : KT T A B) (hb : Blk A g T cs) : Blk B g T cs := h.rows g cs (0, 0) hb
theorem KT.own {base sz m : Nat} {v : Value} {xs : List Value} (h : KT T A B) (hown : A.ownsRow base T sz v m xs) : B.ownsRow base T sz v m xs := by
  refine ⟨hown.1, ?_⟩
  rcases hown.2 with h2 | ⟨g', cap', cur', hv, hb, hh, r⟩
  · exact .inl h2
  · exact .inr ⟨g', cap', cur', hv, hb, h.rows _ _ _ hh, r⟩
end
end Go.Proofs.YtocelmjncjompaaDoor
