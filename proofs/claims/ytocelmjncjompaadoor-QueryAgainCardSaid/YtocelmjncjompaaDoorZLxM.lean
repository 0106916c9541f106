/- Parts of the proof, joined into one text: LxM, QySpec, QyMem, QyEql. -/
import Derived.Test.YtocelmjncjompaaDoorZLxJ
import Derived.Test.YtocelmjncjompaaDoorZLxPlain
import Derived.Laws.StructEq

namespace Go.Proofs.YtocelmjncjompaaDoor
open Go.RowKit
open Lx (Tok)

theorem lLexOk (s : ByteArray) (l : List Tok) (w : World) (he : Env w) (hs : s.size ≤ 65536) (hl : Lx.lex s.data.toList = .ok l) :
    Calls Tryd.prog 15 #[.string s] w fun e w' => ∃ A c, e = .returned (.tuple #[.slice A l.length c, .int .i64 0, .int .i64 0]) ∧ Toks w' w'.heap.size A l ∧ Below w.heap.size w w' ∧ Env w' := by
  refine (lLexShort s w he hs).mono fun e w' ⟨hb, h⟩ => ?_
  rw [if_neg (by rw [Lx.ba_len]; omega), hl] at h
  obtain ⟨A, c, h1, h2, _⟩ := h
  exact ⟨A, c, h1, h2, hb, he.next hb⟩
theorem lLexErr (s : ByteArray) (p : Nat) (w : World) (he : Env w) (hs : s.size ≤ 65536) (hl : Lx.lex s.data.toList = .err p) :
    Calls Tryd.prog 15 #[.string s] w fun e w' => e = .returned (.tuple #[.slice none 0 0, .int .i64 p, .int .i64 90]) ∧ Below w.heap.size w w' ∧ Env w' := by
  refine (lLexShort s w he hs).mono fun e w' ⟨hb, h⟩ => ?_
  rw [if_neg (by rw [Lx.ba_len]; omega), hl] at h
  exact ⟨h, hb, he.next hb⟩
theorem lTextOk (A : Option Addr) (c : Nat) (l : List Tok) (s : List UInt8) (w : World) (he : Env w) (h : Toks w w.heap.size A l) (hl : l.length ≤ 65536) (ht : Lx.text l = some s) :
    Calls Tryd.prog 19 #[.slice A l.length c] w fun e w' => e = .returned (.tuple #[.string (Lx.bs s), .int .i64 0]) ∧ Below w.heap.size w w' ∧ Env w' := by
  refine (lText A c l w he h hl).mono fun e w' ⟨hb, h⟩ => ?_
  rw [ht] at h
  exact ⟨h, hb, he.next hb⟩
theorem lTextErr (A : Option Addr) (c : Nat) (l : List Tok) (w : World) (he : Env w) (h : Toks w w.heap.size A l) (hl : l.length ≤ 65536) (ht : Lx.text l = none) :
    Calls Tryd.prog 19 #[.slice A l.length c] w fun e w' => e = .returned (.tuple #[.string ⟨#[]⟩, .int .i64 90]) ∧ Below w.heap.size w w' ∧ Env w' := by
  refine (lText A c l w he h hl).mono fun e w' ⟨hb, h⟩ => ?_
  rw [ht] at h
  exact ⟨h, hb, he.next hb⟩

theorem toks_new (w : World) (l : List Tok) (cs : Array Value) (h : cs.toList = l.flatMap Tok.cells) (hl : l.length ≤ 65536) (ht : ∀ t ∈ l, t.text.length ≤ 65536) :
    Toks (w.alloc (.cells cs 35)) (w.alloc (.cells cs 35)).heap.size (some ⟨w.heap.size, 0, none⟩) l := by
  refine ⟨fun k t hk => ?_, by omega, fun t h => by have := ht t h; omega⟩
  have hb := Blk.new w 35 cs
  have hcell := fun (j : Nat) (hj : j < 4) => (hb.cell (k * 4 + j)).trans (show cs[k * 4 + j]? = t.cells[j]? by rw [← Array.getElem?_toList, h]; exact flat_at l k t j hk hj)
  refine ⟨w.heap.size, 0, rfl, by simp, ?_, ?_, ?_, ?_⟩
  · have := hcell 0 (by omega); simp [Tok.cells] at this ⊢; exact this
  · have := hcell 1 (by omega); simp [Tok.cells, Lx.bs] at this ⊢; exact this
  · have := hcell 2 (by omega); simp [Tok.cells] at this ⊢; exact this
  · have := hcell 3 (by omega); simp [Tok.cells] at this ⊢; exact this
theorem Toks.first {w : World} {B : Nat} {A : Option Addr} {t : Tok} {l : List Tok} (h : Toks w B A (t :: l)) : ∃ b o, A = some ⟨b, o, none⟩ ∧ b < B ∧ w.cell? ⟨b, o, none⟩ = some (.int .i64 t.kind) ∧ w.cell? ⟨b, o + 1, none⟩ = some (.string (Lx.bs t.text)) ∧ w.cell? ⟨b, o + 2, none⟩ = some (.int .i64 t.n) ∧ w.cell? ⟨b, o + 3, none⟩ = some (.int .i64 t.pos) := by
  obtain ⟨b, o, h1, h2, h3⟩ := h.at_ 0 t rfl
  exact ⟨b, o, h1, h2, by simpa using h3.kind, by simpa using h3.text, by simpa using h3.n, by simpa using h3.pos⟩

def sA : ByteArray := ⟨#[101, 97, 114, 110, 32, 51, 48, 59]⟩
def tA : List Tok := [⟨1, [101, 97, 114, 110], 0, 0⟩, ⟨2, [], 30, 5⟩, ⟨3, [59], 0, 7⟩]
theorem exA : Lx.lex sA.data.toList = .ok tA := by decide +kernel
theorem exB : Lx.lex (⟨#[48, 48, 55]⟩ : ByteArray).data.toList = .err 0 := by decide +kernel
theorem exC : Lx.lex (⟨#[49, 48, 57, 57, 53, 49, 49, 54, 50, 55, 55, 55, 54]⟩ : ByteArray).data.toList = .ok [⟨2, [], 1099511627776, 0⟩] := by decide +kernel
theorem exD : Lx.lex (⟨#[97, 32, 47, 47, 32, 98]⟩ : ByteArray).data.toList = .ok [⟨1, [97], 0, 0⟩] := by decide +kernel
theorem exE : Lx.lex (⟨#[97, 32, 36]⟩ : ByteArray).data.toList = .err 2 := by decide +kernel
theorem exF : Lx.lex (⟨#[97, 61, 49]⟩ : ByteArray).data.toList = .ok [⟨1, [97], 0, 0⟩, ⟨3, [61], 0, 1⟩, ⟨2, [], 1, 2⟩] := by decide +kernel
theorem exG : Lx.lex (⟨#[]⟩ : ByteArray).data.toList = .ok [] := by decide +kernel
theorem exT : Lx.text [⟨1, [97], 0, 0⟩, ⟨3, [61], 0, 1⟩, ⟨2, [], 1, 2⟩] = some [97, 32, 61, 32, 49] := by
  have h1 : Lib.decDigits 1 = [49] := by rw [Lib.decDigits_one (by omega)]; rfl
  have h2 : ([⟨1, [97], 0, 0⟩, ⟨3, [61], 0, 1⟩, ⟨2, [], 1, 2⟩] : List Tok).all Lx.valid = true := by decide +kernel
  unfold Lx.text
  rw [if_pos h2]
  show some ([97] ++ 32 :: ([61] ++ 32 :: Lib.decDigits 1)) = _
  rw [h1]; rfl
theorem exZ : Lx.text [⟨0, [], 0, 0⟩] = none := by decide +kernel
theorem exN1 : Lx.isName [66, 95, 49, 50] = true := by decide +kernel
theorem exN2 : Lx.isName [95, 49, 50] = false := by decide +kernel

set_option maxRecDepth 100000 in
set_option maxHeartbeats 4000000 in
theorem lSane (w : World) (he : Env w) : Calls Tryd.prog 14 #[] w fun e w' => e = .returned (.bool true) ∧ Below w.heap.size w w' := by
  have HE := Lib.hid he; clear he
  go_enter Tryd.func14, Tryd.ntmps14
  go_wp2_with fail
  refine (lLexOk ⟨#[101, 97, 114, 110, 32, 51, 48, 59]⟩ tA _ HE.out (show (8 : Nat) ≤ 65536 by omega) exA).mono ?_
  rintro e w1 ⟨A1, c1, rfl, hT1, hb1, he1⟩
  have HT1 := Lib.hid hT1; have HB1 := Lib.hid hb1; have HE1 := Lib.hid he1; clear hT1 hb1 he1
  go_wp2_with fail
  refine (lLexErr ⟨#[48, 48, 55]⟩ 0 _ (HE1.out.next ((Below.refl _ _).alloc (Nat.le_refl _) _)) (show (3 : Nat) ≤ 65536 by omega) exB).mono ?_
  rintro e w2 ⟨rfl, hb2, he2⟩
  have HB2 := Lib.hid hb2; have HE2 := Lib.hid he2; clear hb2 he2
  go_wp2_with fail
  refine (lLexOk ⟨#[49, 48, 57, 57, 53, 49, 49, 54, 50, 55, 55, 55, 54]⟩ _ _ HE2.out (show (13 : Nat) ≤ 65536 by omega) exC).mono ?_
  rintro e w3 ⟨A3, c3, rfl, hT3, hb3, he3⟩
  have HT3 := Lib.hid hT3; have HB3 := Lib.hid hb3; have HE3 := Lib.hid he3; clear hT3 hb3 he3
  go_wp2_with fail
  refine (lLexOk ⟨#[97, 32, 47, 47, 32, 98]⟩ _ _ HE3.out (show (6 : Nat) ≤ 65536 by omega) exD).mono ?_
  rintro e w4 ⟨A4, c4, rfl, hT4, hb4, he4⟩
  have HT4 := Lib.hid hT4; have HB4 := Lib.hid hb4; have HE4 := Lib.hid he4; clear hT4 hb4 he4
  go_wp2_with fail
  refine (lLexErr ⟨#[97, 32, 36]⟩ 2 _ HE4.out (show (3 : Nat) ≤ 65536 by omega) exE).mono ?_
  rintro e w5 ⟨rfl, hb5, he5⟩
  have HB5 := Lib.hid hb5; have HE5 := Lib.hid he5; clear hb5 he5
  go_wp2_with fail
  refine (lLexOk ⟨#[97, 61, 49]⟩ _ _ HE5.out (show (3 : Nat) ≤ 65536 by omega) exF).mono ?_
  rintro e w6 ⟨A6, c6, rfl, hT6, hb6, he6⟩
  have HT6 := Lib.hid hT6; have HB6 := Lib.hid hb6; have HE6 := Lib.hid he6; clear hT6 hb6 he6
  go_wp2_with fail
  refine (lTextOk A6 c6 [⟨1, [97], 0, 0⟩, ⟨3, [61], 0, 1⟩, ⟨2, [], 1, 2⟩] _ _ HE6.out HT6.out (show (3 : Nat) ≤ 65536 by omega) exT).mono ?_
  rintro e w7 ⟨rfl, hb7, he7⟩
  have HB7 := Lib.hid hb7; have HE7 := Lib.hid he7; clear hb7 he7
  go_wp2_with fail
  refine (lLexOk ⟨#[]⟩ _ _ HE7.out (show (0 : Nat) ≤ 65536 by omega) exG).mono ?_
  rintro e w8 ⟨A8, c8, rfl, hT8, hb8, he8⟩
  have HT8 := Lib.hid hT8; have HB8 := Lib.hid hb8; have HE8 := Lib.hid he8; clear hT8 hb8 he8
  go_wp2_with fail
  refine (lTextErr (some ⟨w8.heap.size, 0, none⟩) 1 [⟨0, [], 0, 0⟩] _ (HE8.out.next ((Below.refl _ _).alloc (Nat.le_refl _) _)) (toks_new w8 [⟨0, [], 0, 0⟩] #[.int .i64 0, .string ⟨#[]⟩, .int .i64 0, .int .i64 0] rfl (show (1 : Nat) ≤ 65536 by omega) (by simp)) (show (1 : Nat) ≤ 65536 by omega) exZ).mono ?_
  rintro e w9 ⟨rfl, hb9, he9⟩
  have HB9 := Lib.hid hb9; have HE9 := Lib.hid he9; clear hb9 he9
  -- all that was made stays
  have s8 : w8.heap.size ≤ w9.heap.size := by have := HB9.out.size; simp at this; omega
  have k89 : Below w8.heap.size w8 w9 := ((Below.refl _ _).alloc (Nat.le_refl _) _).trans (HB9.out.mono (by simp))
  have k69 : Below w6.heap.size w6 w9 := HB7.out.trans ((HB8.out.mono HB7.out.size).trans (k89.mono (Nat.le_trans HB7.out.size HB8.out.size)))
  have k49 : Below w4.heap.size w4 w9 := HB5.out.trans ((HB6.out.mono HB5.out.size).trans (k69.mono (Nat.le_trans HB5.out.size HB6.out.size)))
  have k39 : Below w3.heap.size w3 w9 := HB4.out.trans (k49.mono HB4.out.size)
  have hw1 : Below (w1.alloc (.cells #[.int .i64 1, .string ⟨#[101, 97, 114, 110]⟩, .int .i64 0, .int .i64 0, .int .i64 2, .string ⟨#[]⟩, .int .i64 30, .int .i64 5, .int .i64 3, .string ⟨#[59]⟩, .int .i64 0, .int .i64 7] 35)).heap.size
      (w1.alloc (.cells #[.int .i64 1, .string ⟨#[101, 97, 114, 110]⟩, .int .i64 0, .int .i64 0, .int .i64 2, .string ⟨#[]⟩, .int .i64 30, .int .i64 5, .int .i64 3, .string ⟨#[59]⟩, .int .i64 0, .int .i64 7] 35)) w9 :=
    HB2.out.trans ((HB3.out.mono HB2.out.size).trans (k39.mono (Nat.le_trans HB2.out.size HB3.out.size)))
  have tW := (toks_new w1 tA #[.int .i64 1, .string ⟨#[101, 97, 114, 110]⟩, .int .i64 0, .int .i64 0, .int .i64 2, .string ⟨#[]⟩, .int .i64 30, .int .i64 5, .int .i64 3, .string ⟨#[59]⟩, .int .i64 0, .int .i64 7] rfl (show (3 : Nat) ≤ 65536 by omega) (by simp [tA])).below hw1 (Nat.le_refl _) |>.mono hw1.size
  have tT1 := (HT1.out.below (((Below.refl _ _).alloc (Nat.le_refl _) _).trans (hw1.mono (by simp))) (Nat.le_refl _)).mono (Nat.le_trans (by simp) hw1.size)
  have tT3 := (HT3.out.below k39 (Nat.le_refl _)).mono k39.size
  have tT4 := (HT4.out.below k49 (Nat.le_refl _)).mono k49.size
  have tT6 := (HT6.out.below k69 (Nat.le_refl _)).mono k69.size
  have heq := rEqual A1 (some ⟨w1.heap.size, 0, none⟩) c1 3 tA tA w9 tT1 tW
  rw [decide_eq_true (show tA = tA from rfl)] at heq
  have Heq := Lib.hid heq
  obtain ⟨b3, o3, hA3, hb3, _, _, q3, _⟩ := tT3.first
  obtain ⟨b4, o4, hA4, hb4, _, q4, _, _⟩ := tT4.first
  subst hA3 hA4
  have K09 := Lib.hid (HB1.out.trans ((((Below.refl _ _).alloc (Nat.le_refl _) _).trans (hw1.mono (by simp))).mono HB1.out.size) : Below w.heap.size w w9)
  have TT4 := Lib.hid tT4; have TT6 := Lib.hid tT6
  clear tW tT1 tT3 tT4 tT6 heq hw1 k39 k49 k69 k89
  simp at q3 q4
  have hsame1 := fun n => lSame (some ⟨b4, o4, none⟩) A6 c4 c6 [⟨1, [97], 0, 0⟩] [⟨1, [97], 0, 0⟩, ⟨3, [61], 0, 1⟩, ⟨2, [], 1, 2⟩] (w9.drewN n) (TT4.out.drewN n) (TT6.out.drewN n)
  have Hs1 := Lib.hid hsame1; clear hsame1
  have e97 : (Lx.bs [97]).toList = [97] := by rw [ByteArray.toList_eq, Lx.bs_list]
  have e5 : (Lx.bs [97, 32, 61, 32, 49]).toList = [97, 32, 61, 32, 49] := by rw [ByteArray.toList_eq, Lx.bs_list]
  have hn1 := fun W => lName ⟨#[66, 95, 49, 50]⟩ W (show (4 : Nat) ≤ maxLen by unfold maxLen; omega)
  have hn2 := fun W => lName ⟨#[95, 49, 50]⟩ W (show (3 : Nat) ≤ maxLen by unfold maxLen; omega)
  rw [show Lx.isName (⟨#[66, 95, 49, 50]⟩ : ByteArray).data.toList = true from exN1] at hn1
  rw [show Lx.isName (⟨#[95, 49, 50]⟩ : ByteArray).data.toList = false from exN2] at hn2
  have Hn1 := Lib.hid hn1; have Hn2 := Lib.hid hn2; clear hn1 hn2
  go_wp2_with fail
  refine (Heq.out).mono ?_
  rintro e w10 ⟨rfl, n10, rfl⟩
  go_wp2_with fail
  refine (Hn1.out _).mono ?_
  rintro e w11 ⟨rfl, rfl⟩
  go_wp2_with fail
  refine (Hn2.out _).mono ?_
  rintro e w12 ⟨rfl, rfl⟩
  go_wp2_with fail
  refine (Hs1.out _).mono ?_
  rintro e w13 ⟨rfl, hb13⟩
  have HB13 := Lib.hid hb13; clear hb13
  have hsame2 := lSame (some ⟨b4, o4, none⟩) (some ⟨w13.heap.size, 0, none⟩) c4 1 [⟨1, [97], 0, 0⟩] [⟨1, [97], 0, 9⟩] (w13.alloc (.cells #[.int .i64 1, .string ⟨#[97]⟩, .int .i64 0, .int .i64 9] 35))
    (((TT4.out.drewN n10).below HB13.out (Nat.le_refl _)).below ((Below.refl w13.heap.size _).alloc (Nat.le_refl _) _) HB13.out.size |>.mono (Nat.le_trans HB13.out.size (by simp)))
    (toks_new w13 [⟨1, [97], 0, 9⟩] #[.int .i64 1, .string ⟨#[97]⟩, .int .i64 0, .int .i64 9] rfl (show (1 : Nat) ≤ 65536 by omega) (by simp))
  have Hs2 := Lib.hid hsame2; clear hsame2
  have k1 : Lx.same [⟨1, [97], 0, 0⟩] [⟨1, [97], 0, 0⟩, ⟨3, [61], 0, 1⟩, ⟨2, [], 1, 2⟩] = false := by decide +kernel
  have k2 : Lx.same [⟨1, [97], 0, 0⟩] [⟨1, [97], 0, 9⟩] = true := by decide +kernel
  go_wp2_with fail
  refine (Hs2.out).mono ?_
  rintro e w14 ⟨rfl, hb14⟩
  have HB14 := Lib.hid hb14; clear hb14
  go_wp2_with fail
  go_ret
  refine ⟨ret_bool ?_, ?_⟩
  · simp
  · exact (bel_drewN K09.out n10).trans ((HB13.out.mono K09.out.size).trans (((Below.refl _ _).alloc (Nat.le_trans K09.out.size HB13.out.size) _).trans (HB14.out.mono (by have := HB13.out.size; have := K09.out.size; simp at *; omega))))
end Go.Proofs.YtocelmjncjompaaDoor

namespace Go.Proofs.YtocelmjncjompaaDoor.Qy
open Lx

structure Arg where
  var : Bool
  n : Int
  deriving DecidableEq
structure Atom where
  kind : Int
  subj : Arg
  obj : Arg
  val : Arg
  term : Int
  known : Int
  deriving DecidableEq
structure Test where
  op : Int
  a : Arg
  b : Arg
  deriving DecidableEq
structure Query where
  names : List (List UInt8)
  shown : List Int
  atoms : List Atom
  tests : List Test
  deriving DecidableEq

/-- The words of the kinds: course, same, programme, system, grade, hold, rule, seat, clash, load, group, numbers. -/
def kindWords : List (List UInt8) := [[99, 111, 117, 114, 115, 101], [115, 97, 109, 101], [112, 114, 111, 103, 114, 97, 109, 109, 101], [115, 121, 115, 116, 101, 109], [103, 114, 97, 100, 101], [104, 111, 108, 100], [114, 117, 108, 101], [115, 101, 97, 116], [99, 108, 97, 115, 104], [108, 111, 97, 100], [103, 114, 111, 117, 112], [110, 117, 109, 98, 101, 114, 115]]
def kindOf (t : List UInt8) : Nat := match kindWords.findIdx? (· == t) with | some i => i + 1 | none => 0
def wShow : List UInt8 := [115, 104, 111, 119]
def wWhere : List UInt8 := [119, 104, 101, 114, 101]
def wAt : List UInt8 := [97, 116]
def wKnown : List UInt8 := [107, 110, 111, 119, 110]

/-- The parser: the tokens that are left, the names so far, the query so far. -/
structure St where
  toks : List Tok
  names : List (List UInt8)
  shown : List Int
  atoms : List Atom
  tests : List Test
  deriving DecidableEq
inductive R (α : Type) where
  | ok (a : α) (s : St)
  | bad (pos : Int) (e : Int)
  deriving DecidableEq
def R.bind {α β : Type} (r : R α) (f : α → St → R β) : R β := match r with | .ok a s => f a s | .bad p e => .bad p e

section
variable (last : Int)
def fail {α : Type} (s : St) (e : Int) : R α := .bad (match s.toks with | t :: _ => t.pos | [] => last) e
def skip (kind : Int) (text : List UInt8) (s : St) : Bool × St := match s.toks with
  | t :: r => if t.kind = kind ∧ t.text = text then (true, { s with toks := r }) else (false, s)
  | [] => (false, s)
def need (kind : Int) (text : List UInt8) (s : St) : R Unit := match skip kind text s with
  | (true, s') => .ok () s'
  | (false, s') => fail last s' 500
def word (text : List UInt8) (s : St) : R Unit := need last 1 text s
def signT (c : UInt8) (s : St) : R Unit := need last 3 [c] s
def number (most : Int) (s : St) : R Int := match s.toks with
  | t :: r => if t.kind = 2 ∧ t.n ≤ most then .ok t.n { s with toks := r } else fail last s 500
  | [] => fail last s 500
def kind (s : St) : Nat × St := match s.toks with
  | t :: r => if t.kind = 1 ∧ kindOf t.text ≠ 0 then (kindOf t.text, { s with toks := r }) else (0, s)
  | [] => (0, s)
def variable_ (fresh : Bool) (s : St) : R Int := match s.toks with
  | t :: r => if t.kind = 1 ∧ kindOf t.text = 0 then
      match s.names.findIdx? (· == t.text) with
      | some i => if fresh then fail last s 500 else .ok i { s with toks := r }
      | none => if s.names.length = 8 then fail last s 2 else .ok s.names.length { s with toks := r, names := s.names ++ [t.text] }
    else fail last s 500
  | [] => fail last s 500
def argument (s : St) : R Arg := match s.toks with
  | t :: _ => if t.kind = 2 then (number last 1099511627776 s).bind fun n s => .ok ⟨false, n⟩ s
    else (variable_ last false s).bind fun n s => .ok ⟨true, n⟩ s
  | [] => (variable_ last false s).bind fun n s => .ok ⟨true, n⟩ s
def atom (k : Int) (s : St) : R Unit :=
  (signT last 40 s).bind fun _ s => (argument last s).bind fun x s => (signT last 44 s).bind fun _ s => (argument last s).bind fun y s =>
  (signT last 41 s).bind fun _ s => (signT last 61 s).bind fun _ s => (argument last s).bind fun z s => (word last wAt s).bind fun _ s =>
  (number last 1023 s).bind fun t s => (word last wKnown s).bind fun _ s => (number last 16777216 s).bind fun kn s =>
  .ok () { s with atoms := s.atoms ++ [⟨k, x, y, z, t, kn⟩] }
def oper (s : St) : R Int := match skip 3 [60] s with
  | (true, s) => match skip 3 [61] s with
    | (true, s) => .ok (-1) s
    | (false, s) => .ok (-2) s
  | (false, s) => match skip 3 [33] s with
    | (true, s) => (signT last 61 s).bind fun _ s => .ok 1 s
    | (false, s) => (signT last 61 s).bind fun _ s => .ok 0 s
def test (s : St) : R Unit :=
  (argument last s).bind fun x s => (oper last s).bind fun o s => (argument last s).bind fun y s =>
  .ok () { s with tests := s.tests ++ [⟨o, x, y⟩] }
def showOne (s : St) : R Unit := (variable_ last true s).bind fun n s => .ok () { s with shown := s.shown ++ [n] }
def shows : Nat → St → R Unit
  | 0, s => .ok () s
  | f + 1, s => match skip 3 [44] s with
    | (true, s) => (showOne last s).bind fun _ s => shows f s
    | (false, s) => .ok () s
def cond (s : St) : R Unit := match kind s with
  | (0, s) => test last s
  | (k, s) => atom last k s
def conds : Nat → St → R Unit
  | 0, s => .ok () s
  | f + 1, s => (cond last s).bind fun _ s => match skip 3 [44] s with
    | (true, s') => if s.atoms.length + s.tests.length = 16 then fail last s 2 else conds f s'
    | (false, s) => .ok () s
def parseT (s : St) : R Unit :=
  (word last wShow s).bind fun _ s => (showOne last s).bind fun _ s => (shows last s.toks.length s).bind fun _ s => (word last wWhere s).bind fun _ s =>
  (conds last (s.toks.length + 1) s).bind fun _ s => (signT last 59 s).bind fun _ s => match s.toks with | [] => .ok () s | _ :: _ => fail last s 500
end

/-- Renumbering of variables, in order: what is shown, the atoms, the tests. -/
structure Ix where
  met : List Int
def ix (m : List Int) (n : Int) : Int × List Int := match m.findIdx? (· == n) with | some i => (i, m) | none => (m.length, m ++ [n])
def ixList : List Int → List Int → List Int × List Int
  | m, [] => ([], m)
  | m, n :: r => let (i, m) := ix m n; let (l, m) := ixList m r; (i :: l, m)
def ixArg (m : List Int) (a : Arg) : Arg × List Int := if a.var then let (i, m) := ix m a.n; (⟨true, i⟩, m) else (a, m)
def ixAtoms : List Int → List Atom → List Atom × List Int
  | m, [] => ([], m)
  | m, x :: r => let (a, m) := ixArg m x.subj; let (b, m) := ixArg m x.obj; let (c, m) := ixArg m x.val; let (l, m) := ixAtoms m r; (⟨x.kind, a, b, c, x.term, x.known⟩ :: l, m)
def ixTests : List Int → List Test → List Test × List Int
  | m, [] => ([], m)
  | m, x :: r => let (a, m) := ixArg m x.a; let (b, m) := ixArg m x.b; let (l, m) := ixTests m r; (⟨x.op, a, b⟩ :: l, m)
def renumber (s : St) : Query :=
  let (sh, m) := ixList [] s.shown
  let (at_, m) := ixAtoms m s.atoms
  let (te, m) := ixTests m s.tests
  ⟨m.map fun i => s.names.getD i.toNat [], sh, at_, te⟩
inductive Out where
  | ok (q : Query)
  | bad (pos : Int) (e : Int)
  deriving DecidableEq
def parseToks (l : List Tok) (last : Int) : Out := match parseT last ⟨l, [], [], [], []⟩ with | .ok _ s => .ok (renumber s) | .bad p e => .bad p e
def parse (src : List UInt8) : Out := if 65536 < src.length then .bad 0 2 else match lex src with | .err p => .bad p 90 | .ok l => parseToks l src.length

/-- The variables of a query, in order. -/
def Arg.vars (a : Arg) : List Int := if a.var then [a.n] else []
def Query.args (q : Query) : List Arg := (q.atoms.flatMap fun x => [x.subj, x.obj, x.val]) ++ (q.tests.flatMap fun x => [x.a, x.b])
def Query.vars (q : Query) : List Int := q.shown ++ q.args.flatMap Arg.vars
/-- Each variable is one that was met, or the next one. -/
def order (top : Int) : Int → List Int → Option Int
  | next, [] => some next
  | next, n :: r => if n < 0 ∨ next < n ∨ top ≤ n then none else order top (if n = next then next + 1 else next) r
def valid (q : Query) : Bool :=
  decide (q.names.length ≤ 8) && decide (1 ≤ q.shown.length) && decide (q.shown.length ≤ 8) && decide (1 ≤ q.atoms.length + q.tests.length) && decide (q.atoms.length + q.tests.length ≤ 16) &&
  q.names.all (fun n => isName n && kindOf n == 0) && decide q.names.Nodup && decide q.shown.Nodup &&
  q.atoms.all (fun x => decide (1 ≤ x.kind) && decide (x.kind ≤ 12) && decide (0 ≤ x.term) && decide (x.term ≤ 1023) && decide (0 ≤ x.known) && decide (x.known ≤ 16777216)) &&
  q.tests.all (fun x => decide (-2 ≤ x.op) && decide (x.op ≤ 1)) &&
  q.args.all (fun a => a.var || decide (0 ≤ a.n) && decide (a.n ≤ 1099511627776)) &&
  decide (order q.names.length 0 q.vars = some (q.names.length : Int))

/-- The tokens of a query. -/
def nameT (t : List UInt8) : Tok := ⟨1, t, 0, 0⟩
def numT (n : Int) : Tok := ⟨2, [], n, 0⟩
def sgT (c : UInt8) : Tok := ⟨3, [c], 0, 0⟩
def argT (ns : List (List UInt8)) (a : Arg) : Tok := if a.var then nameT (ns.getD a.n.toNat []) else numT a.n
def kindT (k : Int) : Tok := nameT (kindWords.getD (k - 1).toNat [])
def atomT (ns : List (List UInt8)) (x : Atom) : List Tok :=
  [kindT x.kind, sgT 40, argT ns x.subj, sgT 44, argT ns x.obj, sgT 41, sgT 61, argT ns x.val, nameT wAt, numT x.term, nameT wKnown, numT x.known]
def operT (o : Int) : List Tok := if o = -2 then [sgT 60] else if o = -1 then [sgT 60, sgT 61] else if o = 0 then [sgT 61] else [sgT 33, sgT 61]
def testT (ns : List (List UInt8)) (x : Test) : List Tok := argT ns x.a :: operT x.op ++ [argT ns x.b]
def sepT : List (List Tok) → List Tok
  | [] => []
  | [x] => x
  | x :: y :: r => x ++ sgT 44 :: sepT (y :: r)
def toksT (q : Query) : List Tok := nameT wShow :: sepT (q.shown.map fun n => [nameT (q.names.getD n.toNat [])]) ++ nameT wWhere :: sepT (q.atoms.map (atomT q.names) ++ q.tests.map (testT q.names)) ++ [sgT 59]
def print (q : Query) : Option (List UInt8) := if valid q then text (toksT q) else none
end Go.Proofs.YtocelmjncjompaaDoor.Qy

namespace Go.Proofs.YtocelmjncjompaaDoor
open Go.RowKit

/-- A slice's address, below block B, from which on the elements of l lie, each of so many cells. -/
structure Lies (w : World) (B : Nat) (A : Option Addr) (sz : Nat) (l : List (List Value)) : Prop where
  at_ : ∀ k cs, l[k]? = some cs → ∃ b o, A = some ⟨b, o, none⟩ ∧ b < B ∧ ∀ j v, cs[j]? = some v → w.cell? ⟨b, o + k * sz + j, none⟩ = some v
  len : l.length ≤ 140737488351232
theorem Lies.below {w w' : World} {B B' : Nat} {A : Option Addr} {sz : Nat} {l : List (List Value)} (h : Lies w B A sz l) (hb : Below B' w w') (hB : B ≤ B') : Lies w' B A sz l :=
  ⟨fun k cs hk => by
    obtain ⟨b, o, e, hlt, hc⟩ := h.at_ k cs hk
    exact ⟨b, o, e, hlt, fun j v hj => (hb.cell (p := ⟨b, o + k * sz + j, none⟩) (show b < B' by omega)).trans (hc j v hj)⟩, h.len⟩
theorem Lies.mono {w : World} {B B' : Nat} {A : Option Addr} {sz : Nat} {l : List (List Value)} (h : Lies w B A sz l) (hB : B ≤ B') : Lies w B' A sz l :=
  ⟨fun k cs hk => by
    obtain ⟨b, o, e, hlt, hc⟩ := h.at_ k cs hk
    exact ⟨b, o, e, by omega, hc⟩, h.len⟩
theorem Lies.drewN {w : World} {B : Nat} {A : Option Addr} {sz : Nat} {l : List (List Value)} (h : Lies w B A sz l) (n : Nat) : Lies (w.drewN n) B A sz l := ⟨fun k cs hk => h.at_ k cs hk, h.len⟩
theorem Lies.nil (w : World) (B : Nat) (A : Option Addr) (sz : Nat) : Lies w B A sz [] := ⟨fun k cs h => by simp at h, by simp⟩

def strC (x : List UInt8) : List Value := [.string (Lx.bs x)]
def intC (n : Int) : List Value := [.int .i64 n]
def argC (a : Qy.Arg) : List Value := [.bool a.var, .int .i64 a.n]
def atomC (x : Qy.Atom) : List Value := .int .i64 x.kind :: (argC x.subj ++ argC x.obj ++ argC x.val ++ [.int .i64 x.term, .int .i64 x.known])
def testC (x : Qy.Test) : List Value := .int .i64 x.op :: (argC x.a ++ argC x.b)

/-- A query as a value: four slices. -/
structure QAt (w : World) (B : Nat) (v : Value) (q : Qy.Query) : Prop where
  form : ∃ A0 c0 A1 c1 A2 c2 A3 c3, v = .agg #[.slice A0 q.names.length c0, .slice A1 q.shown.length c1, .slice A2 q.atoms.length c2, .slice A3 q.tests.length c3] ∧
    Lies w B A0 1 (q.names.map strC) ∧ Lies w B A1 1 (q.shown.map intC) ∧ Lies w B A2 9 (q.atoms.map atomC) ∧ Lies w B A3 5 (q.tests.map testC)
  texts : ∀ n ∈ q.names, n.length ≤ 140737488351232

theorem lIn (n a b : Int) (w : World) : Calls Tryd.prog 57 #[.int .i64 n, .int .i64 a, .int .i64 b] w fun e w' => e = .returned (.bool (decide (a ≤ n) && decide (n ≤ b))) ∧ w = w' := by
  by_cases h : a ≤ n
  · go_enter Tryd.func57, Tryd.ntmps57
    go_wp2
    go_ret
    exact ⟨ret_bool (by simp [h]), rfl⟩
  · go_enter Tryd.func57, Tryd.ntmps57
    go_wp2
    go_ret
    exact ⟨ret_bool (by simp; omega), rfl⟩
theorem lConditions (A0 A1 A2 A3 : Option Addr) (n0 n1 n2 n3 c0 c1 c2 c3 : Nat) (w : World) (h2 : n2 ≤ 140737488351232) (h3 : n3 ≤ 140737488351232) :
    Calls Tryd.prog 58 #[.agg #[.slice A0 n0 c0, .slice A1 n1 c1, .slice A2 n2 c2, .slice A3 n3 c3]] w fun e w' => e = .returned (.int .i64 ((n2 + n3 : Nat) : Int)) ∧ Below w.heap.size w w' := by
  go_enter Tryd.func58, Tryd.ntmps58
  go_wp2
  go_ret
  exact ⟨ret_int (by omega), (Below.refl _ _).alloc (Nat.le_refl _) _⟩

/-- Few, as the reference counts (its sum may wrap). -/
def Qy.sumN (l : List (List UInt8)) : Int := l.foldl (fun n t => wrap64 (n + (t.length : Int))) 0
def Qy.few (q : Qy.Query) : Bool := decide ((q.names.length : Int) ≤ 20) && decide (Qy.sumN q.names ≤ 1000) && decide ((q.shown.length : Int) ≤ 20) && decide ((q.atoms.length : Int) ≤ 20) && decide ((q.tests.length : Int) ≤ 20)
theorem Qy.sumN_snoc (l : List (List UInt8)) (k : Nat) (t : List UInt8) (h : l[k]? = some t) : Qy.sumN (l.take (k + 1)) = wrap64 (Qy.sumN (l.take k) + (t.length : Int)) := by
  unfold Qy.sumN
  rw [List.take_add_one, h]
  simp [List.foldl_append]

set_option maxHeartbeats 1000000 in
theorem rQFew (v : Value) (q : Qy.Query) (w : World) (h : QAt w w.heap.size v q) : Calls Tryd.prog 28 #[v] w fun e w' => e = .returned (.bool (Qy.few q)) ∧ Below w.heap.size w w' := by
  obtain ⟨⟨A0, c0, A1, c1, A2, c2, A3, c3, rfl, h0, h1, h2, h3⟩, htx⟩ := h
  have z0 := h0.len; have z1 := h1.len; have z2 := h2.len; have z3 := h3.len
  rw [List.length_map] at z0 z1 z2 z3
  clear h1 h2 h3
  obtain ⟨n0, hn0⟩ : ∃ n0, n0 = q.names.length := ⟨_, rfl⟩
  obtain ⟨n1, hn1⟩ : ∃ n1, n1 = q.shown.length := ⟨_, rfl⟩
  obtain ⟨n2, hn2⟩ : ∃ n2, n2 = q.atoms.length := ⟨_, rfl⟩
  obtain ⟨n3, hn3⟩ : ∃ n3, n3 = q.tests.length := ⟨_, rfl⟩
  have hfew : Qy.few q = (decide ((n0 : Int) ≤ 20) && decide (Qy.sumN q.names ≤ 1000) && decide ((n1 : Int) ≤ 20) && decide ((n2 : Int) ≤ 20) && decide ((n3 : Int) ≤ 20)) := by
    rw [hn0, hn1, hn2, hn3]; rfl
  rw [← hn0] at z0 ⊢
  rw [← hn1] at z1 ⊢
  rw [← hn2] at z2 ⊢
  rw [← hn3] at z3 ⊢
  have Hn0 := Lib.hid hn0; have Hf := Lib.hid hfew
  clear hn0 hn1 hn2 hn3 hfew
  go_enter Tryd.func28, Tryd.ntmps28
  go_wp2
  go_loop [3, 4] (fun n i => ∃ k : Nat, k ≤ n0 ∧ i = .int .i64 k ∧ n = .int .i64 (Qy.sumN (q.names.take k))) (fun _ i => n0 - (intOf i).toNat)
  case atStart => exact ⟨0, by omega, rfl, rfl⟩
  case round =>
    obtain ⟨k, hk, rfl, rfl⟩ := hrel
    by_cases hlt : k < n0
    · obtain ⟨t, ht⟩ : ∃ t, q.names[k]? = some t := ⟨_, List.getElem?_eq_getElem (by have := Hn0.out; omega)⟩
      have htl := htx t (List.mem_of_getElem? ht)
      obtain ⟨b, o, rfl, hb, hc⟩ := h0.at_ k (strC t) (by rw [List.getElem?_map, ht]; rfl)
      have hc1 := hc 0 _ rfl
      rw [Nat.mul_one, Nat.add_zero] at hc1
      have hc2 := (cell_alloc_old w (.cells #[.slice (some ⟨b, o, none⟩) n0 c0, .slice A1 n1 c1, .slice A2 n2 c2, .slice A3 n3 c3] 46) b (o + k) hb).trans hc1
      have hls := Lx.bs_size t
      have Hs := Lib.hid (Qy.sumN_snoc q.names k t ht)
      clear hc hc1 ht h0
      obtain ⟨F, hF⟩ : ∃ F, F = Qy.sumN (q.names.take k) := ⟨_, rfl⟩
      rw [← hF] at Hs ⊢
      clear hF
      go_wp2
      go_round
      case rel => exact ⟨k + 1, by omega, by go_num, by rw [Hs.out]⟩
      case measure => simp [intOf]; omega
    · obtain rfl : k = n0 := by omega
      have e : q.names.take k = q.names := List.take_of_length_le (by rw [← Hn0.out]; exact Nat.le_refl _)
      rw [e]
      obtain ⟨F, hF⟩ : ∃ F, F = Qy.sumN q.names := ⟨_, rfl⟩
      rw [← hF] at Hf ⊢
      clear hF
      by_cases e0 : (k : Int) ≤ 20
      · by_cases e1 : F ≤ 1000
        · by_cases e2 : (n1 : Int) ≤ 20
          · by_cases e3 : (n2 : Int) ≤ 20
            all_goals
              go_wp2
              go_ret
              exact ⟨ret_bool (by rw [Hf.out]; simp [*] <;> omega), (Below.refl _ _).alloc (Nat.le_refl _) _⟩
          · go_wp2
            go_ret
            exact ⟨ret_bool (by rw [Hf.out]; simp [*] <;> omega), (Below.refl _ _).alloc (Nat.le_refl _) _⟩
        · go_wp2
          go_ret
          exact ⟨ret_bool (by rw [Hf.out]; simp [*] <;> omega), (Below.refl _ _).alloc (Nat.le_refl _) _⟩
      · go_wp2
        go_ret
        exact ⟨ret_bool (by rw [Hf.out]; simp [*] <;> omega), (Below.refl _ _).alloc (Nat.le_refl _) _⟩
end Go.Proofs.YtocelmjncjompaaDoor

namespace Go.Proofs.YtocelmjncjompaaDoor
open Go.RowKit

def atomV (x : Qy.Atom) : Value := .agg #[.int .i64 x.kind, .bool x.subj.var, .int .i64 x.subj.n, .bool x.obj.var, .int .i64 x.obj.n, .bool x.val.var, .int .i64 x.val.n, .int .i64 x.term, .int .i64 x.known]
def testV (x : Qy.Test) : Value := .agg #[.int .i64 x.op, .bool x.a.var, .int .i64 x.a.n, .bool x.b.var, .int .i64 x.b.n]
theorem eqBool (d : Nat) (w : World) (x y : Bool) : (Op.equalIn (d + 1) 4 (.bool x) (.bool y)).run Tryd.prog w = .ok (x == y) w := run_equalIn_bool w d 4 x y Tryd.underlying4
theorem eqInt (d : Nat) (w : World) (x y : Int) : (Op.equalIn (d + 1) 3 (.int .i64 x) (.int .i64 y)).run Tryd.prog w = .ok (x == y) w := run_equalIn_int w d 3 .i64 .i64 x y Tryd.underlying3
theorem eqArg (d : Nat) (a b : Qy.Arg) (w : World) : (Op.equalIn (d + 1 + 1) 73 (.agg #[.bool a.var, .int .i64 a.n]) (.agg #[.bool b.var, .int .i64 b.n])).run Tryd.prog w = .ok (a.var == b.var && a.n == b.n) w := by
  rw [run_equalIn_struct w (d + 1) 73 _ _ (by kernel_rfl) (by kernel_rfl)]
  have p0 : ∀ (w : World) (x : Bool) (n : Int), (part 4 #[.bool x, .int .i64 n] 0).run Tryd.prog w = .ok (.bool x) w := fun _ _ _ => by kernel_rfl
  have p1 : ∀ (w : World) (x : Bool) (n : Int), (part 3 #[.bool x, .int .i64 n] 1).run Tryd.prog w = .ok (.int .i64 n) w := fun _ _ _ => by kernel_rfl
  simp only [Program.fieldsOf, Tryd.underlying73]
  cases h1 : a.var == b.var <;> cases h2 : a.n == b.n <;> simp [Op.eqFields, p0, p1, eqBool, eqInt, h1, h2]
theorem eqAtom (x y : Qy.Atom) (w : World) : (Op.equal 76 (atomV x) (atomV y)).run Tryd.prog w = .ok (decide (x = y)) w := by
  have e : decide (x = y) = (x.kind == y.kind && ((x.subj.var == y.subj.var && x.subj.n == y.subj.n) && ((x.obj.var == y.obj.var && x.obj.n == y.obj.n) && ((x.val.var == y.val.var && x.val.n == y.val.n) && (x.term == y.term && x.known == y.known))))) := by
    obtain ⟨a, ⟨b, c⟩, ⟨d, e⟩, ⟨f, g⟩, i, j⟩ := x
    obtain ⟨a', ⟨b', c'⟩, ⟨d', e'⟩, ⟨f', g'⟩, i', j'⟩ := y
    rw [Bool.eq_iff_iff]
    simp only [decide_eq_true_eq, Qy.Atom.mk.injEq, Qy.Arg.mk.injEq, Bool.and_eq_true, beq_iff_eq]
  rw [e]
  show (Op.equalIn (9997 + 1 + 1 + 1) 76 (atomV x) (atomV y)).run Tryd.prog w = _
  unfold atomV
  rw [run_equalIn_struct w (9997 + 1 + 1) 76 _ _ (by kernel_rfl) (by kernel_rfl)]
  have p0 : ∀ (w : World) (z : Qy.Atom), (part 3 #[.int .i64 z.kind, .bool z.subj.var, .int .i64 z.subj.n, .bool z.obj.var, .int .i64 z.obj.n, .bool z.val.var, .int .i64 z.val.n, .int .i64 z.term, .int .i64 z.known] 0).run Tryd.prog w = .ok (.int .i64 z.kind) w := fun _ _ => by kernel_rfl
  have p1 : ∀ (w : World) (z : Qy.Atom), (part 73 #[.int .i64 z.kind, .bool z.subj.var, .int .i64 z.subj.n, .bool z.obj.var, .int .i64 z.obj.n, .bool z.val.var, .int .i64 z.val.n, .int .i64 z.term, .int .i64 z.known] 1).run Tryd.prog w = .ok (.agg #[.bool z.subj.var, .int .i64 z.subj.n]) w := fun _ _ => by kernel_rfl
  have p3 : ∀ (w : World) (z : Qy.Atom), (part 73 #[.int .i64 z.kind, .bool z.subj.var, .int .i64 z.subj.n, .bool z.obj.var, .int .i64 z.obj.n, .bool z.val.var, .int .i64 z.val.n, .int .i64 z.term, .int .i64 z.known] 3).run Tryd.prog w = .ok (.agg #[.bool z.obj.var, .int .i64 z.obj.n]) w := fun _ _ => by kernel_rfl
  have p5 : ∀ (w : World) (z : Qy.Atom), (part 73 #[.int .i64 z.kind, .bool z.subj.var, .int .i64 z.subj.n, .bool z.obj.var, .int .i64 z.obj.n, .bool z.val.var, .int .i64 z.val.n, .int .i64 z.term, .int .i64 z.known] 5).run Tryd.prog w = .ok (.agg #[.bool z.val.var, .int .i64 z.val.n]) w := fun _ _ => by kernel_rfl
  have p7 : ∀ (w : World) (z : Qy.Atom), (part 3 #[.int .i64 z.kind, .bool z.subj.var, .int .i64 z.subj.n, .bool z.obj.var, .int .i64 z.obj.n, .bool z.val.var, .int .i64 z.val.n, .int .i64 z.term, .int .i64 z.known] 7).run Tryd.prog w = .ok (.int .i64 z.term) w := fun _ _ => by kernel_rfl
  have p8 : ∀ (w : World) (z : Qy.Atom), (part 3 #[.int .i64 z.kind, .bool z.subj.var, .int .i64 z.subj.n, .bool z.obj.var, .int .i64 z.obj.n, .bool z.val.var, .int .i64 z.val.n, .int .i64 z.term, .int .i64 z.known] 8).run Tryd.prog w = .ok (.int .i64 z.known) w := fun _ _ => by kernel_rfl
  simp only [Program.fieldsOf, Tryd.underlying76]
  cases h1 : x.kind == y.kind
  · simp [Op.eqFields, p0, eqInt, h1]
  cases h2 : (x.subj.var == y.subj.var && x.subj.n == y.subj.n)
  · simp only [Op.eqFields, Sem.run_bind, Sem.run_ite, p0, p1, eqInt, eqArg, h1, h2, Result.andThen_ok]; simp
  cases h3 : (x.obj.var == y.obj.var && x.obj.n == y.obj.n)
  · simp only [Op.eqFields, Sem.run_bind, Sem.run_ite, p0, p1, p3, eqInt, eqArg, h1, h2, h3, Result.andThen_ok]; simp
  cases h4 : (x.val.var == y.val.var && x.val.n == y.val.n)
  · simp only [Op.eqFields, Sem.run_bind, Sem.run_ite, p0, p1, p3, p5, eqInt, eqArg, h1, h2, h3, h4, Result.andThen_ok]; simp
  cases h5 : x.term == y.term
  · simp only [Op.eqFields, Sem.run_bind, Sem.run_ite, p0, p1, p3, p5, p7, eqInt, eqArg, h1, h2, h3, h4, h5, Result.andThen_ok]; simp
  cases h6 : x.known == y.known
  · simp only [Op.eqFields, Sem.run_bind, Sem.run_ite, p0, p1, p3, p5, p7, p8, eqInt, eqArg, h1, h2, h3, h4, h5, h6, Result.andThen_ok]; simp
  · simp only [Op.eqFields, Sem.run_bind, Sem.run_ite, p0, p1, p3, p5, p7, p8, eqInt, eqArg, h1, h2, h3, h4, h5, h6, Result.andThen_ok]; simp
theorem eqTest (x y : Qy.Test) (w : World) : (Op.equal 78 (testV x) (testV y)).run Tryd.prog w = .ok (decide (x = y)) w := by
  have e : decide (x = y) = (x.op == y.op && ((x.a.var == y.a.var && x.a.n == y.a.n) && (x.b.var == y.b.var && x.b.n == y.b.n))) := by
    obtain ⟨a, ⟨b, c⟩, ⟨d, e⟩⟩ := x
    obtain ⟨a', ⟨b', c'⟩, ⟨d', e'⟩⟩ := y
    rw [Bool.eq_iff_iff]
    simp only [decide_eq_true_eq, Qy.Test.mk.injEq, Qy.Arg.mk.injEq, Bool.and_eq_true, beq_iff_eq]
  rw [e]
  show (Op.equalIn (9997 + 1 + 1 + 1) 78 (testV x) (testV y)).run Tryd.prog w = _
  unfold testV
  rw [run_equalIn_struct w (9997 + 1 + 1) 78 _ _ (by kernel_rfl) (by kernel_rfl)]
  have p0 : ∀ (w : World) (z : Qy.Test), (part 3 #[.int .i64 z.op, .bool z.a.var, .int .i64 z.a.n, .bool z.b.var, .int .i64 z.b.n] 0).run Tryd.prog w = .ok (.int .i64 z.op) w := fun _ _ => by kernel_rfl
  have p1 : ∀ (w : World) (z : Qy.Test), (part 73 #[.int .i64 z.op, .bool z.a.var, .int .i64 z.a.n, .bool z.b.var, .int .i64 z.b.n] 1).run Tryd.prog w = .ok (.agg #[.bool z.a.var, .int .i64 z.a.n]) w := fun _ _ => by kernel_rfl
  have p3 : ∀ (w : World) (z : Qy.Test), (part 73 #[.int .i64 z.op, .bool z.a.var, .int .i64 z.a.n, .bool z.b.var, .int .i64 z.b.n] 3).run Tryd.prog w = .ok (.agg #[.bool z.b.var, .int .i64 z.b.n]) w := fun _ _ => by kernel_rfl
  simp only [Program.fieldsOf, Tryd.underlying78]
  cases h1 : x.op == y.op
  · simp [Op.eqFields, p0, eqInt, h1]
  cases h2 : (x.a.var == y.a.var && x.a.n == y.a.n)
  · simp only [Op.eqFields, Sem.run_bind, Sem.run_ite, p0, p1, eqInt, eqArg, h1, h2, Result.andThen_ok]; simp
  cases h3 : (x.b.var == y.b.var && x.b.n == y.b.n)
  · simp only [Op.eqFields, Sem.run_bind, Sem.run_ite, p0, p1, p3, eqInt, eqArg, h1, h2, h3, Result.andThen_ok]; simp
  · simp only [Op.eqFields, Sem.run_bind, Sem.run_ite, p0, p1, p3, eqInt, eqArg, h1, h2, h3, Result.andThen_ok]; simp
theorem neqAtom (x y : Qy.Atom) (w : World) : (binOp .neq 76 (atomV x) (atomV y)).run Tryd.prog w = .ok (.bool (!decide (x = y))) w := by
  have h := eqAtom x y w
  unfold atomV at h ⊢
  simp only [binOp]
  simp [h]
theorem neqTest (x y : Qy.Test) (w : World) : (binOp .neq 78 (testV x) (testV y)).run Tryd.prog w = .ok (.bool (!decide (x = y))) w := by
  have h := eqTest x y w
  unfold testV at h ⊢
  simp only [binOp]
  simp [h]
end Go.Proofs.YtocelmjncjompaaDoor
