/- Walks: sane of the laws on lex. -/
import Derived.Test.YtocelmjncjompaaDoorLxL
namespace Go.Proofs.YtocelmjncjompaaDoor
open Go.RowKit
open Lx (Tok)

theorem lLexOk (s : ByteArray) (l : List Tok) (w : World) (he : Env w) (hs : s.size ≤ 65536) (hl : Lx.lex s.data.toList = .ok l) :
    Calls Tryd.prog 15 #[.string s] w fun e w' => ∃ A c, e = .returned (.tuple #[.slice A l.length c, .int .i64 0, .int .i64 0]) ∧ Toks w' w'.heap.size A l ∧ Below w.heap.size w w' ∧ Env w' := by
  refine (lLexShort s w he hs).mono fun e w' ⟨hb, h⟩ => ?_
  rw [if_neg (by rw [Lx.ba_len]; omega), hl] at h
  obtain ⟨A, c, h1, h2⟩ := h
  exact ⟨A, c, h1, h2, hb, he.next hb⟩
theorem lLexErr (s : ByteArray) (p : Nat) (w : World) (he : Env w) (hs : s.size ≤ 65536) (hl : Lx.lex s.data.toList = .err p) :
    Calls Tryd.prog 15 #[.string s] w fun e w' => e = .returned (.tuple #[.slice none 0 0, .int .i64 p, .int .i64 90]) ∧ Below w.heap.size w w' ∧ Env w' := by
  refine (lLexShort s w he hs).mono fun e w' ⟨hb, h⟩ => ?_
  rw [if_neg (by rw [Lx.ba_len]; omega), hl] at h
  exact ⟨h, hb, he.next hb⟩
theorem lTextOk (A : Option Addr) (c : Nat) (l : List Tok) (s : List UInt8) (w : World) (he : Env w) (h : Toks w w.heap.size A l) (hl : l.length ≤ 65536) (ht : Lx.text l = some s) :
    Calls Tryd.prog 19 #[.slice A l.length c] w fun e w' => e = .returned (.tuple #[.string (Lx.bs s), .int .i64 0]) ∧ Below w.heap.size w w' ∧ Env w' := by
  refine (lText A c l w he h hl).mono fun e w' ⟨hb, h⟩ => ?_
  rw [ht] at h
  exact ⟨h, hb, he.next hb⟩
theorem lTextErr (A : Option Addr) (c : Nat) (l : List Tok) (w : World) (he : Env w) (h : Toks w w.heap.size A l) (hl : l.length ≤ 65536) (ht : Lx.text l = none) :
    Calls Tryd.prog 19 #[.slice A l.length c] w fun e w' => e = .returned (.tuple #[.string ⟨#[]⟩, .int .i64 90]) ∧ Below w.heap.size w w' ∧ Env w' := by
  refine (lText A c l w he h hl).mono fun e w' ⟨hb, h⟩ => ?_
  rw [ht] at h
  exact ⟨h, hb, he.next hb⟩

theorem toks_new (w : World) (l : List Tok) (cs : Array Value) (h : cs.toList = l.flatMap Tok.cells) (hl : l.length ≤ 65536) (ht : ∀ t ∈ l, t.text.length ≤ 65536) :
    Toks (w.alloc (.cells cs 35)) (w.alloc (.cells cs 35)).heap.size (some ⟨w.heap.size, 0, none⟩) l := by
  refine ⟨fun k t hk => ?_, by omega, fun t h => by have := ht t h; omega⟩
  have hb := Blk.new w 35 cs
  have hcell := fun (j : Nat) (hj : j < 4) => (hb.cell (k * 4 + j)).trans (show cs[k * 4 + j]? = t.cells[j]? by rw [← Array.getElem?_toList, h]; exact flat_at l k t j hk hj)
  refine ⟨w.heap.size, 0, rfl, by simp, ?_, ?_, ?_, ?_⟩
  · have := hcell 0 (by omega); simp [Tok.cells] at this ⊢; exact this
  · have := hcell 1 (by omega); simp [Tok.cells, Lx.bs] at this ⊢; exact this
  · have := hcell 2 (by omega); simp [Tok.cells] at this ⊢; exact this
  · have := hcell 3 (by omega); simp [Tok.cells] at this ⊢; exact this
theorem Toks.first {w : World} {B : Nat} {A : Option Addr} {t : Tok} {l : List Tok} (h : Toks w B A (t :: l)) : ∃ b o, A = some ⟨b, o, none⟩ ∧ b < B ∧ w.cell? ⟨b, o, none⟩ = some (.int .i64 t.kind) ∧ w.cell? ⟨b, o + 1, none⟩ = some (.string (Lx.bs t.text)) ∧ w.cell? ⟨b, o + 2, none⟩ = some (.int .i64 t.n) ∧ w.cell? ⟨b, o + 3, none⟩ = some (.int .i64 t.pos) := by
  obtain ⟨b, o, h1, h2, h3⟩ := h.at_ 0 t rfl
  exact ⟨b, o, h1, h2, by simpa using h3.kind, by simpa using h3.text, by simpa using h3.n, by simpa using h3.pos⟩

def sA : ByteArray := ⟨#[101, 97, 114, 110, 32, 51, 48, 59]⟩
def tA : List Tok := [⟨1, [101, 97, 114, 110], 0, 0⟩, ⟨2, [], 30, 5⟩, ⟨3, [59], 0, 7⟩]
theorem exA : Lx.lex sA.data.toList = .ok tA := by decide +kernel
theorem exB : Lx.lex (⟨#[48, 48, 55]⟩ : ByteArray).data.toList = .err 0 := by decide +kernel
theorem exC : Lx.lex (⟨#[49, 48, 57, 57, 53, 49, 49, 54, 50, 55, 55, 55, 54]⟩ : ByteArray).data.toList = .ok [⟨2, [], 1099511627776, 0⟩] := by decide +kernel
theorem exD : Lx.lex (⟨#[97, 32, 47, 47, 32, 98]⟩ : ByteArray).data.toList = .ok [⟨1, [97], 0, 0⟩] := by decide +kernel
theorem exE : Lx.lex (⟨#[97, 32, 36]⟩ : ByteArray).data.toList = .err 2 := by decide +kernel
theorem exF : Lx.lex (⟨#[97, 61, 49]⟩ : ByteArray).data.toList = .ok [⟨1, [97], 0, 0⟩, ⟨3, [61], 0, 1⟩, ⟨2, [], 1, 2⟩] := by decide +kernel
theorem exG : Lx.lex (⟨#[]⟩ : ByteArray).data.toList = .ok [] := by decide +kernel
theorem exT : Lx.text [⟨1, [97], 0, 0⟩, ⟨3, [61], 0, 1⟩, ⟨2, [], 1, 2⟩] = some [97, 32, 61, 32, 49] := by
  have h1 : Lib.decDigits 1 = [49] := by rw [Lib.decDigits_one (by omega)]; rfl
  have h2 : ([⟨1, [97], 0, 0⟩, ⟨3, [61], 0, 1⟩, ⟨2, [], 1, 2⟩] : List Tok).all Lx.valid = true := by decide +kernel
  unfold Lx.text
  rw [if_pos h2]
  show some ([97] ++ 32 :: ([61] ++ 32 :: Lib.decDigits 1)) = _
  rw [h1]; rfl
theorem exZ : Lx.text [⟨0, [], 0, 0⟩] = none := by decide +kernel
theorem exN1 : Lx.isName [66, 95, 49, 50] = true := by decide +kernel
theorem exN2 : Lx.isName [95, 49, 50] = false := by decide +kernel

set_option maxRecDepth 100000 in
set_option maxHeartbeats 4000000 in
theorem lSane (w : World) (he : Env w) : Calls Tryd.prog 14 #[] w fun e w' => e = .returned (.bool true) ∧ Below w.heap.size w w' := by
  have HE := Lib.hid he; clear he
  go_enter Tryd.func14, Tryd.ntmps14
  go_wp2_with fail
  refine (lLexOk ⟨#[101, 97, 114, 110, 32, 51, 48, 59]⟩ tA _ HE.out (show (8 : Nat) ≤ 65536 by omega) exA).mono ?_
  rintro e w1 ⟨A1, c1, rfl, hT1, hb1, he1⟩
  have HT1 := Lib.hid hT1; have HB1 := Lib.hid hb1; have HE1 := Lib.hid he1; clear hT1 hb1 he1
  go_wp2_with fail
  refine (lLexErr ⟨#[48, 48, 55]⟩ 0 _ (HE1.out.next ((Below.refl _ _).alloc (Nat.le_refl _) _)) (show (3 : Nat) ≤ 65536 by omega) exB).mono ?_
  rintro e w2 ⟨rfl, hb2, he2⟩
  have HB2 := Lib.hid hb2; have HE2 := Lib.hid he2; clear hb2 he2
  go_wp2_with fail
  refine (lLexOk ⟨#[49, 48, 57, 57, 53, 49, 49, 54, 50, 55, 55, 55, 54]⟩ _ _ HE2.out (show (13 : Nat) ≤ 65536 by omega) exC).mono ?_
  rintro e w3 ⟨A3, c3, rfl, hT3, hb3, he3⟩
  have HT3 := Lib.hid hT3; have HB3 := Lib.hid hb3; have HE3 := Lib.hid he3; clear hT3 hb3 he3
  go_wp2_with fail
  refine (lLexOk ⟨#[97, 32, 47, 47, 32, 98]⟩ _ _ HE3.out (show (6 : Nat) ≤ 65536 by omega) exD).mono ?_
  rintro e w4 ⟨A4, c4, rfl, hT4, hb4, he4⟩
  have HT4 := Lib.hid hT4; have HB4 := Lib.hid hb4; have HE4 := Lib.hid he4; clear hT4 hb4 he4
  go_wp2_with fail
  refine (lLexErr ⟨#[97, 32, 36]⟩ 2 _ HE4.out (show (3 : Nat) ≤ 65536 by omega) exE).mono ?_
  rintro e w5 ⟨rfl, hb5, he5⟩
  have HB5 := Lib.hid hb5; have HE5 := Lib.hid he5; clear hb5 he5
  go_wp2_with fail
  refine (lLexOk ⟨#[97, 61, 49]⟩ _ _ HE5.out (show (3 : Nat) ≤ 65536 by omega) exF).mono ?_
  rintro e w6 ⟨A6, c6, rfl, hT6, hb6, he6⟩
  have HT6 := Lib.hid hT6; have HB6 := Lib.hid hb6; have HE6 := Lib.hid he6; clear hT6 hb6 he6
  go_wp2_with fail
  refine (lTextOk A6 c6 [⟨1, [97], 0, 0⟩, ⟨3, [61], 0, 1⟩, ⟨2, [], 1, 2⟩] _ _ HE6.out HT6.out (show (3 : Nat) ≤ 65536 by omega) exT).mono ?_
  rintro e w7 ⟨rfl, hb7, he7⟩
  have HB7 := Lib.hid hb7; have HE7 := Lib.hid he7; clear hb7 he7
  go_wp2_with fail
  refine (lLexOk ⟨#[]⟩ _ _ HE7.out (show (0 : Nat) ≤ 65536 by omega) exG).mono ?_
  rintro e w8 ⟨A8, c8, rfl, hT8, hb8, he8⟩
  have HT8 := Lib.hid hT8; have HB8 := Lib.hid hb8; have HE8 := Lib.hid he8; clear hT8 hb8 he8
  go_wp2_with fail
  refine (lTextErr (some ⟨w8.heap.size, 0, none⟩) 1 [⟨0, [], 0, 0⟩] _ (HE8.out.next ((Below.refl _ _).alloc (Nat.le_refl _) _)) (toks_new w8 [⟨0, [], 0, 0⟩] #[.int .i64 0, .string ⟨#[]⟩, .int .i64 0, .int .i64 0] rfl (show (1 : Nat) ≤ 65536 by omega) (by simp)) (show (1 : Nat) ≤ 65536 by omega) exZ).mono ?_
  rintro e w9 ⟨rfl, hb9, he9⟩
  have HB9 := Lib.hid hb9; have HE9 := Lib.hid he9; clear hb9 he9
  -- all that was made stays
  have s8 : w8.heap.size ≤ w9.heap.size := by have := HB9.out.size; simp at this; omega
  have k89 : Below w8.heap.size w8 w9 := ((Below.refl _ _).alloc (Nat.le_refl _) _).trans (HB9.out.mono (by simp))
  have k69 : Below w6.heap.size w6 w9 := HB7.out.trans ((HB8.out.mono HB7.out.size).trans (k89.mono (Nat.le_trans HB7.out.size HB8.out.size)))
  have k49 : Below w4.heap.size w4 w9 := HB5.out.trans ((HB6.out.mono HB5.out.size).trans (k69.mono (Nat.le_trans HB5.out.size HB6.out.size)))
  have k39 : Below w3.heap.size w3 w9 := HB4.out.trans (k49.mono HB4.out.size)
  have hw1 : Below (w1.alloc (.cells #[.int .i64 1, .string ⟨#[101, 97, 114, 110]⟩, .int .i64 0, .int .i64 0, .int .i64 2, .string ⟨#[]⟩, .int .i64 30, .int .i64 5, .int .i64 3, .string ⟨#[59]⟩, .int .i64 0, .int .i64 7] 35)).heap.size
      (w1.alloc (.cells #[.int .i64 1, .string ⟨#[101, 97, 114, 110]⟩, .int .i64 0, .int .i64 0, .int .i64 2, .string ⟨#[]⟩, .int .i64 30, .int .i64 5, .int .i64 3, .string ⟨#[59]⟩, .int .i64 0, .int .i64 7] 35)) w9 :=
    HB2.out.trans ((HB3.out.mono HB2.out.size).trans (k39.mono (Nat.le_trans HB2.out.size HB3.out.size)))
  have tW := (toks_new w1 tA #[.int .i64 1, .string ⟨#[101, 97, 114, 110]⟩, .int .i64 0, .int .i64 0, .int .i64 2, .string ⟨#[]⟩, .int .i64 30, .int .i64 5, .int .i64 3, .string ⟨#[59]⟩, .int .i64 0, .int .i64 7] rfl (show (3 : Nat) ≤ 65536 by omega) (by simp [tA])).below hw1 (Nat.le_refl _) |>.mono hw1.size
  have tT1 := (HT1.out.below (((Below.refl _ _).alloc (Nat.le_refl _) _).trans (hw1.mono (by simp))) (Nat.le_refl _)).mono (Nat.le_trans (by simp) hw1.size)
  have tT3 := (HT3.out.below k39 (Nat.le_refl _)).mono k39.size
  have tT4 := (HT4.out.below k49 (Nat.le_refl _)).mono k49.size
  have tT6 := (HT6.out.below k69 (Nat.le_refl _)).mono k69.size
  have heq := rEqual A1 (some ⟨w1.heap.size, 0, none⟩) c1 3 tA tA w9 tT1 tW
  rw [decide_eq_true (show tA = tA from rfl)] at heq
  have Heq := Lib.hid heq
  obtain ⟨b3, o3, hA3, hb3, _, _, q3, _⟩ := tT3.first
  obtain ⟨b4, o4, hA4, hb4, _, q4, _, _⟩ := tT4.first
  subst hA3 hA4
  have K09 := Lib.hid (HB1.out.trans ((((Below.refl _ _).alloc (Nat.le_refl _) _).trans (hw1.mono (by simp))).mono HB1.out.size) : Below w.heap.size w w9)
  have TT4 := Lib.hid tT4; have TT6 := Lib.hid tT6
  clear tW tT1 tT3 tT4 tT6 heq hw1 k39 k49 k69 k89
  simp at q3 q4
  have hsame1 := fun n => lSame (some ⟨b4, o4, none⟩) A6 c4 c6 [⟨1, [97], 0, 0⟩] [⟨1, [97], 0, 0⟩, ⟨3, [61], 0, 1⟩, ⟨2, [], 1, 2⟩] (w9.drewN n) (TT4.out.drewN n) (TT6.out.drewN n)
  have Hs1 := Lib.hid hsame1; clear hsame1
  have e97 : (Lx.bs [97]).toList = [97] := by rw [ByteArray.toList_eq, Lx.bs_list]
  have e5 : (Lx.bs [97, 32, 61, 32, 49]).toList = [97, 32, 61, 32, 49] := by rw [ByteArray.toList_eq, Lx.bs_list]
  have hn1 := fun W => lName ⟨#[66, 95, 49, 50]⟩ W (show (4 : Nat) ≤ maxLen by unfold maxLen; omega)
  have hn2 := fun W => lName ⟨#[95, 49, 50]⟩ W (show (3 : Nat) ≤ maxLen by unfold maxLen; omega)
  rw [show Lx.isName (⟨#[66, 95, 49, 50]⟩ : ByteArray).data.toList = true from exN1] at hn1
  rw [show Lx.isName (⟨#[95, 49, 50]⟩ : ByteArray).data.toList = false from exN2] at hn2
  have Hn1 := Lib.hid hn1; have Hn2 := Lib.hid hn2; clear hn1 hn2
  go_wp2_with fail
  refine (Heq.out).mono ?_
  rintro e w10 ⟨rfl, n10, rfl⟩
  go_wp2_with fail
  refine (Hn1.out _).mono ?_
  rintro e w11 ⟨rfl, rfl⟩
  go_wp2_with fail
  refine (Hn2.out _).mono ?_
  rintro e w12 ⟨rfl, rfl⟩
  go_wp2_with fail
  refine (Hs1.out _).mono ?_
  rintro e w13 ⟨rfl, hb13⟩
  have HB13 := Lib.hid hb13; clear hb13
  have hsame2 := lSame (some ⟨b4, o4, none⟩) (some ⟨w13.heap.size, 0, none⟩) c4 1 [⟨1, [97], 0, 0⟩] [⟨1, [97], 0, 9⟩] (w13.alloc (.cells #[.int .i64 1, .string ⟨#[97]⟩, .int .i64 0, .int .i64 9] 35))
    (((TT4.out.drewN n10).below HB13.out (Nat.le_refl _)).below ((Below.refl w13.heap.size _).alloc (Nat.le_refl _) _) HB13.out.size |>.mono (Nat.le_trans HB13.out.size (by simp)))
    (toks_new w13 [⟨1, [97], 0, 9⟩] #[.int .i64 1, .string ⟨#[97]⟩, .int .i64 0, .int .i64 9] rfl (show (1 : Nat) ≤ 65536 by omega) (by simp))
  have Hs2 := Lib.hid hsame2; clear hsame2
  have k1 : Lx.same [⟨1, [97], 0, 0⟩] [⟨1, [97], 0, 0⟩, ⟨3, [61], 0, 1⟩, ⟨2, [], 1, 2⟩] = false := by decide +kernel
  have k2 : Lx.same [⟨1, [97], 0, 0⟩] [⟨1, [97], 0, 9⟩] = true := by decide +kernel
  go_wp2_with fail
  refine (Hs2.out).mono ?_
  rintro e w14 ⟨rfl, hb14⟩
  have HB14 := Lib.hid hb14; clear hb14
  go_wp2_with fail
  go_ret
  refine ⟨ret_bool ?_, ?_⟩
  · simp
  · exact (bel_drewN K09.out n10).trans ((HB13.out.mono K09.out.size).trans (((Below.refl _ _).alloc (Nat.le_trans K09.out.size HB13.out.size) _).trans (HB14.out.mono (by have := HB13.out.size; have := K09.out.size; simp at *; omega))))
end Go.Proofs.YtocelmjncjompaaDoor
