/- Parts of the proof, joined into one text: LxB, LxC, LxMem, LxD. -/
import Derived.Test.YtocelmjncjompaaDoorZLxPlain
import Derived.BigQuiet
import Derived.Deep.QuietTactic

namespace Go.Proofs.YtocelmjncjompaaDoor
open Go.RowKit

set_option maxHeartbeats 400000 in
theorem rSign (c : UInt8) (w : World) :
    Calls Tryd.prog 45 #[.int .u8 c.toNat] w fun e w' => e = .returned (.bool (Lx.sign c)) ∧ w = w' := by
  go_enter Tryd.func45, Tryd.ntmps45
  go_wp2
  go_loop [4] (fun i => ∃ k : Nat, k ≤ 13 ∧ i = .int .i64 k ∧ (Lx.signs.take k).contains c = false) (fun i => 13 - (intOf i).toNat)
  case atStart => exact ⟨0, by omega, rfl, rfl⟩
  case round =>
    obtain ⟨k, hk, rfl, hh⟩ := hrel
    have Hh := Lib.hid hh; clear hh
    by_cases hlt : k < 13
    · go_wp2
      · go_ret
        exact ⟨ret_bool (Lx.sign_hit k c (by exact hlt) (by assumption)).symm, rfl⟩
      · go_round
        case rel => exact ⟨k + 1, by omega, by go_num, Lx.sign_miss k c (by exact hlt) Hh.out (by assumption)⟩
        case measure => simp [intOf]; omega
    · go_wp2
      go_ret
      obtain rfl : k = 13 := by omega
      exact ⟨ret_bool Hh.out.symm, rfl⟩
set_option maxHeartbeats 400000 in
theorem lClass (c : UInt8) (w : World) :
    Calls Tryd.prog 40 #[.int .u8 c.toNat] w fun e w' => e = .returned (.int .i64 (Lx.cls c)) ∧ w = w' := by
  go_enter Tryd.func40, Tryd.ntmps40
  go_wp2_with (go_at_call 72; refine (cIndexByte _ _ _).mono ?_; rintro e w' ⟨rfl, rfl⟩)
  all_goals (go_ret; refine ⟨ret_int ?_, rfl⟩; rw [Lx.cls_eq]; (try simp only [beq_iff_eq, beq_eq_false_iff_ne] at *); (repeat' split) <;> first | rfl | omega)
set_option maxHeartbeats 400000 in
theorem rName (s : ByteArray) (w : World) (hs : s.size ≤ maxLen) :
    Calls Tryd.prog 24 #[.string s] w fun e w' => e = .returned (.bool (Lx.isName s.data.toList)) ∧ w = w' := by
  unfold maxLen at hs
  by_cases h0 : s.size < 1
  · go_enter Tryd.func24, Tryd.ntmps24
    go_wp2_with fail
    go_ret
    exact ⟨ret_bool (Lx.isName_none s (by omega)).symm, rfl⟩
  have h0' : 0 < s.size := by omega
  clear h0
  by_cases h1 : 32 < s.size
  · go_enter Tryd.func24, Tryd.ntmps24
    go_wp2_with fail
    go_ret
    exact ⟨ret_bool (Lx.isName_long s (by omega)).symm, rfl⟩
  have h1' : s.size ≤ 32 := by omega
  clear h1
  cases hl : Lx.letter s[0]
  · go_enter Tryd.func24, Tryd.ntmps24
    go_wp2_with (go_at_call 41; refine (rLetter _ _).mono ?_; rintro e w' ⟨rfl, rfl⟩)
    go_ret
    exact ⟨ret_bool (Lx.isName_head s (by assumption) hl).symm, rfl⟩
  · go_enter Tryd.func24, Tryd.ntmps24
    go_wp2_with (go_at_call 41; refine (rLetter _ _).mono ?_; rintro e w' ⟨rfl, rfl⟩)
    have Hl := Lib.hid hl; clear hl
    go_loop [3] (fun i => ∃ k : Nat, k ≤ s.size ∧ i = .int .i64 k ∧ (s.data.toList.take k).all Lx.part = true) (fun i => s.size - (intOf i).toNat)
    case atStart => exact ⟨0, by omega, rfl, rfl⟩
    case round =>
      obtain ⟨k, hk, rfl, hh⟩ := hrel
      have Hh := Lib.hid hh; clear hh
      by_cases hlt : k < s.size
      · cases hp : Lx.part s[k]
        · go_wp2_with (go_at_call 42; refine (rPart _ _).mono ?_; rintro e w' ⟨rfl, rfl⟩)
          go_ret
          exact ⟨ret_bool (Lx.isName_bad s k hlt hp).symm, rfl⟩
        · go_wp2_with (go_at_call 42; refine (rPart _ _).mono ?_; rintro e w' ⟨rfl, rfl⟩)
          go_round
          case rel => exact ⟨k + 1, by omega, by go_num, Lx.all_step s k hlt Hh.out hp⟩
          case measure => simp [intOf]; omega
      · go_wp2_with fail
        go_ret
        obtain rfl : k = s.size := by omega
        exact ⟨ret_bool (Lx.isName_ok s h0' h1' Hl.out (Lx.all_end s Hh.out)).symm, rfl⟩
set_option maxHeartbeats 400000 in
theorem lName (s : ByteArray) (w : World) (hs : s.size ≤ maxLen) :
    Calls Tryd.prog 23 #[.string s] w fun e w' => e = .returned (.bool (Lx.isName s.data.toList)) ∧ w = w' := by
  unfold maxLen at hs
  by_cases h0 : s.size < 1
  · have h0e : s.toList.isEmpty = true := by rw [List.isEmpty_iff]; exact List.eq_nil_of_length_eq_zero (by rw [ByteArray.toList_eq, Lx.ba_len]; omega)
    go_enter Tryd.func23, Tryd.ntmps23
    go_wp2_with fail
    go_ret
    exact ⟨ret_bool (Lx.isName_none s (by omega)).symm, rfl⟩
  have h0' : 0 < s.size := by omega
  clear h0
  have h0f : ¬ s.toList = [] := fun h => by
    have h2 : s.data.toList.length = 0 := by rw [← ByteArray.toList_eq, h]; rfl
    rw [Lx.ba_len] at h2; omega
  have h0e : s.toList.isEmpty = false := by rw [List.isEmpty_eq_false_iff]; exact h0f
  by_cases h1 : 32 < s.size
  · go_enter Tryd.func23, Tryd.ntmps23
    go_wp2_with fail
    go_ret
    exact ⟨ret_bool (Lx.isName_long s (by omega)).symm, rfl⟩
  have h1' : s.size ≤ 32 := by omega
  have h1d : decide ((32 : Int) < (s.size : Int)) = false := decide_eq_false (by omega)
  clear h1
  cases hl : Lx.letter s[0]
  · have hq : (Lx.cls s[0] != 2) = true := by rw [Lx.letter_cls] at hl; simpa using hl
    go_enter Tryd.func23, Tryd.ntmps23
    go_wp2_with (go_at_call 40; refine (lClass _ _).mono ?_; rintro e w' ⟨rfl, rfl⟩)
    go_ret
    exact ⟨ret_bool (Lx.isName_head s (by assumption) hl).symm, rfl⟩
  · have hq : (Lx.cls s[0] != 2) = false := by rw [Lx.letter_cls] at hl; simpa using hl
    have Hl := Lib.hid hl; clear hl
    go_enter Tryd.func23, Tryd.ntmps23
    go_wp2_with (go_at_call 40; refine (lClass _ _).mono ?_; rintro e w' ⟨rfl, rfl⟩)
    go_loop [20] (fun i => ∃ k : Nat, k ≤ s.size ∧ i = .int .i64 k ∧ (s.data.toList.take k).all Lx.part = true) (fun i => s.size - (intOf i).toNat)
    case atStart => exact ⟨0, by omega, rfl, rfl⟩
    case round =>
      obtain ⟨k, hk, rfl, hh⟩ := hrel
      have Hh := Lib.hid hh; clear hh
      by_cases hlt : k < s.size
      · cases hp : Lx.part s[k]
        · have hp' := hp
          rw [Lx.part_cls] at hp'
          have q2 : (Lx.cls s[k] != 2) = true := by simp at hp' ⊢; exact hp'.1.1
          have q3 : (Lx.cls s[k] != 3) = true := by simp at hp' ⊢; exact hp'.1.2
          have q5 : (Lx.cls s[k] != 5) = true := by simp at hp' ⊢; exact hp'.2
          clear hp'
          have Hp := Lib.hid hp; clear hp
          go_wp2_with (go_at_call 40; refine (lClass _ _).mono ?_; rintro e w' ⟨rfl, rfl⟩)
          go_ret
          exact ⟨ret_bool (Lx.isName_bad s k hlt Hp.out).symm, rfl⟩
        · have Hp := Lib.hid hp
          rw [Lx.part_cls] at hp
          by_cases c2 : (Lx.cls s[k] != 2) = true
          · by_cases c3 : (Lx.cls s[k] != 3) = true
            · have c5 : (Lx.cls s[k] != 5) = false := by simp at hp c2 c3 ⊢; omega
              clear hp
              go_wp2_with (go_at_call 40; refine (lClass _ _).mono ?_; rintro e w' ⟨rfl, rfl⟩)
              go_round
              case rel => exact ⟨k + 1, by omega, by go_num, Lx.all_step s k hlt Hh.out Hp.out⟩
              case measure => simp [intOf]; omega
            · have c3' : (Lx.cls s[k] != 3) = false := by simpa using c3
              clear hp c3
              go_wp2_with (go_at_call 40; refine (lClass _ _).mono ?_; rintro e w' ⟨rfl, rfl⟩)
              go_round
              case rel => exact ⟨k + 1, by omega, by go_num, Lx.all_step s k hlt Hh.out Hp.out⟩
              case measure => simp [intOf]; omega
          · have c2' : (Lx.cls s[k] != 2) = false := by simpa using c2
            clear hp c2
            go_wp2_with (go_at_call 40; refine (lClass _ _).mono ?_; rintro e w' ⟨rfl, rfl⟩)
            go_round
            case rel => exact ⟨k + 1, by omega, by go_num, Lx.all_step s k hlt Hh.out Hp.out⟩
            case measure => simp [intOf]; omega
      · go_wp2_with fail
        go_ret
        obtain rfl : k = s.size := by omega
        exact ⟨ret_bool (Lx.isName_ok s h0' h1' Hl.out (Lx.all_end s Hh.out)).symm, rfl⟩
end Go.Proofs.YtocelmjncjompaaDoor

namespace Go.Proofs.YtocelmjncjompaaDoor
open Go.RowKit

theorem Lx.one_of (s : ByteArray) (h : s.size = 1) : s.data.toList = [s[0]] := by
  have h1 := Lx.ba_len s
  have h0 := Lx.ba_get s 0 (by omega)
  match hs : s.data.toList, h1 with
  | [c], _ => rw [← h0]; simp [hs]
  | [], h1 => simp at h1; omega
  | _ :: _ :: _, h1 => simp at h1; omega
theorem Lx.sign_cls (c : UInt8) (h : Lx.cls c = 4) : Lx.sign c = true := by
  unfold Lx.cls at h
  repeat' (split at h)
  all_goals first | assumption | (exfalso; omega)
theorem Lx.sign_not : ∀ c ∈ Lx.signs, Lx.cls c = 4 := by decide
theorem Lx.cls_sign (c : UInt8) : decide (Lx.cls c = 4) = Lx.sign c := by
  cases hs : Lx.sign c
  · exact decide_eq_false fun h => by rw [Lx.sign_cls c h] at hs; cases hs
  · exact decide_eq_true (Lx.sign_not c (by simpa [Lx.sign] using hs))

theorem Lx.valid_one (s : ByteArray) (n p : Int) : Lx.valid ⟨1, s.data.toList, n, p⟩ = (Lx.isName s.data.toList && (n == 0)) := rfl
theorem Lx.valid_two (s : ByteArray) (n p : Int) : Lx.valid ⟨2, s.data.toList, n, p⟩ = (s.data.toList.isEmpty && decide (0 ≤ n) && decide (n ≤ 1099511627776)) := rfl
theorem Lx.valid_three (s : ByteArray) (n p : Int) (h : s.size = 1) : Lx.valid ⟨3, s.data.toList, n, p⟩ = (Lx.sign s[0] && (n == 0)) := by
  rw [Lx.one_of s h]; rfl
theorem Lx.valid_three' (s : ByteArray) (n p : Int) (h : s.size ≠ 1) : Lx.valid ⟨3, s.data.toList, n, p⟩ = false := by
  have h1 := Lx.ba_len s
  match hs : s.data.toList, h1 with
  | [c], h1 => simp at h1; omega
  | [], h1 => rfl
  | _ :: _ :: _, h1 => rfl
theorem Lx.valid_other (k : Int) (s : List UInt8) (n p : Int) (h1 : k ≠ 1) (h2 : k ≠ 2) (h3 : k ≠ 3) : Lx.valid ⟨k, s, n, p⟩ = false := by
  simp [Lx.valid, h1, h2, h3]

set_option maxHeartbeats 800000 in
theorem lValid (k n p : Int) (s : ByteArray) (w : World) (hs : s.size ≤ maxLen) :
    Calls Tryd.prog 46 #[.agg #[.int .i64 k, .string s, .int .i64 n, .int .i64 p]] w fun e w' => e = .returned (.bool (Lx.valid ⟨k, s.data.toList, n, p⟩)) ∧ Below w.heap.size w w' := by
  by_cases k1 : k = 1
  · subst k1
    rw [Lx.valid_one]
    cases hn : Lx.isName s.data.toList
    all_goals
      go_enter Tryd.func46, Tryd.ntmps46
      go_wp2_with (go_at_call 23; refine (lName _ _ hs).mono ?_; rintro e w' ⟨rfl, rfl⟩)
      go_ret
      exact ⟨ret_bool (by simp), (Below.refl _ _).alloc (Nat.le_refl _) _⟩
  by_cases k2 : k = 2
  · subst k2
    rw [Lx.valid_two, ← ByteArray.toList_eq]
    cases hn : s.toList.isEmpty
    · go_enter Tryd.func46, Tryd.ntmps46
      go_wp2_with fail
      go_ret
      exact ⟨ret_bool (by simp), (Below.refl _ _).alloc (Nat.le_refl _) _⟩
    · have hn' : s.toList = [] := by simpa using hn
      by_cases n0 : 0 ≤ n
      all_goals
        go_enter Tryd.func46, Tryd.ntmps46
        go_wp2_with fail
        go_ret
        exact ⟨ret_bool (by simp <;> omega), (Below.refl _ _).alloc (Nat.le_refl _) _⟩
  by_cases k3 : k = 3
  · subst k3
    by_cases h1 : s.size = 1
    · rw [Lx.valid_three s n p h1, ← Lx.cls_sign]
      have h1' : (s.size : Int) = 1 := by omega
      have h0 : 0 < s.size := by omega
      by_cases hc : Lx.cls s[0] = 4
      all_goals
        go_enter Tryd.func46, Tryd.ntmps46
        go_wp2_with (go_at_call 40; refine (lClass _ _).mono ?_; rintro e w' ⟨rfl, rfl⟩)
        go_ret
        exact ⟨ret_bool (by simp [hc]), (Below.refl _ _).alloc (Nat.le_refl _) _⟩
    · rw [Lx.valid_three' s n p h1]
      have h1' : ((s.size : Int) == 1) = false := beq_eq_false_iff_ne.2 (by omega)
      go_enter Tryd.func46, Tryd.ntmps46
      go_wp2_with fail
      go_ret
      exact ⟨ret_bool (by simp), (Below.refl _ _).alloc (Nat.le_refl _) _⟩
  rw [Lx.valid_other k _ n p k1 k2 k3]
  have k1' : (k == 1) = false := beq_eq_false_iff_ne.2 k1
  have k2' : (k == 2) = false := beq_eq_false_iff_ne.2 k2
  have k3' : (k == 3) = false := beq_eq_false_iff_ne.2 k3
  go_enter Tryd.func46, Tryd.ntmps46
  go_wp2_with fail
  go_ret
  exact ⟨rfl, (Below.refl _ _).alloc (Nat.le_refl _) _⟩
set_option maxHeartbeats 800000 in
theorem rValid (k n p : Int) (s : ByteArray) (w : World) (hs : s.size ≤ maxLen) :
    Calls Tryd.prog 49 #[.agg #[.int .i64 k, .string s, .int .i64 n, .int .i64 p]] w fun e w' => e = .returned (.bool (Lx.valid ⟨k, s.data.toList, n, p⟩)) ∧ Below w.heap.size w w' := by
  by_cases k1 : k = 1
  · subst k1
    rw [Lx.valid_one]
    cases hn : Lx.isName s.data.toList
    all_goals
      go_enter Tryd.func49, Tryd.ntmps49
      go_wp2_with (go_at_call 24; refine (rName _ _ hs).mono ?_; rintro e w' ⟨rfl, rfl⟩)
      go_ret
      exact ⟨ret_bool (by simp), (Below.refl _ _).alloc (Nat.le_refl _) _⟩
  by_cases k2 : k = 2
  · subst k2
    rw [Lx.valid_two, ← ByteArray.toList_eq]
    cases hn : s.toList.isEmpty
    · go_enter Tryd.func49, Tryd.ntmps49
      go_wp2_with fail
      go_ret
      exact ⟨ret_bool (by simp), (Below.refl _ _).alloc (Nat.le_refl _) _⟩
    · have hn' : s.toList = [] := by simpa using hn
      by_cases n0 : 0 ≤ n
      all_goals
        go_enter Tryd.func49, Tryd.ntmps49
        go_wp2_with fail
        go_ret
        exact ⟨ret_bool (by simp <;> omega), (Below.refl _ _).alloc (Nat.le_refl _) _⟩
  by_cases k3 : k = 3
  · subst k3
    by_cases h1 : s.size = 1
    · rw [Lx.valid_three s n p h1]
      have h1' : (s.size : Int) = 1 := by omega
      have h0 : 0 < s.size := by omega
      cases hc : Lx.sign s[0]
      all_goals
        go_enter Tryd.func49, Tryd.ntmps49
        go_wp2_with (go_at_call 45; refine (rSign _ _).mono ?_; rintro e w' ⟨rfl, rfl⟩)
        go_ret
        exact ⟨ret_bool (by simp), (Below.refl _ _).alloc (Nat.le_refl _) _⟩
    · rw [Lx.valid_three' s n p h1]
      have h1' : ((s.size : Int) == 1) = false := beq_eq_false_iff_ne.2 (by omega)
      go_enter Tryd.func49, Tryd.ntmps49
      go_wp2_with fail
      go_ret
      exact ⟨ret_bool (by simp), (Below.refl _ _).alloc (Nat.le_refl _) _⟩
  rw [Lx.valid_other k _ n p k1 k2 k3]
  have k1' : (k == 1) = false := beq_eq_false_iff_ne.2 k1
  have k2' : (k == 2) = false := beq_eq_false_iff_ne.2 k2
  have k3' : (k == 3) = false := beq_eq_false_iff_ne.2 k3
  go_enter Tryd.func49, Tryd.ntmps49
  go_wp2_with fail
  go_ret
  exact ⟨rfl, (Below.refl _ _).alloc (Nat.le_refl _) _⟩
end Go.Proofs.YtocelmjncjompaaDoor

namespace Go.Proofs.YtocelmjncjompaaDoor
open Go.RowKit
open Lx (Tok)

/-- Byte strings as the model has them. -/
def Lx.bs (l : List UInt8) : ByteArray := ⟨l.toArray⟩
theorem Lx.bs_size (l : List UInt8) : (Lx.bs l).size = l.length := by rw [← Lx.ba_len]; simp [Lx.bs]
theorem Lx.bs_list (l : List UInt8) : (Lx.bs l).data.toList = l := by simp [Lx.bs]
theorem Lx.bs_of (s : ByteArray) : Lx.bs s.data.toList = s := by cases s; simp [Lx.bs]
theorem Lx.bs_of' {s : ByteArray} {l : List UInt8} (h : s.data.toList = l) : s = Lx.bs l := by rw [← h, Lx.bs_of]

/-- Cell b, o and the three behind it hold a token. -/
structure TokAt (w : World) (b o : Nat) (t : Tok) : Prop where
  kind : w.cell? ⟨b, o, none⟩ = some (.int .i64 t.kind)
  text : w.cell? ⟨b, o + 1, none⟩ = some (.string (Lx.bs t.text))
  n : w.cell? ⟨b, o + 2, none⟩ = some (.int .i64 t.n)
  pos : w.cell? ⟨b, o + 3, none⟩ = some (.int .i64 t.pos)

/-- A slice's address, below block B, from which on the tokens of l lie. -/
structure Toks (w : World) (B : Nat) (A : Option Addr) (l : List Tok) : Prop where
  at_ : ∀ k t, l[k]? = some t → ∃ b o, A = some ⟨b, o, none⟩ ∧ b < B ∧ TokAt w b (o + k * 4) t
  len : l.length ≤ 3518437208883
  texts : ∀ t ∈ l, t.text.length ≤ 140737488351232

theorem TokAt.cells {w w' : World} {b o : Nat} {t : Tok} (h : TokAt w b o t) (hc : ∀ i, w'.cell? ⟨b, i, none⟩ = w.cell? ⟨b, i, none⟩) : TokAt w' b o t :=
  ⟨(hc _).trans h.kind, (hc _).trans h.text, (hc _).trans h.n, (hc _).trans h.pos⟩
theorem Toks.below {w w' : World} {B B' : Nat} {A : Option Addr} {l : List Tok} (h : Toks w B A l) (hb : Below B' w w') (hB : B ≤ B') : Toks w' B A l :=
  ⟨fun k t ht => by
    obtain ⟨b, o, e, hlt, h4⟩ := h.at_ k t ht
    exact ⟨b, o, e, hlt, h4.cells fun i => hb.cell (p := ⟨b, i, none⟩) (show b < B' by omega)⟩, h.len, h.texts⟩
theorem Toks.mono {w : World} {B B' : Nat} {A : Option Addr} {l : List Tok} (h : Toks w B A l) (hB : B ≤ B') : Toks w B' A l :=
  ⟨fun k t ht => by
    obtain ⟨b, o, e, hlt, h4⟩ := h.at_ k t ht
    exact ⟨b, o, e, by omega, h4⟩, h.len, h.texts⟩
theorem Toks.drewN {w : World} {B : Nat} {A : Option Addr} {l : List Tok} (h : Toks w B A l) (n : Nat) : Toks (w.drewN n) B A l := ⟨fun k t ht => by
    obtain ⟨b, o, e, hlt, h4⟩ := h.at_ k t ht
    exact ⟨b, o, e, by omega, ⟨h4.kind, h4.text, h4.n, h4.pos⟩⟩, h.len, h.texts⟩
theorem Toks.nil (w : World) (B : Nat) (A : Option Addr) : Toks w B A [] := ⟨fun k t h => by simp at h, by simp, fun t h => by simp at h⟩

/-- Few tokens, as the reference counts (its sum may wrap). -/
def Lx.fs (l : List Tok) : Int := l.foldl (fun n t => wrap64 (n + (t.text.length : Int))) 0
def Lx.few (l : List Tok) : Bool := decide ((l.length : Int) ≤ 200) && decide (Lx.fs l ≤ 2000)
theorem Lx.fs_snoc (l : List Tok) (k : Nat) (t : Tok) (h : l[k]? = some t) : Lx.fs (l.take (k + 1)) = wrap64 (Lx.fs (l.take k) + (t.text.length : Int)) := by
  unfold Lx.fs
  rw [List.take_add_one, h]
  simp [List.foldl_append]

set_option maxHeartbeats 400000 in
theorem rFew (A : Option Addr) (c : Nat) (l : List Tok) (w : World) (h : Toks w w.heap.size A l) :
    Calls Tryd.prog 18 #[.slice A l.length c] w fun e w' => e = .returned (.bool (Lx.few l)) ∧ w = w' := by
  have hlen := h.len
  go_enter Tryd.func18, Tryd.ntmps18
  go_wp2
  go_loop [3, 4] (fun n i => ∃ k : Nat, k ≤ l.length ∧ i = .int .i64 k ∧ n = .int .i64 (Lx.fs (l.take k))) (fun _ i => l.length - (intOf i).toNat)
  case atStart => exact ⟨0, by omega, rfl, rfl⟩
  case round =>
    obtain ⟨k, hk, rfl, rfl⟩ := hrel
    by_cases hlt : k < l.length
    · obtain ⟨b, o, rfl, hb, h4⟩ := h.at_ k l[k] (List.getElem?_eq_getElem hlt)
      obtain ⟨t, ht⟩ : ∃ t, t = l[k] := ⟨_, rfl⟩
      rw [← ht] at h4
      have htk : l[k]? = some t := by rw [ht, List.getElem?_eq_getElem hlt]
      clear ht
      have Hs := Lib.hid (Lx.fs_snoc l k t htk); clear htk
      obtain ⟨q1, q2, q3, q4⟩ := h4
      obtain ⟨F, hF⟩ : ∃ F, F = Lx.fs (l.take k) := ⟨_, rfl⟩
      rw [← hF] at Hs ⊢
      clear hF
      go_wp2
      go_round
      case rel => exact ⟨k + 1, by omega, by go_num, by rw [Hs.out, Lx.bs_size]⟩
      case measure => simp [intOf]; omega
    · obtain rfl : k = l.length := by omega
      rw [List.take_length]
      by_cases h200 : (l.length : Int) ≤ 200
      all_goals
        go_wp2
        go_ret
        exact ⟨ret_bool (by unfold Lx.few; simp <;> omega), rfl⟩

theorem Lx.same1_iff (a b : Tok) : Lx.same1 a b = (a.kind == b.kind && a.text == b.text && a.n == b.n) := rfl
theorem Lx.same_len (a b : List Tok) (h : Lx.same a b = true) : a.length = b.length := by
  induction a generalizing b with
  | nil => cases b <;> simp_all [Lx.same]
  | cons x r ih =>
    cases b with
    | nil => simp [Lx.same] at h
    | cons y s => simp only [Lx.same, Bool.and_eq_true] at h; simp [ih s h.2]
theorem Lx.same_ne (a b : List Tok) (h : a.length ≠ b.length) : Lx.same a b = false := by
  cases hs : Lx.same a b
  · rfl
  · exact absurd (Lx.same_len a b hs) h
theorem Lx.same_bad (a b : List Tok) (k : Nat) (x y : Tok) (hx : a[k]? = some x) (hy : b[k]? = some y) (h : Lx.same1 x y = false) : Lx.same a b = false := by
  induction a generalizing b k with
  | nil => simp at hx
  | cons u r ih =>
    cases b with
    | nil => simp at hy
    | cons v s =>
      cases k with
      | zero => simp at hx hy; subst hx; subst hy; simp [Lx.same, h]
      | succ k => simp only [List.getElem?_cons_succ] at hx hy; simp [Lx.same, ih s k hx hy]
theorem Lx.same_all (a b : List Tok) (hl : a.length = b.length) (h : ∀ (k : Nat) (x y : Tok), a[k]? = some x → b[k]? = some y → Lx.same1 x y = true) : Lx.same a b = true := by
  induction a generalizing b with
  | nil => cases b <;> simp_all [Lx.same]
  | cons u r ih =>
    cases b with
    | nil => simp at hl
    | cons v s =>
      simp only [Lx.same, Bool.and_eq_true]
      exact ⟨h 0 u v rfl rfl, ih s (by simpa using hl) fun k x y hx hy => h (k + 1) x y (by simpa using hx) (by simpa using hy)⟩
theorem Lx.bs_beq (a b : List UInt8) : ((Lx.bs a).toList == (Lx.bs b).toList) = (a == b) := by
  rw [ByteArray.toList_eq, ByteArray.toList_eq, Lx.bs_list, Lx.bs_list]

set_option maxHeartbeats 800000 in
theorem rSame (A A' : Option Addr) (c c' : Nat) (l l' : List Tok) (w : World) (h : Toks w w.heap.size A l) (h' : Toks w w.heap.size A' l') :
    Calls Tryd.prog 22 #[.slice A l.length c, .slice A' l'.length c'] w fun e w' => e = .returned (.bool (Lx.same l l')) ∧ ∃ n, w' = w.drewN n := by
  have hlen := h.len
  have hlen' := h'.len
  by_cases hll : l.length = l'.length
  case neg =>
    have hne : ((l.length : Int) != (l'.length : Int)) = true := by rw [bne_iff_ne]; omega
    rw [Lx.same_ne l l' hll]
    have Hll := Lib.hid hll; clear hll
    go_enter Tryd.func22, Tryd.ntmps22
    go_wp2
    go_ret
    exact ⟨rfl, 0, rfl⟩
  have Hll := Lib.hid hll
  obtain ⟨m, hm⟩ : ∃ m, m = l'.length := ⟨_, rfl⟩
  rw [← hm] at hll ⊢
  rw [hll]
  have hml : m ≤ 3518437208883 := by omega
  have hlm : l.length ≤ m := by omega
  have hml' : l'.length ≤ m := by omega
  have hlm2 : m ≤ l.length := by omega
  have hlm3 : m ≤ l'.length := by omega
  clear hll hm hlen hlen'
  go_enter Tryd.func22, Tryd.ntmps22
  go_wp2
  go_loopw [5] (fun i wr => ∃ k n : Nat, k ≤ m ∧ i = .int .i64 k ∧ wr = w.drewN n ∧ ∀ (j : Nat) (x y : Tok), j < k → l[j]? = some x → l'[j]? = some y → Lx.same1 x y = true) (fun i _ => m - (intOf i).toNat)
  case atStart => exact ⟨0, 0, by omega, rfl, rfl, fun j x y hj => absurd hj (by omega)⟩
  case round =>
    obtain ⟨k, n, hk, rfl, rfl, hh⟩ := hrel
    have Hh := Lib.hid hh; clear hh
    by_cases hlt : k < m
    · obtain ⟨b, o, rfl, hb, h4⟩ := h.at_ k l[k] (List.getElem?_eq_getElem (by omega))
      obtain ⟨x, hx⟩ : ∃ x, l[k]? = some x := ⟨_, List.getElem?_eq_getElem (by omega)⟩
      rw [show l[k] = x from by have := List.getElem?_eq_getElem (l := l) (i := k) (by omega); rw [hx] at this; injection this with this; exact this.symm] at h4
      obtain ⟨b', o', rfl, hb', h4'⟩ := h'.at_ k l'[k] (List.getElem?_eq_getElem (by omega))
      obtain ⟨y, hy⟩ : ∃ y, l'[k]? = some y := ⟨_, List.getElem?_eq_getElem (by omega)⟩
      rw [show l'[k] = y from by have := List.getElem?_eq_getElem (l := l') (i := k) (by omega); rw [hy] at this; injection this with this; exact this.symm] at h4'
      have Hx := Lib.hid hx; have Hy := Lib.hid hy
      clear hx hy
      obtain ⟨p1, p2, p3, p4⟩ := h4
      obtain ⟨q1, q2, q3, q4⟩ := h4'
      have hs := Lx.same1_iff x y
      rw [← Lx.bs_beq] at hs
      cases e1 : x.kind == y.kind
      · have e1' : (x.kind != y.kind) = true := by simp [bne, e1]
        rw [e1] at hs
        have Hs := Lib.hid hs; clear hs
        go_wp2
        go_quiet (fail)
        go_wp2
        go_ret
        exact ⟨ret_bool (Lx.same_bad l l' k x y Hx.out Hy.out (by rw [Hs.out]; rfl)).symm, _, World.drewN_drewN _ _ _⟩
      · have e1' : (x.kind != y.kind) = false := by simp [bne, e1]
        rw [e1] at hs
        cases e2 : (Lx.bs x.text).toList == (Lx.bs y.text).toList
        · rw [e2] at hs
          have Hs := Lib.hid hs; clear hs
          go_wp2
          go_quiet (fail)
          go_wp2
          go_ret
          exact ⟨ret_bool (Lx.same_bad l l' k x y Hx.out Hy.out (by rw [Hs.out]; rfl)).symm, _, World.drewN_drewN _ _ _⟩
        · rw [e2] at hs
          cases e3 : x.n == y.n
          · have e3' : (x.n != y.n) = true := by simp [bne, e3]
            rw [e3] at hs
            have Hs := Lib.hid hs; clear hs
            go_wp2
            go_quiet (fail)
            go_wp2
            go_ret
            exact ⟨ret_bool (Lx.same_bad l l' k x y Hx.out Hy.out (by rw [Hs.out]; rfl)).symm, _, World.drewN_drewN _ _ _⟩
          · have e3' : (x.n != y.n) = false := by simp [bne, e3]
            rw [e3] at hs
            have Hs := Lib.hid hs; clear hs
            go_wp2
            go_quiet (fail)
            go_wp2
            go_roundw
            case rel =>
              refine ⟨k + 1, _, by omega, by go_num, rfl, fun j u v hj hu hv => ?_⟩
              rcases Nat.lt_or_ge j k with hjk | hjk
              · exact Hh.out j u v hjk hu hv
              · obtain rfl : j = k := by omega
                rw [Hx.out] at hu; rw [Hy.out] at hv
                obtain rfl := Option.some.inj hu
                obtain rfl := Option.some.inj hv
                rw [Hs.out]; rfl
            case measure => simp [intOf]; omega
    · obtain rfl : k = m := by omega
      go_wp2
      go_ret
      exact ⟨ret_bool (Lx.same_all l l' Hll.out fun j x y hx hy => Hh.out j x y (by have := (List.getElem?_eq_some_iff.1 hx).1; omega) hx hy).symm, _, rfl⟩

theorem Lx.eq_not_same (a b : List Tok) (h : Lx.same a b = false) : decide (a = b) = false := by
  refine decide_eq_false fun e => ?_
  subst e
  have : Lx.same a a = true := Lx.same_all a a rfl fun k x y hx hy => by
    rw [hx] at hy; obtain rfl := Option.some.inj hy; simp [Lx.same1]
  rw [this] at h; cases h

theorem Lx.eq_of_same : ∀ (a b : List Tok), Lx.same a b = true → (∀ (j : Nat) (x y : Tok), a[j]? = some x → b[j]? = some y → x.pos = y.pos) → a = b
  | [], [], _, _ => rfl
  | [], _ :: _, h, _ => by simp [Lx.same] at h
  | _ :: _, [], h, _ => by simp [Lx.same] at h
  | x :: r, y :: s, h, hp => by
    simp only [Lx.same, Bool.and_eq_true, Lx.same1, beq_iff_eq] at h
    have h0 := hp 0 x y rfl rfl
    have hr := Lx.eq_of_same r s h.2 fun j u v hu hv => hp (j + 1) u v (by simpa using hu) (by simpa using hv)
    obtain ⟨⟨⟨h1, h2⟩, h3⟩, _⟩ := h
    subst hr
    cases x; cases y; simp_all

set_option maxHeartbeats 800000 in
theorem rEqual (A A' : Option Addr) (c c' : Nat) (l l' : List Tok) (w : World) (h : Toks w w.heap.size A l) (h' : Toks w w.heap.size A' l') :
    Calls Tryd.prog 17 #[.slice A l.length c, .slice A' l'.length c'] w fun e w' => e = .returned (.bool (decide (l = l'))) ∧ ∃ n, w' = w.drewN n := by
  have hsame := rSame A A' c c' l l' w h h'
  have Hsame := Lib.hid hsame; clear hsame
  cases hb : Lx.same l l'
  · rw [Lx.eq_not_same l l' hb]
    go_enter Tryd.func17, Tryd.ntmps17
    go_wp2_with (go_at_call 22; refine (Hsame.out).mono ?_; rintro e w' ⟨rfl, n, rfl⟩)
    go_ret
    exact ⟨rfl, _, rfl⟩
  have hlen := h.len
  have hlen' := h'.len
  have hll := Lx.same_len l l' hb
  have Hb := Lib.hid hb; clear hb
  have Hll := Lib.hid hll
  have Hll2 := Lib.hid hll
  obtain ⟨m, hm⟩ : ∃ m, m = l'.length := ⟨_, rfl⟩
  have Hm := Lib.hid hm
  rw [← hm] at hll ⊢
  rw [hll]
  have hml : m ≤ 3518437208883 := by omega
  have hlm : l.length ≤ m := by omega
  have hml' : l'.length ≤ m := by omega
  have hlm2 : m ≤ l.length := by omega
  have hlm3 : m ≤ l'.length := by omega
  have Hsame2 : Hid (Calls Tryd.prog 22 #[.slice A m c, .slice A' m c'] w fun e w' => e = .returned (.bool true) ∧ ∃ n, w' = w.drewN n) := by
    have := Hsame.out
    rw [Hll2.out, Hb.out, ← Hm.out] at this
    exact Lib.hid this
  clear hll hm hlen hlen'
  go_enter Tryd.func17, Tryd.ntmps17
  go_wp2_with (go_at_call 22; refine (Hsame2.out).mono ?_; rintro e w' ⟨rfl, n0, rfl⟩)
  go_loopw [5] (fun i wr => ∃ k n : Nat, k ≤ m ∧ i = .int .i64 k ∧ wr = w.drewN n ∧ ∀ (j : Nat) (x y : Tok), j < k → l[j]? = some x → l'[j]? = some y → x.pos = y.pos) (fun i _ => m - (intOf i).toNat)
  case atStart => exact ⟨0, n0, by omega, rfl, rfl, fun j x y hj => absurd hj (by omega)⟩
  case round =>
    obtain ⟨k, n, hk, rfl, rfl, hh⟩ := hrel
    have Hh := Lib.hid hh; clear hh
    by_cases hlt : k < m
    · obtain ⟨b, o, rfl, hb, h4⟩ := h.at_ k l[k] (List.getElem?_eq_getElem (by omega))
      obtain ⟨x, hx⟩ : ∃ x, l[k]? = some x := ⟨_, List.getElem?_eq_getElem (by omega)⟩
      rw [show l[k] = x from by have := List.getElem?_eq_getElem (l := l) (i := k) (by omega); rw [hx] at this; injection this with this; exact this.symm] at h4
      obtain ⟨b', o', rfl, hb', h4'⟩ := h'.at_ k l'[k] (List.getElem?_eq_getElem (by omega))
      obtain ⟨y, hy⟩ : ∃ y, l'[k]? = some y := ⟨_, List.getElem?_eq_getElem (by omega)⟩
      rw [show l'[k] = y from by have := List.getElem?_eq_getElem (l := l') (i := k) (by omega); rw [hy] at this; injection this with this; exact this.symm] at h4'
      have Hx := Lib.hid hx; have Hy := Lib.hid hy
      clear hx hy
      obtain ⟨p1, p2, p3, p4⟩ := h4
      obtain ⟨q1, q2, q3, q4⟩ := h4'
      cases e1 : x.pos == y.pos
      · have e1' : (x.pos != y.pos) = true := by simp [bne, e1]
        have e1n := Lib.hid e1; clear e1
        go_wp2
        go_quiet (fail)
        go_wp2
        go_ret
        refine ⟨ret_bool (decide_eq_false fun e => ?_).symm, _, World.drewN_drewN _ _ _⟩
        have hx := Hx.out
        rw [e, Hy.out] at hx
        obtain rfl := Option.some.inj hx
        have := e1n.out
        simp at this
      · have e1' : (x.pos != y.pos) = false := by simp [bne, e1]
        have e1n := Lib.hid e1; clear e1
        go_wp2
        go_quiet (fail)
        go_wp2
        go_roundw
        case rel =>
          refine ⟨k + 1, _, by omega, by go_num, rfl, fun j u v hj hu hv => ?_⟩
          rcases Nat.lt_or_ge j k with hjk | hjk
          · exact Hh.out j u v hjk hu hv
          · obtain rfl : j = k := by omega
            rw [Hx.out] at hu; rw [Hy.out] at hv
            obtain rfl := Option.some.inj hu
            obtain rfl := Option.some.inj hv
            exact eq_of_beq e1n.out
        case measure => simp [intOf]; omega
    · obtain rfl : k = m := by omega
      go_wp2
      go_ret
      exact ⟨ret_bool (decide_eq_true (Lx.eq_of_same l l' Hb.out fun j x y hx hy => Hh.out j x y (by have := (List.getElem?_eq_some_iff.1 hx).1; omega) hx hy)).symm, _, rfl⟩
end Go.Proofs.YtocelmjncjompaaDoor

namespace Go.Proofs.YtocelmjncjompaaDoor
open Go.RowKit
open Lx (Tok)

/-- How many bytes at the head of a list are of some classes. -/
def Lx.runLen (zs : List Int) (l : List UInt8) : Nat := (l.takeWhile fun c => zs.contains (Lx.cls c)).length
theorem Lx.tw_len (p : UInt8 → Bool) : ∀ (l : List UInt8) (k : Nat), k ≤ l.length → (∀ j (h : j < l.length), j < k → p l[j] = true) → (∀ h : k < l.length, p l[k] = false) → (l.takeWhile p).length = k
  | [], k, hk, _, _ => by simp at hk; simp [hk]
  | c :: r, 0, _, _, h => by
    have h0 : p c = false := h (by simp)
    simp [h0]
  | c :: r, k + 1, hk, ha, h => by
    have h0 : p c = true := ha 0 (by simp) (by omega)
    simp only [List.takeWhile_cons, h0, if_true, List.length_cons]
    rw [Lx.tw_len p r k (by simpa using hk) (fun j hj hjk => ha (j + 1) (by simpa using hj) (by omega)) (fun hh => h (by simpa using hh))]
theorem Lx.run_end (zs : List Int) (s : ByteArray) (a n : Nat) (han : a ≤ n) (hn : n ≤ s.size) (h1 : ∀ j (h : j < s.size), a ≤ j → j < n → zs.contains (Lx.cls s[j]) = true) (h2 : ∀ h : n < s.size, zs.contains (Lx.cls s[n]) = false) :
    a + Lx.runLen zs (s.data.toList.drop a) = n := by
  unfold Lx.runLen
  have hl := Lx.ba_len s
  rw [Lx.tw_len _ _ (n - a) (by rw [List.length_drop]; omega)]
  · omega
  · intro j hj hjn
    rw [List.length_drop] at hj
    rw [List.getElem_drop]
    exact h1 (a + j) (by omega) (by omega) (by omega)
  · intro hj
    rw [List.length_drop] at hj
    rw [List.getElem_drop]
    have := h2 (by omega)
    simp only [show a + (n - a) = n by omega]
    exact this

set_option maxHeartbeats 800000 in
theorem lRun (g bz a c : Nat) (src : ByteArray) (zs : List Int) (w : World) (hg0 : w.cell? ⟨g, 0, none⟩ = some (.string src)) (hg1 : w.cell? ⟨g, 1, none⟩ = some (.int .i64 a))
    (hz : ∀ j, j < zs.length → w.cell? ⟨bz, 0 + j, none⟩ = some (.int .i64 (zs.getD j 0))) (hzl : zs.length ≤ 100) (ha : a ≤ src.size) (hs : src.size ≤ 65536) :
    Calls Tryd.prog 68 #[.pointer (some ⟨g, 0, none⟩), .slice (some ⟨bz, 0, none⟩) zs.length c] w fun e w' =>
      e = .returned (.string (src.extract a (a + Lx.runLen zs (src.data.toList.drop a)))) ∧ ∃ n, w' = w.drewN n := by
  have Hz := Lib.hid hz; clear hz
  go_enter Tryd.func68, Tryd.ntmps68
  go_wp2
  go_loop [5] (fun i => ∃ n : Nat, n ≤ src.size ∧ i = .int .i64 n ∧ a ≤ n ∧ ∀ j (h : j < src.size), a ≤ j → j < n → zs.contains (Lx.cls src[j]) = true) (fun i => src.size - (intOf i).toNat)
  case atStart => exact ⟨a, by omega, rfl, by omega, fun j h1 h2 h3 => absurd h2 (by omega)⟩
  case round =>
    obtain ⟨n, hn, rfl, han, hh⟩ := hrel
    have Hh := Lib.hid hh; clear hh
    by_cases hlt : n < src.size
    · have hcon := cContainsInt bz 0 zs.length c zs (Lx.cls src[n]) w (Nat.le_refl _) (by omega) Hz.out
      rw [List.take_length] at hcon
      have Hcon := Lib.hid hcon; clear hcon
      cases hc : zs.contains (Lx.cls src[n])
      · rw [hc] at Hcon
        go_wp2_with (first | (go_at_call 40; refine (lClass _ _).mono ?_; rintro e w' ⟨rfl, rfl⟩) | (go_at_call 91; refine (Hcon.out).mono ?_; rintro e w' ⟨rfl, rfl⟩))
        go_quiet (fail)
        go_wp2
        go_ret
        exact ⟨congrArg Ending.returned (congrArg Value.string (by rw [Lx.run_end zs src a n han hn Hh.out fun _ => hc])), _, rfl⟩
      · rw [hc] at Hcon
        go_wp2_with (first | (go_at_call 40; refine (lClass _ _).mono ?_; rintro e w' ⟨rfl, rfl⟩) | (go_at_call 91; refine (Hcon.out).mono ?_; rintro e w' ⟨rfl, rfl⟩))
        go_round
        case rel =>
          refine ⟨n + 1, by omega, by go_num, by omega, fun j hj haj hjn => ?_⟩
          rcases Nat.lt_or_ge j n with h | h
          · exact Hh.out j hj haj h
          · obtain rfl : j = n := by omega
            exact hc
        case measure => simp [intOf]; omega
    · go_wp2
      go_quiet (fail)
      go_wp2
      go_ret
      exact ⟨congrArg Ending.returned (congrArg Value.string (by rw [Lx.run_end zs src a n han hn Hh.out fun h => absurd h hlt])), _, rfl⟩
end Go.Proofs.YtocelmjncjompaaDoor
