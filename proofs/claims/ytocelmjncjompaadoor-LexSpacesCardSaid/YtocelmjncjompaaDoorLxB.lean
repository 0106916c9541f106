/- Walks: Sign, Name. -/
import Derived.Test.YtocelmjncjompaaDoorLxA
import Derived.Test.YtocelmjncjompaaDoorLxLib
namespace Go.Proofs.YtocelmjncjompaaDoor
open Go.RowKit

set_option maxHeartbeats 400000 in
theorem rSign (c : UInt8) (w : World) :
    Calls Tryd.prog 45 #[.int .u8 c.toNat] w fun e w' => e = .returned (.bool (Lx.sign c)) ∧ w = w' := by
  go_enter Tryd.func45, Tryd.ntmps45
  go_wp2
  go_loop [4] (fun i => ∃ k : Nat, k ≤ 13 ∧ i = .int .i64 k ∧ (Lx.signs.take k).contains c = false) (fun i => 13 - (intOf i).toNat)
  case atStart => exact ⟨0, by omega, rfl, rfl⟩
  case round =>
    obtain ⟨k, hk, rfl, hh⟩ := hrel
    have Hh := Lib.hid hh; clear hh
    by_cases hlt : k < 13
    · go_wp2
      · go_ret
        exact ⟨ret_bool (Lx.sign_hit k c (by exact hlt) (by assumption)).symm, rfl⟩
      · go_round
        case rel => exact ⟨k + 1, by omega, by go_num, Lx.sign_miss k c (by exact hlt) Hh.out (by assumption)⟩
        case measure => simp [intOf]; omega
    · go_wp2
      go_ret
      obtain rfl : k = 13 := by omega
      exact ⟨ret_bool Hh.out.symm, rfl⟩
set_option maxHeartbeats 400000 in
theorem lClass (c : UInt8) (w : World) :
    Calls Tryd.prog 40 #[.int .u8 c.toNat] w fun e w' => e = .returned (.int .i64 (Lx.cls c)) ∧ w = w' := by
  go_enter Tryd.func40, Tryd.ntmps40
  go_wp2_with (go_at_call 72; refine (cIndexByte _ _ _).mono ?_; rintro e w' ⟨rfl, rfl⟩)
  all_goals (go_ret; refine ⟨ret_int ?_, rfl⟩; rw [Lx.cls_eq]; (try simp only [beq_iff_eq, beq_eq_false_iff_ne] at *); (repeat' split) <;> first | rfl | omega)
set_option maxHeartbeats 400000 in
theorem rName (s : ByteArray) (w : World) (hs : s.size ≤ maxLen) :
    Calls Tryd.prog 24 #[.string s] w fun e w' => e = .returned (.bool (Lx.isName s.data.toList)) ∧ w = w' := by
  unfold maxLen at hs
  by_cases h0 : s.size < 1
  · go_enter Tryd.func24, Tryd.ntmps24
    go_wp2_with fail
    go_ret
    exact ⟨ret_bool (Lx.isName_none s (by omega)).symm, rfl⟩
  have h0' : 0 < s.size := by omega
  clear h0
  by_cases h1 : 32 < s.size
  · go_enter Tryd.func24, Tryd.ntmps24
    go_wp2_with fail
    go_ret
    exact ⟨ret_bool (Lx.isName_long s (by omega)).symm, rfl⟩
  have h1' : s.size ≤ 32 := by omega
  clear h1
  cases hl : Lx.letter s[0]
  · go_enter Tryd.func24, Tryd.ntmps24
    go_wp2_with (go_at_call 41; refine (rLetter _ _).mono ?_; rintro e w' ⟨rfl, rfl⟩)
    go_ret
    exact ⟨ret_bool (Lx.isName_head s (by assumption) hl).symm, rfl⟩
  · go_enter Tryd.func24, Tryd.ntmps24
    go_wp2_with (go_at_call 41; refine (rLetter _ _).mono ?_; rintro e w' ⟨rfl, rfl⟩)
    have Hl := Lib.hid hl; clear hl
    go_loop [3] (fun i => ∃ k : Nat, k ≤ s.size ∧ i = .int .i64 k ∧ (s.data.toList.take k).all Lx.part = true) (fun i => s.size - (intOf i).toNat)
    case atStart => exact ⟨0, by omega, rfl, rfl⟩
    case round =>
      obtain ⟨k, hk, rfl, hh⟩ := hrel
      have Hh := Lib.hid hh; clear hh
      by_cases hlt : k < s.size
      · cases hp : Lx.part s[k]
        · go_wp2_with (go_at_call 42; refine (rPart _ _).mono ?_; rintro e w' ⟨rfl, rfl⟩)
          go_ret
          exact ⟨ret_bool (Lx.isName_bad s k hlt hp).symm, rfl⟩
        · go_wp2_with (go_at_call 42; refine (rPart _ _).mono ?_; rintro e w' ⟨rfl, rfl⟩)
          go_round
          case rel => exact ⟨k + 1, by omega, by go_num, Lx.all_step s k hlt Hh.out hp⟩
          case measure => simp [intOf]; omega
      · go_wp2_with fail
        go_ret
        obtain rfl : k = s.size := by omega
        exact ⟨ret_bool (Lx.isName_ok s h0' h1' Hl.out (Lx.all_end s Hh.out)).symm, rfl⟩
set_option maxHeartbeats 400000 in
theorem lName (s : ByteArray) (w : World) (hs : s.size ≤ maxLen) :
    Calls Tryd.prog 23 #[.string s] w fun e w' => e = .returned (.bool (Lx.isName s.data.toList)) ∧ w = w' := by
  unfold maxLen at hs
  by_cases h0 : s.size < 1
  · have h0e : s.toList.isEmpty = true := by rw [List.isEmpty_iff]; exact List.eq_nil_of_length_eq_zero (by rw [ByteArray.toList_eq, Lx.ba_len]; omega)
    go_enter Tryd.func23, Tryd.ntmps23
    go_wp2_with fail
    go_ret
    exact ⟨ret_bool (Lx.isName_none s (by omega)).symm, rfl⟩
  have h0' : 0 < s.size := by omega
  clear h0
  have h0f : ¬ s.toList = [] := fun h => by
    have h2 : s.data.toList.length = 0 := by rw [← ByteArray.toList_eq, h]; rfl
    rw [Lx.ba_len] at h2; omega
  have h0e : s.toList.isEmpty = false := by rw [List.isEmpty_eq_false_iff]; exact h0f
  by_cases h1 : 32 < s.size
  · go_enter Tryd.func23, Tryd.ntmps23
    go_wp2_with fail
    go_ret
    exact ⟨ret_bool (Lx.isName_long s (by omega)).symm, rfl⟩
  have h1' : s.size ≤ 32 := by omega
  have h1d : decide ((32 : Int) < (s.size : Int)) = false := decide_eq_false (by omega)
  clear h1
  cases hl : Lx.letter s[0]
  · have hq : (Lx.cls s[0] != 2) = true := by rw [Lx.letter_cls] at hl; simpa using hl
    go_enter Tryd.func23, Tryd.ntmps23
    go_wp2_with (go_at_call 40; refine (lClass _ _).mono ?_; rintro e w' ⟨rfl, rfl⟩)
    go_ret
    exact ⟨ret_bool (Lx.isName_head s (by assumption) hl).symm, rfl⟩
  · have hq : (Lx.cls s[0] != 2) = false := by rw [Lx.letter_cls] at hl; simpa using hl
    have Hl := Lib.hid hl; clear hl
    go_enter Tryd.func23, Tryd.ntmps23
    go_wp2_with (go_at_call 40; refine (lClass _ _).mono ?_; rintro e w' ⟨rfl, rfl⟩)
    go_loop [20] (fun i => ∃ k : Nat, k ≤ s.size ∧ i = .int .i64 k ∧ (s.data.toList.take k).all Lx.part = true) (fun i => s.size - (intOf i).toNat)
    case atStart => exact ⟨0, by omega, rfl, rfl⟩
    case round =>
      obtain ⟨k, hk, rfl, hh⟩ := hrel
      have Hh := Lib.hid hh; clear hh
      by_cases hlt : k < s.size
      · cases hp : Lx.part s[k]
        · have hp' := hp
          rw [Lx.part_cls] at hp'
          have q2 : (Lx.cls s[k] != 2) = true := by simp at hp' ⊢; exact hp'.1.1
          have q3 : (Lx.cls s[k] != 3) = true := by simp at hp' ⊢; exact hp'.1.2
          have q5 : (Lx.cls s[k] != 5) = true := by simp at hp' ⊢; exact hp'.2
          clear hp'
          have Hp := Lib.hid hp; clear hp
          go_wp2_with (go_at_call 40; refine (lClass _ _).mono ?_; rintro e w' ⟨rfl, rfl⟩)
          go_ret
          exact ⟨ret_bool (Lx.isName_bad s k hlt Hp.out).symm, rfl⟩
        · have Hp := Lib.hid hp
          rw [Lx.part_cls] at hp
          by_cases c2 : (Lx.cls s[k] != 2) = true
          · by_cases c3 : (Lx.cls s[k] != 3) = true
            · have c5 : (Lx.cls s[k] != 5) = false := by simp at hp c2 c3 ⊢; omega
              clear hp
              go_wp2_with (go_at_call 40; refine (lClass _ _).mono ?_; rintro e w' ⟨rfl, rfl⟩)
              go_round
              case rel => exact ⟨k + 1, by omega, by go_num, Lx.all_step s k hlt Hh.out Hp.out⟩
              case measure => simp [intOf]; omega
            · have c3' : (Lx.cls s[k] != 3) = false := by simpa using c3
              clear hp c3
              go_wp2_with (go_at_call 40; refine (lClass _ _).mono ?_; rintro e w' ⟨rfl, rfl⟩)
              go_round
              case rel => exact ⟨k + 1, by omega, by go_num, Lx.all_step s k hlt Hh.out Hp.out⟩
              case measure => simp [intOf]; omega
          · have c2' : (Lx.cls s[k] != 2) = false := by simpa using c2
            clear hp c2
            go_wp2_with (go_at_call 40; refine (lClass _ _).mono ?_; rintro e w' ⟨rfl, rfl⟩)
            go_round
            case rel => exact ⟨k + 1, by omega, by go_num, Lx.all_step s k hlt Hh.out Hp.out⟩
            case measure => simp [intOf]; omega
      · go_wp2_with fail
        go_ret
        obtain rfl : k = s.size := by omega
        exact ⟨ret_bool (Lx.isName_ok s h0' h1' Hl.out (Lx.all_end s Hh.out)).symm, rfl⟩
end Go.Proofs.YtocelmjncjompaaDoor
