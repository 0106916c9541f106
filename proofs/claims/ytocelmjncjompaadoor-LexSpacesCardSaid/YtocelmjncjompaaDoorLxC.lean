/- Walks: valid, Valid, number of the reference. -/
import Derived.Test.YtocelmjncjompaaDoorLxB
namespace Go.Proofs.YtocelmjncjompaaDoor
open Go.RowKit

theorem Lx.one_of (s : ByteArray) (h : s.size = 1) : s.data.toList = [s[0]] := by
  have h1 := Lx.ba_len s
  have h0 := Lx.ba_get s 0 (by omega)
  match hs : s.data.toList, h1 with
  | [c], _ => rw [← h0]; simp [hs]
  | [], h1 => simp at h1; omega
  | _ :: _ :: _, h1 => simp at h1; omega
theorem Lx.sign_cls (c : UInt8) (h : Lx.cls c = 4) : Lx.sign c = true := by
  unfold Lx.cls at h
  repeat' (split at h)
  all_goals first | assumption | (exfalso; omega)
theorem Lx.sign_not : ∀ c ∈ Lx.signs, Lx.cls c = 4 := by decide
theorem Lx.cls_sign (c : UInt8) : decide (Lx.cls c = 4) = Lx.sign c := by
  cases hs : Lx.sign c
  · exact decide_eq_false fun h => by rw [Lx.sign_cls c h] at hs; cases hs
  · exact decide_eq_true (Lx.sign_not c (by simpa [Lx.sign] using hs))

theorem Lx.valid_one (s : ByteArray) (n p : Int) : Lx.valid ⟨1, s.data.toList, n, p⟩ = (Lx.isName s.data.toList && (n == 0)) := rfl
theorem Lx.valid_two (s : ByteArray) (n p : Int) : Lx.valid ⟨2, s.data.toList, n, p⟩ = (s.data.toList.isEmpty && decide (0 ≤ n) && decide (n ≤ 1099511627776)) := rfl
theorem Lx.valid_three (s : ByteArray) (n p : Int) (h : s.size = 1) : Lx.valid ⟨3, s.data.toList, n, p⟩ = (Lx.sign s[0] && (n == 0)) := by
  rw [Lx.one_of s h]; rfl
theorem Lx.valid_three' (s : ByteArray) (n p : Int) (h : s.size ≠ 1) : Lx.valid ⟨3, s.data.toList, n, p⟩ = false := by
  have h1 := Lx.ba_len s
  match hs : s.data.toList, h1 with
  | [c], h1 => simp at h1; omega
  | [], h1 => rfl
  | _ :: _ :: _, h1 => rfl
theorem Lx.valid_other (k : Int) (s : List UInt8) (n p : Int) (h1 : k ≠ 1) (h2 : k ≠ 2) (h3 : k ≠ 3) : Lx.valid ⟨k, s, n, p⟩ = false := by
  simp [Lx.valid, h1, h2, h3]

set_option maxHeartbeats 800000 in
theorem lValid (k n p : Int) (s : ByteArray) (w : World) (hs : s.size ≤ maxLen) :
    Calls Tryd.prog 46 #[.agg #[.int .i64 k, .string s, .int .i64 n, .int .i64 p]] w fun e w' => e = .returned (.bool (Lx.valid ⟨k, s.data.toList, n, p⟩)) ∧ Below w.heap.size w w' := by
  by_cases k1 : k = 1
  · subst k1
    rw [Lx.valid_one]
    cases hn : Lx.isName s.data.toList
    all_goals
      go_enter Tryd.func46, Tryd.ntmps46
      go_wp2_with (go_at_call 23; refine (lName _ _ hs).mono ?_; rintro e w' ⟨rfl, rfl⟩)
      go_ret
      exact ⟨ret_bool (by simp), (Below.refl _ _).alloc (Nat.le_refl _) _⟩
  by_cases k2 : k = 2
  · subst k2
    rw [Lx.valid_two, ← ByteArray.toList_eq]
    cases hn : s.toList.isEmpty
    · go_enter Tryd.func46, Tryd.ntmps46
      go_wp2_with fail
      go_ret
      exact ⟨ret_bool (by simp), (Below.refl _ _).alloc (Nat.le_refl _) _⟩
    · have hn' : s.toList = [] := by simpa using hn
      by_cases n0 : 0 ≤ n
      all_goals
        go_enter Tryd.func46, Tryd.ntmps46
        go_wp2_with fail
        go_ret
        exact ⟨ret_bool (by simp <;> omega), (Below.refl _ _).alloc (Nat.le_refl _) _⟩
  by_cases k3 : k = 3
  · subst k3
    by_cases h1 : s.size = 1
    · rw [Lx.valid_three s n p h1, ← Lx.cls_sign]
      have h1' : (s.size : Int) = 1 := by omega
      have h0 : 0 < s.size := by omega
      by_cases hc : Lx.cls s[0] = 4
      all_goals
        go_enter Tryd.func46, Tryd.ntmps46
        go_wp2_with (go_at_call 40; refine (lClass _ _).mono ?_; rintro e w' ⟨rfl, rfl⟩)
        go_ret
        exact ⟨ret_bool (by simp [hc]), (Below.refl _ _).alloc (Nat.le_refl _) _⟩
    · rw [Lx.valid_three' s n p h1]
      have h1' : ((s.size : Int) == 1) = false := beq_eq_false_iff_ne.2 (by omega)
      go_enter Tryd.func46, Tryd.ntmps46
      go_wp2_with fail
      go_ret
      exact ⟨ret_bool (by simp), (Below.refl _ _).alloc (Nat.le_refl _) _⟩
  rw [Lx.valid_other k _ n p k1 k2 k3]
  have k1' : (k == 1) = false := beq_eq_false_iff_ne.2 k1
  have k2' : (k == 2) = false := beq_eq_false_iff_ne.2 k2
  have k3' : (k == 3) = false := beq_eq_false_iff_ne.2 k3
  go_enter Tryd.func46, Tryd.ntmps46
  go_wp2_with fail
  go_ret
  exact ⟨rfl, (Below.refl _ _).alloc (Nat.le_refl _) _⟩
set_option maxHeartbeats 800000 in
theorem rValid (k n p : Int) (s : ByteArray) (w : World) (hs : s.size ≤ maxLen) :
    Calls Tryd.prog 49 #[.agg #[.int .i64 k, .string s, .int .i64 n, .int .i64 p]] w fun e w' => e = .returned (.bool (Lx.valid ⟨k, s.data.toList, n, p⟩)) ∧ Below w.heap.size w w' := by
  by_cases k1 : k = 1
  · subst k1
    rw [Lx.valid_one]
    cases hn : Lx.isName s.data.toList
    all_goals
      go_enter Tryd.func49, Tryd.ntmps49
      go_wp2_with (go_at_call 24; refine (rName _ _ hs).mono ?_; rintro e w' ⟨rfl, rfl⟩)
      go_ret
      exact ⟨ret_bool (by simp), (Below.refl _ _).alloc (Nat.le_refl _) _⟩
  by_cases k2 : k = 2
  · subst k2
    rw [Lx.valid_two, ← ByteArray.toList_eq]
    cases hn : s.toList.isEmpty
    · go_enter Tryd.func49, Tryd.ntmps49
      go_wp2_with fail
      go_ret
      exact ⟨ret_bool (by simp), (Below.refl _ _).alloc (Nat.le_refl _) _⟩
    · have hn' : s.toList = [] := by simpa using hn
      by_cases n0 : 0 ≤ n
      all_goals
        go_enter Tryd.func49, Tryd.ntmps49
        go_wp2_with fail
        go_ret
        exact ⟨ret_bool (by simp <;> omega), (Below.refl _ _).alloc (Nat.le_refl _) _⟩
  by_cases k3 : k = 3
  · subst k3
    by_cases h1 : s.size = 1
    · rw [Lx.valid_three s n p h1]
      have h1' : (s.size : Int) = 1 := by omega
      have h0 : 0 < s.size := by omega
      cases hc : Lx.sign s[0]
      all_goals
        go_enter Tryd.func49, Tryd.ntmps49
        go_wp2_with (go_at_call 45; refine (rSign _ _).mono ?_; rintro e w' ⟨rfl, rfl⟩)
        go_ret
        exact ⟨ret_bool (by simp), (Below.refl _ _).alloc (Nat.le_refl _) _⟩
    · rw [Lx.valid_three' s n p h1]
      have h1' : ((s.size : Int) == 1) = false := beq_eq_false_iff_ne.2 (by omega)
      go_enter Tryd.func49, Tryd.ntmps49
      go_wp2_with fail
      go_ret
      exact ⟨ret_bool (by simp), (Below.refl _ _).alloc (Nat.le_refl _) _⟩
  rw [Lx.valid_other k _ n p k1 k2 k3]
  have k1' : (k == 1) = false := beq_eq_false_iff_ne.2 k1
  have k2' : (k == 2) = false := beq_eq_false_iff_ne.2 k2
  have k3' : (k == 3) = false := beq_eq_false_iff_ne.2 k3
  go_enter Tryd.func49, Tryd.ntmps49
  go_wp2_with fail
  go_ret
  exact ⟨rfl, (Below.refl _ _).alloc (Nat.le_refl _) _⟩
end Go.Proofs.YtocelmjncjompaaDoor
