/- Numerals: what digits spell, and that a number's numeral spells it. No program here. -/
import Derived.Test.YtocelmjncjompaaDoorLxSpec
namespace Go.Proofs.YtocelmjncjompaaDoor.Lx

theorem decVal_nil (acc : Nat) : decVal acc [] = acc := List.foldl_nil
theorem decVal_cons (acc : Nat) (c : UInt8) (r : List UInt8) : decVal acc (c :: r) = decVal (10 * acc + (c.toNat - 48)) r := List.foldl_cons
theorem decVal_snoc (r : List UInt8) (acc : Nat) (c : UInt8) : decVal acc (r ++ [c]) = 10 * decVal acc r + (c.toNat - 48) := by
  unfold decVal; rw [List.foldl_append]; simp only [List.foldl_cons, List.foldl_nil]
theorem decVal_ge : ∀ (l : List UInt8) (acc : Nat), acc ≤ decVal acc l
  | [], acc => by rw [decVal_nil]; exact Nat.le_refl _
  | c :: r, acc => by
    rw [decVal_cons]
    have := decVal_ge r (10 * acc + (c.toNat - 48))
    omega
theorem figure_nat {c : UInt8} (h : figure c = true) : 48 ≤ c.toNat ∧ c.toNat ≤ 57 := by
  rw [figure_iff] at h; simp at h; omega

theorem parse_okA : ∀ (l : List UInt8) (acc : Nat), l.all figure = true → decVal acc l < 18446744073709551616 → Lib.parseUint10 acc l = .ok (decVal acc l)
  | [], acc, _, _ => by rw [decVal_nil]; rfl
  | c :: r, acc, h, hv => by
    simp only [List.all_cons, Bool.and_eq_true] at h
    obtain ⟨h1, h2⟩ := figure_nat h.1
    rw [decVal_cons] at hv ⊢
    have hge := decVal_ge r (10 * acc + (c.toNat - 48))
    have ih := parse_okA r (10 * acc + (c.toNat - 48)) h.2 hv
    rw [Lib.parseUint10, if_pos ⟨h1, h2⟩, if_neg (by omega), if_neg (by omega), Nat.mul_comm acc 10, ih]
theorem parse_bigA : ∀ (l : List UInt8) (acc : Nat), l.all figure = true → acc < 18446744073709551616 → ¬ decVal acc l < 18446744073709551616 → Lib.parseUint10 acc l = .range
  | [], acc, _, ha, hv => absurd ha (by rwa [decVal_nil] at hv)
  | c :: r, acc, h, ha, hv => by
    simp only [List.all_cons, Bool.and_eq_true] at h
    obtain ⟨h1, h2⟩ := figure_nat h.1
    rw [decVal_cons] at hv
    rw [Lib.parseUint10, if_pos ⟨h1, h2⟩]
    by_cases hb : 1844674407370955162 ≤ acc
    · rw [if_pos hb]
    · rw [if_neg hb]
      by_cases hc : 18446744073709551616 ≤ acc * 10 + (c.toNat - 48)
      · rw [if_pos hc]
      · rw [if_neg hc, Nat.mul_comm acc 10]
        exact parse_bigA r _ h.2 (by omega) hv
theorem parse_ok {l : List UInt8} (h : l.all figure = true) (hv : decVal 0 l < 18446744073709551616) : Lib.parseUint10 0 l = .ok (decVal 0 l) := parse_okA l 0 h hv
theorem parse_big {l : List UInt8} (h : l.all figure = true) (hv : ¬ decVal 0 l < 18446744073709551616) : Lib.parseUint10 0 l = .range := parse_bigA l 0 h (by omega) hv
theorem head_app {r s : List UInt8} (h : r ≠ []) : (r ++ s).head? = r.head? := by cases r <;> simp_all

theorem atoi_ok {l : List UInt8} (h : l.all figure = true) (hne : l ≠ []) (hv : decVal 0 l < 9223372036854775808) : Lib.atoiAll l = .ok (decVal 0 l : Int) := by
  match l, hne with
  | c :: r, _ =>
    have h0 := h
    simp only [List.all_cons, Bool.and_eq_true] at h0
    obtain ⟨h1, h2⟩ := figure_nat h0.1
    unfold Lib.atoiAll
    simp only
    rw [if_neg (by omega)]
    unfold Lib.parseMag
    rw [if_neg (by simp), parse_ok h (by omega)]
    simp only
    rw [if_neg (by omega), if_neg (by omega), if_neg (by omega)]
theorem atoi_big {l : List UInt8} (h : l.all figure = true) (hne : l ≠ []) (hv : ¬ decVal 0 l < 9223372036854775808) : Lib.atoiAll l = .range := by
  match l, hne with
  | c :: r, _ =>
    have h0 := h
    simp only [List.all_cons, Bool.and_eq_true] at h0
    obtain ⟨h1, h2⟩ := figure_nat h0.1
    unfold Lib.atoiAll
    simp only
    rw [if_neg (by omega)]
    unfold Lib.parseMag
    rw [if_neg (by simp)]
    by_cases hb : decVal 0 (c :: r) < 18446744073709551616
    · rw [parse_ok h hb]
      simp only
      rw [if_pos (by omega)]
    · rw [parse_big h hb]

/-- No leading zero. -/
def plain (l : List UInt8) : Prop := l.length = 1 ∨ l.head? ≠ some 48
instance (l : List UInt8) : Decidable (plain l) := by unfold plain; exact inferInstance

theorem ofNat_figure {c : UInt8} (h : figure c = true) : UInt8.ofNat (48 + (c.toNat - 48)) = c := by
  obtain ⟨h1, h2⟩ := figure_nat h
  rw [show 48 + (c.toNat - 48) = c.toNat by omega]
  simp
theorem decVal_pos {l : List UInt8} (h : l.all figure = true) (hne : l ≠ []) (hh : l.head? ≠ some 48) : 1 ≤ decVal 0 l := by
  match l, hne with
  | c :: r, _ =>
    simp only [List.all_cons, Bool.and_eq_true] at h
    obtain ⟨h1, h2⟩ := figure_nat h.1
    have : c.toNat ≠ 48 := fun e => hh (by
      rw [List.head?_cons]; congr 1; exact UInt8.toNat_inj.1 (by rw [e]; rfl))
    rw [decVal_cons]
    have := decVal_ge r (10 * 0 + (c.toNat - 48))
    omega
theorem digits_of : ∀ (n : Nat) (l : List UInt8), l.length = n → l.all figure = true → l ≠ [] → plain l → Lib.decDigits (decVal 0 l) = l := by
  intro n
  induction n with
  | zero => intro l h _ hne _; exact absurd (List.eq_nil_of_length_eq_zero h) hne
  | succ n ih =>
    intro l hl hf hne hp
    have hsn := List.dropLast_concat_getLast hne
    obtain ⟨r, c, rfl⟩ : ∃ r c, l = r ++ [c] := ⟨_, _, hsn.symm⟩
    simp only [List.all_append, List.all_cons, List.all_nil, Bool.and_true, Bool.and_eq_true] at hf
    obtain ⟨h1, h2⟩ := figure_nat hf.2
    rw [decVal_snoc]
    by_cases hr : r = []
    · subst hr
      rw [Lib.decDigits, dif_pos (by rw [decVal_nil]; omega)]
      simp only [decVal_nil, Nat.mul_zero, Nat.zero_add, List.nil_append, ofNat_figure hf.2]
    · have hlr : r.length = n := by simpa using hl
      have hh : r.head? ≠ some 48 := by
        rcases hp with hp | hp
        · exfalso
          have : 0 < r.length := List.length_pos_iff.2 hr
          simp at hp
          exact hr hp
        · rwa [head_app hr] at hp
      have hpos := decVal_pos hf.1 hr hh
      rw [Lib.decDigits, dif_neg (by omega)]
      rw [show (10 * decVal 0 r + (c.toNat - 48)) / 10 = decVal 0 r by omega, show (10 * decVal 0 r + (c.toNat - 48)) % 10 = c.toNat - 48 by omega]
      rw [ih r hlr hf.1 hr (.inr hh), ofNat_figure hf.2]

theorem dig_figure {d : Nat} (h : d < 10) : figure (UInt8.ofNat (48 + d)) = true ∧ (UInt8.ofNat (48 + d)).toNat = 48 + d := by
  have e : (UInt8.ofNat (48 + d)).toNat = 48 + d := by simp; omega
  refine ⟨?_, e⟩
  rw [figure_iff, e]; simp; omega
theorem digits_all (u : Nat) : (Lib.decDigits u).all figure = true := by
  induction u using Nat.strongRecOn with
  | _ u ih =>
    by_cases h : u < 10
    · rw [Lib.decDigits, dif_pos h, List.all_cons, (dig_figure h).1]; rfl
    · rw [Lib.decDigits, dif_neg h, List.all_append, ih (u / 10) (by omega)]
      rw [List.all_cons, (dig_figure (show u % 10 < 10 by omega)).1]; rfl
theorem digits_ne (u : Nat) : Lib.decDigits u ≠ [] := by
  rw [Lib.decDigits]; split <;> simp
theorem digits_val (u : Nat) : decVal 0 (Lib.decDigits u) = u := by
  induction u using Nat.strongRecOn with
  | _ u ih =>
    by_cases h : u < 10
    · rw [Lib.decDigits, dif_pos h]
      rw [decVal_cons, decVal_nil, (dig_figure h).2]; omega
    · rw [Lib.decDigits, dif_neg h, decVal_snoc, ih (u / 10) (by omega), (dig_figure (show u % 10 < 10 by omega)).2]; omega
theorem digits_head (u : Nat) (h : (Lib.decDigits u).head? = some 48) : u = 0 := by
  induction u using Nat.strongRecOn with
  | _ u ih =>
    by_cases hu : u < 10
    · rw [Lib.decDigits, dif_pos hu] at h
      simp only [List.head?_cons, Option.some.injEq] at h
      have := congrArg UInt8.toNat h
      rw [(dig_figure hu).2] at this
      simp at this
      exact this
    · rw [Lib.decDigits, dif_neg hu, head_app (digits_ne _)] at h
      have := ih (u / 10) (by omega) h
      omega
theorem digits_plain (u : Nat) : plain (Lib.decDigits u) := by
  by_cases h : (Lib.decDigits u).head? = some 48
  · have := digits_head u h
    subst this
    left
    rw [Lib.decDigits, dif_pos (by omega)]; rfl
  · exact .inr h
/-- The numeral of what digits spell is they themselves, just where they have no leading zero. -/
theorem digits_eq_iff {l : List UInt8} (hf : l.all figure = true) (hne : l ≠ []) : Lib.decDigits (decVal 0 l) = l ↔ plain l :=
  ⟨fun h => by rw [← h]; exact digits_plain _, fun h => digits_of _ l rfl hf hne h⟩

theorem number_some {l : List UInt8} (h1 : decVal 0 l ≤ 1099511627776) (h2 : plain l) : number l = some (decVal 0 l) := by
  unfold number; rw [if_pos ⟨h1, h2⟩]
theorem number_big {l : List UInt8} (h1 : ¬ decVal 0 l ≤ 1099511627776) : number l = none := by
  unfold number; rw [if_neg (fun h => h1 h.1)]
theorem number_zero {l : List UInt8} (h1 : ¬ plain l) : number l = none := by
  unfold number; rw [if_neg (fun h => h1 h.2)]
theorem number_val {l : List UInt8} {n : Nat} (h : number l = some n) : n = decVal 0 l ∧ n ≤ 1099511627776 ∧ plain l := by
  unfold number at h
  split at h
  · rename_i hh
    injection h with h
    subst h
    exact ⟨rfl, hh.1, hh.2⟩
  · cases h
theorem number_digits (u : Nat) (h : u ≤ 1099511627776) : number (Lib.decDigits u) = some u := by
  rw [number_some (by rw [digits_val]; exact h) (digits_plain u), digits_val]
end Go.Proofs.YtocelmjncjompaaDoor.Lx
