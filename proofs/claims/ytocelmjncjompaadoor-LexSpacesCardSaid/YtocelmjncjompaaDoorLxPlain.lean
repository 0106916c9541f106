/- Plain words about bytes for the layer lex: classes of bytes, names. No program here. -/
import Derived.WalkKit
import Derived.Lib.Hide
import Derived.Lib.Bytealg
import Derived.Lib.IndexLaws
namespace Go.Proofs.YtocelmjncjompaaDoor
theorem ret_bool {a b : Bool} (h : a = b) : Ending.returned (.bool a) = .returned (.bool b) := by rw [h]
theorem ret_int {k : IntKind} {a b : Int} (h : a = b) : Ending.returned (.int k a) = .returned (.int k b) := by rw [h]
end Go.Proofs.YtocelmjncjompaaDoor
namespace Go.Proofs.YtocelmjncjompaaDoor.Lx

def letter (c : UInt8) : Bool := (97 ≤ c && c ≤ 122) || (65 ≤ c && c ≤ 90)
def figure (c : UInt8) : Bool := 48 ≤ c && c ≤ 57
def space (c : UInt8) : Bool := c == 32 || c == 9 || c == 10 || c == 13
def signs : List UInt8 := [123, 125, 40, 41, 59, 44, 61, 35, 47, 60, 33, 45, 46]
def sign (c : UInt8) : Bool := signs.contains c
def part (c : UInt8) : Bool := letter c || figure c || c == 95

theorem eqb (c d : UInt8) : (c == d) = decide ((c.toNat : Int) = d.toNat) := by
  rw [Bool.eq_iff_iff]; simp [← UInt8.toNat_inj]; omega
theorem letter_iff (c : UInt8) : letter c = (decide (97 ≤ (c.toNat : Int)) && decide ((c.toNat : Int) ≤ 122) || decide (65 ≤ (c.toNat : Int)) && decide ((c.toNat : Int) ≤ 90)) := by
  rw [Bool.eq_iff_iff]; simp [letter, UInt8.le_iff_toNat_le]; omega
theorem figure_iff (c : UInt8) : figure c = (decide (48 ≤ (c.toNat : Int)) && decide ((c.toNat : Int) ≤ 57)) := by
  rw [Bool.eq_iff_iff]; simp [figure, UInt8.le_iff_toNat_le]; omega
theorem space_iff (c : UInt8) : space c = (decide ((c.toNat : Int) = 32) || decide ((c.toNat : Int) = 9) || decide ((c.toNat : Int) = 10) || decide ((c.toNat : Int) = 13)) := by
  unfold space; rw [eqb, eqb, eqb, eqb]; rfl
theorem part_iff (c : UInt8) : part c = (letter c || figure c || decide ((c.toNat : Int) = 95)) := by
  unfold part; rw [eqb]; rfl

/-- The class of a byte, as the program numbers it. -/
def cls (c : UInt8) : Int := if letter c then 2 else if figure c then 3 else if c == 95 then 5 else if space c then 1 else if sign c then 4 else 0

theorem mem_index (l : List UInt8) (c : UInt8) : l.contains c = decide (0 ≤ Lib.indexByte l c) := by
  rw [Bool.eq_iff_iff]
  simp only [List.contains_iff_mem, decide_eq_true_eq]
  have hge := Lib.indexByte_ge l c
  constructor
  · intro h
    rcases Int.lt_or_le (Lib.indexByte l c) 0 with h0 | h0
    · obtain ⟨k, hk⟩ := List.mem_iff_getElem?.1 h
      exact absurd hk (Lib.indexByte_none (by omega) k)
    · exact h0
  · intro h
    obtain ⟨o, ho⟩ := Int.eq_ofNat_of_zero_le h
    exact List.mem_of_getElem? (Lib.indexByte_some ho).1
theorem cls_eq (c : UInt8) : cls c = if (97 ≤ (c.toNat : Int) ∧ (c.toNat : Int) ≤ 122) ∨ (65 ≤ (c.toNat : Int) ∧ (c.toNat : Int) ≤ 90) then 2 else if 48 ≤ (c.toNat : Int) ∧ (c.toNat : Int) ≤ 57 then 3 else if (c.toNat : Int) = 95 then 5
    else if (c.toNat : Int) = 32 ∨ (c.toNat : Int) = 9 ∨ (c.toNat : Int) = 10 ∨ (c.toNat : Int) = 13 then 1 else if 0 ≤ Lib.indexByte [123, 125, 40, 41, 59, 44, 61, 35, 47, 60, 33, 45, 46] c then 4 else 0 := by
  unfold cls sign
  rw [letter_iff, figure_iff, space_iff, mem_index, eqb]
  simp only [Bool.or_eq_true, Bool.and_eq_true, decide_eq_true_eq, or_assoc]
  rfl

def sgBA : ByteArray := ⟨#[123, 125, 40, 41, 59, 44, 61, 35, 47, 60, 33, 45, 46]⟩
theorem sign_hit (k : Nat) (c : UInt8) (h : k < sgBA.size) (e : (((sgBA[k]'h).toNat : Int) == (c.toNat : Int)) = true) : sign c = true := by
  have hk : k < signs.length := h
  have e1 : sgBA[k]'h = signs[k] := rfl
  rw [e1] at e
  have e2 : signs[k] = c := UInt8.toNat_inj.1 (by have := eq_of_beq e; omega)
  unfold sign; rw [← e2]; simp
theorem sign_miss (k : Nat) (c : UInt8) (h : k < sgBA.size) (h0 : (signs.take k).contains c = false) (e : (((sgBA[k]'h).toNat : Int) == (c.toNat : Int)) = false) : (signs.take (k + 1)).contains c = false := by
  have hk : k < signs.length := h
  have e1 : sgBA[k]'h = signs[k] := rfl
  rw [e1] at e
  have e2 : ¬ signs[k] = c := fun h => by rw [h] at e; simp at e
  rw [List.take_succ_eq_append_getElem hk]
  simp only [List.contains_eq_mem, decide_eq_false_iff_not, List.mem_append, List.mem_singleton] at h0 ⊢
  rintro (h | h)
  · exact h0 h
  · exact e2 h.symm

/-- A name. -/
def isName (s : List UInt8) : Bool := match s with | [] => false | c :: _ => decide (s.length ≤ 32) && letter c && s.all part


theorem ba_get (s : ByteArray) (k : Nat) (h : k < s.size) : s.data.toList[k]'(by simpa using h) = s[k] := rfl
theorem ba_len (s : ByteArray) : s.data.toList.length = s.size := by simp
theorem take_snoc (s : ByteArray) (k : Nat) (h : k < s.size) : s.data.toList.take (k + 1) = s.data.toList.take k ++ [s[k]] := by
  rw [List.take_succ_eq_append_getElem (by simpa using h)]; rfl
theorem isName_eq (s : ByteArray) (h : 0 < s.size) : isName s.data.toList = (decide (s.size ≤ 32) && letter s[0] && s.data.toList.all part) := by
  have hl := ba_len s
  have h0 := ba_get s 0 h
  cases hs : s.data.toList with
  | nil => rw [hs] at hl; simp at hl; omega
  | cons c r =>
    rw [hs] at hl
    have : c = s[0] := by rw [← h0]; simp [hs]
    subst this
    simp only [isName, hl]
theorem isName_none (s : ByteArray) (h : s.size < 1) : isName s.data.toList = false := by
  have hl := ba_len s
  have : s.data.toList = [] := List.eq_nil_of_length_eq_zero (by omega)
  rw [this]; rfl
theorem isName_long (s : ByteArray) (h : 32 < s.size) : isName s.data.toList = false := by
  rw [isName_eq s (by omega), decide_eq_false (by omega)]; rfl
theorem isName_head (s : ByteArray) (h : 0 < s.size) (h1 : letter s[0] = false) : isName s.data.toList = false := by
  rw [isName_eq s h, h1]; simp
theorem isName_bad (s : ByteArray) (k : Nat) (h : k < s.size) (h1 : part s[k] = false) : isName s.data.toList = false := by
  rw [isName_eq s (by omega)]
  have : s.data.toList.all part = false := by
    rw [List.all_eq_false]
    exact ⟨s[k], by rw [← ba_get s k h]; exact List.getElem_mem _, by simp [h1]⟩
  rw [this, Bool.and_false]
theorem isName_ok (s : ByteArray) (h : 0 < s.size) (h1 : s.size ≤ 32) (h2 : letter s[0] = true) (h3 : s.data.toList.all part = true) : isName s.data.toList = true := by
  rw [isName_eq s h, h2, h3, decide_eq_true h1]; rfl
theorem all_step (s : ByteArray) (k : Nat) (h : k < s.size) (h0 : (s.data.toList.take k).all part = true) (h1 : part s[k] = true) : (s.data.toList.take (k + 1)).all part = true := by
  rw [take_snoc s k h, List.all_append, h0]; simp [h1]
theorem all_end (s : ByteArray) (h0 : (s.data.toList.take s.size).all part = true) : s.data.toList.all part = true := by
  rwa [List.take_of_length_le (by simp)] at h0
theorem part_cls (c : UInt8) : part c = (decide (cls c = 2) || decide (cls c = 3) || decide (cls c = 5)) := by
  unfold cls part
  cases letter c <;> cases figure c <;> cases hu : c == 95 <;> cases space c <;> cases sign c <;> rfl
theorem letter_cls (c : UInt8) : letter c = decide (cls c = 2) := by
  unfold cls
  cases letter c <;> cases figure c <;> cases hu : c == 95 <;> cases space c <;> cases sign c <;> rfl
end Go.Proofs.YtocelmjncjompaaDoor.Lx
