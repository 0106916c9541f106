/- Parts of the proof, joined into one text: LxPlain, LxSpec, LxNum, LxStep, QySpec. -/
import Derived.WalkKit
import Derived.Lib.Hide
import Derived.Lib.Bytealg
import Derived.Lib.IndexLaws
import Derived.Lib.ItoaNum
import Derived.Lib.AtoiAll

namespace Go.Proofs.YtjonaidancomgaaDoor
theorem ret_bool {a b : Bool} (h : a = b) : Ending.returned (.bool a) = .returned (.bool b) := by rw [h]
theorem ret_int {k : IntKind} {a b : Int} (h : a = b) : Ending.returned (.int k a) = .returned (.int k b) := by rw [h]
end Go.Proofs.YtjonaidancomgaaDoor
namespace Go.Proofs.YtjonaidancomgaaDoor.Lx

def letter (c : UInt8) : Bool := (97 ≤ c && c ≤ 122) || (65 ≤ c && c ≤ 90)
def figure (c : UInt8) : Bool := 48 ≤ c && c ≤ 57
def space (c : UInt8) : Bool := c == 32 || c == 9 || c == 10 || c == 13
def signs : List UInt8 := [123, 125, 40, 41, 59, 44, 61, 35, 47, 60, 33, 45, 46]
def sign (c : UInt8) : Bool := signs.contains c
def part (c : UInt8) : Bool := letter c || figure c || c == 95

theorem eqb (c d : UInt8) : (c == d) = decide ((c.toNat : Int) = d.toNat) := by
  rw [Bool.eq_iff_iff]; simp [← UInt8.toNat_inj]; omega
theorem letter_iff (c : UInt8) : letter c = (decide (97 ≤ (c.toNat : Int)) && decide ((c.toNat : Int) ≤ 122) || decide (65 ≤ (c.toNat : Int)) && decide ((c.toNat : Int) ≤ 90)) := by
  rw [Bool.eq_iff_iff]; simp [letter, UInt8.le_iff_toNat_le]; omega
theorem figure_iff (c : UInt8) : figure c = (decide (48 ≤ (c.toNat : Int)) && decide ((c.toNat : Int) ≤ 57)) := by
  rw [Bool.eq_iff_iff]; simp [figure, UInt8.le_iff_toNat_le]; omega
theorem space_iff (c : UInt8) : space c = (decide ((c.toNat : Int) = 32) || decide ((c.toNat : Int) = 9) || decide ((c.toNat : Int) = 10) || decide ((c.toNat : Int) = 13)) := by
  unfold space; rw [eqb, eqb, eqb, eqb]; rfl
theorem part_iff (c : UInt8) : part c = (letter c || figure c || decide ((c.toNat : Int) = 95)) := by
  unfold part; rw [eqb]; rfl

/-- The class of a byte, as the program numbers it. -/
def cls (c : UInt8) : Int := if letter c then 2 else if figure c then 3 else if c == 95 then 5 else if space c then 1 else if sign c then 4 else 0

theorem mem_index (l : List UInt8) (c : UInt8) : l.contains c = decide (0 ≤ Lib.indexByte l c) := by
  rw [Bool.eq_iff_iff]
  simp only [List.contains_iff_mem, decide_eq_true_eq]
  have hge := Lib.indexByte_ge l c
  constructor
  · intro h
    rcases Int.lt_or_le (Lib.indexByte l c) 0 with h0 | h0
    · obtain ⟨k, hk⟩ := List.mem_iff_getElem?.1 h
      exact absurd hk (Lib.indexByte_none (by omega) k)
    · exact h0
  · intro h
    obtain ⟨o, ho⟩ := Int.eq_ofNat_of_zero_le h
    exact List.mem_of_getElem? (Lib.indexByte_some ho).1
theorem cls_eq (c : UInt8) : cls c = if (97 ≤ (c.toNat : Int) ∧ (c.toNat : Int) ≤ 122) ∨ (65 ≤ (c.toNat : Int) ∧ (c.toNat : Int) ≤ 90) then 2 else if 48 ≤ (c.toNat : Int) ∧ (c.toNat : Int) ≤ 57 then 3 else if (c.toNat : Int) = 95 then 5
    else if (c.toNat : Int) = 32 ∨ (c.toNat : Int) = 9 ∨ (c.toNat : Int) = 10 ∨ (c.toNat : Int) = 13 then 1 else if 0 ≤ Lib.indexByte [123, 125, 40, 41, 59, 44, 61, 35, 47, 60, 33, 45, 46] c then 4 else 0 := by
  unfold cls sign
  rw [letter_iff, figure_iff, space_iff, mem_index, eqb]
  simp only [Bool.or_eq_true, Bool.and_eq_true, decide_eq_true_eq, or_assoc]
  rfl

def sgBA : ByteArray := ⟨#[123, 125, 40, 41, 59, 44, 61, 35, 47, 60, 33, 45, 46]⟩
theorem sign_hit (k : Nat) (c : UInt8) (h : k < sgBA.size) (e : (((sgBA[k]'h).toNat : Int) == (c.toNat : Int)) = true) : sign c = true := by
  have hk : k < signs.length := h
  have e1 : sgBA[k]'h = signs[k] := rfl
  rw [e1] at e
  have e2 : signs[k] = c := UInt8.toNat_inj.1 (by have := eq_of_beq e; omega)
  unfold sign; rw [← e2]; simp
theorem sign_miss (k : Nat) (c : UInt8) (h : k < sgBA.size) (h0 : (signs.take k).contains c = false) (e : (((sgBA[k]'h).toNat : Int) == (c.toNat : Int)) = false) : (signs.take (k + 1)).contains c = false := by
  have hk : k < signs.length := h
  have e1 : sgBA[k]'h = signs[k] := rfl
  rw [e1] at e
  have e2 : ¬ signs[k] = c := fun h => by rw [h] at e; simp at e
  rw [List.take_succ_eq_append_getElem hk]
  simp only [List.contains_eq_mem, decide_eq_false_iff_not, List.mem_append, List.mem_singleton] at h0 ⊢
  rintro (h | h)
  · exact h0 h
  · exact e2 h.symm

/-- A name. -/
def isName (s : List UInt8) : Bool := match s with | [] => false | c :: _ => decide (s.length ≤ 32) && letter c && s.all part


theorem ba_get (s : ByteArray) (k : Nat) (h : k < s.size) : s.data.toList[k]'(by simpa using h) = s[k] := rfl
theorem ba_len (s : ByteArray) : s.data.toList.length = s.size := by simp
theorem take_snoc (s : ByteArray) (k : Nat) (h : k < s.size) : s.data.toList.take (k + 1) = s.data.toList.take k ++ [s[k]] := by
  rw [List.take_succ_eq_append_getElem (by simpa using h)]; rfl
theorem isName_eq (s : ByteArray) (h : 0 < s.size) : isName s.data.toList = (decide (s.size ≤ 32) && letter s[0] && s.data.toList.all part) := by
  have hl := ba_len s
  have h0 := ba_get s 0 h
  cases hs : s.data.toList with
  | nil => rw [hs] at hl; simp at hl; omega
  | cons c r =>
    rw [hs] at hl
    have : c = s[0] := by rw [← h0]; simp [hs]
    subst this
    simp only [isName, hl]
theorem isName_none (s : ByteArray) (h : s.size < 1) : isName s.data.toList = false := by
  have hl := ba_len s
  have : s.data.toList = [] := List.eq_nil_of_length_eq_zero (by omega)
  rw [this]; rfl
theorem isName_long (s : ByteArray) (h : 32 < s.size) : isName s.data.toList = false := by
  rw [isName_eq s (by omega), decide_eq_false (by omega)]; rfl
theorem isName_head (s : ByteArray) (h : 0 < s.size) (h1 : letter s[0] = false) : isName s.data.toList = false := by
  rw [isName_eq s h, h1]; simp
theorem isName_bad (s : ByteArray) (k : Nat) (h : k < s.size) (h1 : part s[k] = false) : isName s.data.toList = false := by
  rw [isName_eq s (by omega)]
  have : s.data.toList.all part = false := by
    rw [List.all_eq_false]
    exact ⟨s[k], by rw [← ba_get s k h]; exact List.getElem_mem _, by simp [h1]⟩
  rw [this, Bool.and_false]
theorem isName_ok (s : ByteArray) (h : 0 < s.size) (h1 : s.size ≤ 32) (h2 : letter s[0] = true) (h3 : s.data.toList.all part = true) : isName s.data.toList = true := by
  rw [isName_eq s h, h2, h3, decide_eq_true h1]; rfl
theorem all_step (s : ByteArray) (k : Nat) (h : k < s.size) (h0 : (s.data.toList.take k).all part = true) (h1 : part s[k] = true) : (s.data.toList.take (k + 1)).all part = true := by
  rw [take_snoc s k h, List.all_append, h0]; simp [h1]
theorem all_end (s : ByteArray) (h0 : (s.data.toList.take s.size).all part = true) : s.data.toList.all part = true := by
  rwa [List.take_of_length_le (by simp)] at h0
theorem part_cls (c : UInt8) : part c = (decide (cls c = 2) || decide (cls c = 3) || decide (cls c = 5)) := by
  unfold cls part
  cases letter c <;> cases figure c <;> cases hu : c == 95 <;> cases space c <;> cases sign c <;> rfl
theorem letter_cls (c : UInt8) : letter c = decide (cls c = 2) := by
  unfold cls
  cases letter c <;> cases figure c <;> cases hu : c == 95 <;> cases space c <;> cases sign c <;> rfl
end Go.Proofs.YtjonaidancomgaaDoor.Lx

namespace Go.Proofs.YtjonaidancomgaaDoor.Lx

structure Tok where
  kind : Int
  text : List UInt8
  n : Int
  pos : Int
  deriving DecidableEq

def Tok.cells (t : Tok) : List Value := [.int .i64 t.kind, .string ⟨t.text.toArray⟩, .int .i64 t.n, .int .i64 t.pos]

def decVal (acc : Nat) (l : List UInt8) : Nat := l.foldl (fun a c => 10 * a + (c.toNat - 48)) acc
def big : Nat := 1099511627776
def number (t : List UInt8) : Option Nat := if decVal 0 t ≤ big ∧ (t.length = 1 ∨ t.head? ≠ some 48) then some (decVal 0 t) else none

inductive Step where
  | skip (k : Nat)
  | tok (t : Tok) (k : Nat)
  | err

/-- What begins at the head of a rest of the source that is not empty; the token's place is left 0. -/
def step (c : UInt8) (r : List UInt8) : Step :=
  if space c then .skip 1
  else if c == 47 && r.head? == some 47 then .skip ((c :: r).takeWhile (· != 10)).length
  else if letter c then
    let t := (c :: r).takeWhile part
    if isName t then .tok ⟨1, t, 0, 0⟩ t.length else .err
  else if figure c then
    let t := (c :: r).takeWhile figure
    match number t with
    | some n => .tok ⟨2, [], n, 0⟩ t.length
    | none => .err
  else if sign c then .tok ⟨3, [c], 0, 0⟩ 1
  else .err

inductive Res where
  | ok (l : List Tok)
  | err (pos : Nat)
  deriving DecidableEq
def Res.cons (t : Tok) : Res → Res
  | .ok l => .ok (t :: l)
  | .err p => .err p
def Res.app (a : List Tok) : Res → Res
  | .ok l => .ok (a ++ l)
  | .err p => .err p

def lexN : Nat → List UInt8 → Nat → Res
  | _, [], _ => .ok []
  | 0, _ :: _, _ => .ok []
  | f + 1, c :: r, p => match step c r with
    | .skip k => lexN f ((c :: r).drop k) (p + k)
    | .tok t k => (lexN f ((c :: r).drop k) (p + k)).cons { t with pos := p }
    | .err => .err p

def lexAt (l : List UInt8) (p : Nat) : Res := lexN l.length l p
def lex (l : List UInt8) : Res := lexAt l 0

theorem takeWhile_pos {p : UInt8 → Bool} {c : UInt8} {r : List UInt8} (h : p c = true) : 1 ≤ ((c :: r).takeWhile p).length := by
  simp [h]
theorem part_of_letter {c : UInt8} (h : letter c = true) : part c = true := by simp [part, h]

theorem step_skip_pos {c : UInt8} {r : List UInt8} {k : Nat} (h : step c r = .skip k) : 1 ≤ k := by
  unfold step at h
  split at h
  · injection h with h; omega
  · split at h
    · rename_i h2
      injection h with h
      subst h
      refine takeWhile_pos ?_
      simp only [Bool.and_eq_true, beq_iff_eq] at h2
      rw [h2.1]; rfl
    · split at h
      · simp only at h; split at h <;> cases h
      · split at h
        · simp only at h; split at h <;> cases h
        · split at h <;> cases h
theorem step_tok_pos {c : UInt8} {r : List UInt8} {t : Tok} {k : Nat} (h : step c r = .tok t k) : 1 ≤ k := by
  unfold step at h
  split at h
  · cases h
  · split at h
    · cases h
    · split at h
      · rename_i h3
        simp only at h
        split at h
        · injection h with _ h
          subst h
          exact takeWhile_pos (part_of_letter h3)
        · cases h
      · split at h
        · rename_i h4
          simp only at h
          split at h
          · injection h with _ h
            subst h
            exact takeWhile_pos h4
          · cases h
        · split at h
          · injection h with _ h; omega
          · cases h

theorem lexN_fuel : ∀ (f g : Nat) (l : List UInt8) (p : Nat), l.length ≤ f → l.length ≤ g → lexN f l p = lexN g l p := by
  intro f
  induction f with
  | zero =>
    intro g l p hf _
    have : l = [] := List.eq_nil_of_length_eq_zero (by omega)
    subst this
    cases g <;> rfl
  | succ f ih =>
    intro g l p hf hg
    match l, g with
    | [], 0 => rfl
    | [], _ + 1 => rfl
    | c :: r, 0 => simp at hg
    | c :: r, g + 1 =>
      simp only [lexN]
      simp only [List.length_cons] at hf hg
      cases hs : step c r with
      | skip k =>
        have := step_skip_pos hs
        exact ih g _ _ (by simp only [List.length_drop, List.length_cons]; omega) (by simp only [List.length_drop, List.length_cons]; omega)
      | tok t k =>
        have := step_tok_pos hs
        simp only
        rw [ih g _ _ (by simp only [List.length_drop, List.length_cons]; omega) (by simp only [List.length_drop, List.length_cons]; omega)]
      | err => rfl

theorem lexAt_nil (p : Nat) : lexAt [] p = .ok [] := rfl
theorem lexAt_cons (c : UInt8) (r : List UInt8) (p : Nat) : lexAt (c :: r) p = match step c r with
    | .skip k => lexAt ((c :: r).drop k) (p + k)
    | .tok t k => (lexAt ((c :: r).drop k) (p + k)).cons { t with pos := p }
    | .err => .err p := by
  unfold lexAt
  simp only [List.length_cons, lexN]
  cases hs : step c r with
  | skip k =>
    have := step_skip_pos hs
    exact lexN_fuel _ _ _ _ (by simp only [List.length_drop, List.length_cons]; omega) (Nat.le_refl _)
  | tok t k =>
    have := step_tok_pos hs
    simp only
    rw [lexN_fuel _ _ _ _ (by simp only [List.length_drop, List.length_cons]; omega) (Nat.le_refl _)]
  | err => rfl

theorem Res.app_cons (a : List Tok) (t : Tok) (r : Res) : (r.cons t).app a = r.app (a ++ [t]) := by cases r <;> simp [Res.cons, Res.app]
theorem Res.app_nil (r : Res) : r.app [] = r := by cases r <;> simp [Res.app]

/-- A token is valid. -/
def valid (t : Tok) : Bool :=
  if t.kind = 1 then isName t.text && decide (t.n = 0)
  else if t.kind = 2 then t.text.isEmpty && decide (0 ≤ t.n) && decide (t.n ≤ 1099511627776)
  else if t.kind = 3 then (match t.text with | [c] => sign c | _ => false) && decide (t.n = 0)
  else false

/-- The text of a token. -/
def Tok.out (t : Tok) : List UInt8 := if t.kind = 2 then Lib.decDigits t.n.toNat else t.text
def joinSp : List (List UInt8) → List UInt8
  | [] => []
  | [x] => x
  | x :: y :: r => x ++ 32 :: joinSp (y :: r)
def text (l : List Tok) : Option (List UInt8) := if l.all valid then some (joinSp (l.map Tok.out)) else none
def same1 (a b : Tok) : Bool := a.kind == b.kind && a.text == b.text && a.n == b.n
def same : List Tok → List Tok → Bool
  | [], [] => true
  | a :: r, b :: s => same1 a b && same r s
  | _, _ => false
end Go.Proofs.YtjonaidancomgaaDoor.Lx

namespace Go.Proofs.YtjonaidancomgaaDoor.Lx

theorem decVal_nil (acc : Nat) : decVal acc [] = acc := List.foldl_nil
theorem decVal_cons (acc : Nat) (c : UInt8) (r : List UInt8) : decVal acc (c :: r) = decVal (10 * acc + (c.toNat - 48)) r := List.foldl_cons
theorem decVal_snoc (r : List UInt8) (acc : Nat) (c : UInt8) : decVal acc (r ++ [c]) = 10 * decVal acc r + (c.toNat - 48) := by
  unfold decVal; rw [List.foldl_append]; simp only [List.foldl_cons, List.foldl_nil]
theorem decVal_ge : ∀ (l : List UInt8) (acc : Nat), acc ≤ decVal acc l
  | [], acc => by rw [decVal_nil]; exact Nat.le_refl _
  | c :: r, acc => by
    rw [decVal_cons]
    have := decVal_ge r (10 * acc + (c.toNat - 48))
    omega
theorem figure_nat {c : UInt8} (h : figure c = true) : 48 ≤ c.toNat ∧ c.toNat ≤ 57 := by
  rw [figure_iff] at h; simp at h; omega

theorem parse_okA : ∀ (l : List UInt8) (acc : Nat), l.all figure = true → decVal acc l < 18446744073709551616 → Lib.parseUint10 acc l = .ok (decVal acc l)
  | [], acc, _, _ => by rw [decVal_nil]; rfl
  | c :: r, acc, h, hv => by
    simp only [List.all_cons, Bool.and_eq_true] at h
    obtain ⟨h1, h2⟩ := figure_nat h.1
    rw [decVal_cons] at hv ⊢
    have hge := decVal_ge r (10 * acc + (c.toNat - 48))
    have ih := parse_okA r (10 * acc + (c.toNat - 48)) h.2 hv
    rw [Lib.parseUint10, if_pos ⟨h1, h2⟩, if_neg (by omega), if_neg (by omega), Nat.mul_comm acc 10, ih]
theorem parse_bigA : ∀ (l : List UInt8) (acc : Nat), l.all figure = true → acc < 18446744073709551616 → ¬ decVal acc l < 18446744073709551616 → Lib.parseUint10 acc l = .range
  | [], acc, _, ha, hv => absurd ha (by rwa [decVal_nil] at hv)
  | c :: r, acc, h, ha, hv => by
    simp only [List.all_cons, Bool.and_eq_true] at h
    obtain ⟨h1, h2⟩ := figure_nat h.1
    rw [decVal_cons] at hv
    rw [Lib.parseUint10, if_pos ⟨h1, h2⟩]
    by_cases hb : 1844674407370955162 ≤ acc
    · rw [if_pos hb]
    · rw [if_neg hb]
      by_cases hc : 18446744073709551616 ≤ acc * 10 + (c.toNat - 48)
      · rw [if_pos hc]
      · rw [if_neg hc, Nat.mul_comm acc 10]
        exact parse_bigA r _ h.2 (by omega) hv
theorem parse_ok {l : List UInt8} (h : l.all figure = true) (hv : decVal 0 l < 18446744073709551616) : Lib.parseUint10 0 l = .ok (decVal 0 l) := parse_okA l 0 h hv
theorem parse_big {l : List UInt8} (h : l.all figure = true) (hv : ¬ decVal 0 l < 18446744073709551616) : Lib.parseUint10 0 l = .range := parse_bigA l 0 h (by omega) hv
theorem head_app {r s : List UInt8} (h : r ≠ []) : (r ++ s).head? = r.head? := by cases r <;> simp_all

theorem atoi_ok {l : List UInt8} (h : l.all figure = true) (hne : l ≠ []) (hv : decVal 0 l < 9223372036854775808) : Lib.atoiAll l = .ok (decVal 0 l : Int) := by
  match l, hne with
  | c :: r, _ =>
    have h0 := h
    simp only [List.all_cons, Bool.and_eq_true] at h0
    obtain ⟨h1, h2⟩ := figure_nat h0.1
    unfold Lib.atoiAll
    simp only
    rw [if_neg (by omega)]
    unfold Lib.parseMag
    rw [if_neg (by simp), parse_ok h (by omega)]
    simp only
    rw [if_neg (by omega), if_neg (by omega), if_neg (by omega)]
theorem atoi_big {l : List UInt8} (h : l.all figure = true) (hne : l ≠ []) (hv : ¬ decVal 0 l < 9223372036854775808) : Lib.atoiAll l = .range := by
  match l, hne with
  | c :: r, _ =>
    have h0 := h
    simp only [List.all_cons, Bool.and_eq_true] at h0
    obtain ⟨h1, h2⟩ := figure_nat h0.1
    unfold Lib.atoiAll
    simp only
    rw [if_neg (by omega)]
    unfold Lib.parseMag
    rw [if_neg (by simp)]
    by_cases hb : decVal 0 (c :: r) < 18446744073709551616
    · rw [parse_ok h hb]
      simp only
      rw [if_pos (by omega)]
    · rw [parse_big h hb]

/-- No leading zero. -/
def plain (l : List UInt8) : Prop := l.length = 1 ∨ l.head? ≠ some 48
instance (l : List UInt8) : Decidable (plain l) := by unfold plain; exact inferInstance

theorem ofNat_figure {c : UInt8} (h : figure c = true) : UInt8.ofNat (48 + (c.toNat - 48)) = c := by
  obtain ⟨h1, h2⟩ := figure_nat h
  rw [show 48 + (c.toNat - 48) = c.toNat by omega]
  simp
theorem decVal_pos {l : List UInt8} (h : l.all figure = true) (hne : l ≠ []) (hh : l.head? ≠ some 48) : 1 ≤ decVal 0 l := by
  match l, hne with
  | c :: r, _ =>
    simp only [List.all_cons, Bool.and_eq_true] at h
    obtain ⟨h1, h2⟩ := figure_nat h.1
    have : c.toNat ≠ 48 := fun e => hh (by
      rw [List.head?_cons]; congr 1; exact UInt8.toNat_inj.1 (by rw [e]; rfl))
    rw [decVal_cons]
    have := decVal_ge r (10 * 0 + (c.toNat - 48))
    omega
theorem digits_of : ∀ (n : Nat) (l : List UInt8), l.length = n → l.all figure = true → l ≠ [] → plain l → Lib.decDigits (decVal 0 l) = l := by
  intro n
  induction n with
  | zero => intro l h _ hne _; exact absurd (List.eq_nil_of_length_eq_zero h) hne
  | succ n ih =>
    intro l hl hf hne hp
    have hsn := List.dropLast_concat_getLast hne
    obtain ⟨r, c, rfl⟩ : ∃ r c, l = r ++ [c] := ⟨_, _, hsn.symm⟩
    simp only [List.all_append, List.all_cons, List.all_nil, Bool.and_true, Bool.and_eq_true] at hf
    obtain ⟨h1, h2⟩ := figure_nat hf.2
    rw [decVal_snoc]
    by_cases hr : r = []
    · subst hr
      rw [Lib.decDigits, dif_pos (by rw [decVal_nil]; omega)]
      simp only [decVal_nil, Nat.mul_zero, Nat.zero_add, List.nil_append, ofNat_figure hf.2]
    · have hlr : r.length = n := by simpa using hl
      have hh : r.head? ≠ some 48 := by
        rcases hp with hp | hp
        · exfalso
          have : 0 < r.length := List.length_pos_iff.2 hr
          simp at hp
          exact hr hp
        · rwa [head_app hr] at hp
      have hpos := decVal_pos hf.1 hr hh
      rw [Lib.decDigits, dif_neg (by omega)]
      rw [show (10 * decVal 0 r + (c.toNat - 48)) / 10 = decVal 0 r by omega, show (10 * decVal 0 r + (c.toNat - 48)) % 10 = c.toNat - 48 by omega]
      rw [ih r hlr hf.1 hr (.inr hh), ofNat_figure hf.2]

theorem dig_figure {d : Nat} (h : d < 10) : figure (UInt8.ofNat (48 + d)) = true ∧ (UInt8.ofNat (48 + d)).toNat = 48 + d := by
  have e : (UInt8.ofNat (48 + d)).toNat = 48 + d := by simp; omega
  refine ⟨?_, e⟩
  rw [figure_iff, e]; simp; omega
theorem digits_all (u : Nat) : (Lib.decDigits u).all figure = true := by
  induction u using Nat.strongRecOn with
  | _ u ih =>
    by_cases h : u < 10
    · rw [Lib.decDigits, dif_pos h, List.all_cons, (dig_figure h).1]; rfl
    · rw [Lib.decDigits, dif_neg h, List.all_append, ih (u / 10) (by omega)]
      rw [List.all_cons, (dig_figure (show u % 10 < 10 by omega)).1]; rfl
theorem digits_ne (u : Nat) : Lib.decDigits u ≠ [] := by
  rw [Lib.decDigits]; split <;> simp
theorem digits_val (u : Nat) : decVal 0 (Lib.decDigits u) = u := by
  induction u using Nat.strongRecOn with
  | _ u ih =>
    by_cases h : u < 10
    · rw [Lib.decDigits, dif_pos h]
      rw [decVal_cons, decVal_nil, (dig_figure h).2]; omega
    · rw [Lib.decDigits, dif_neg h, decVal_snoc, ih (u / 10) (by omega), (dig_figure (show u % 10 < 10 by omega)).2]; omega
theorem digits_head (u : Nat) (h : (Lib.decDigits u).head? = some 48) : u = 0 := by
  induction u using Nat.strongRecOn with
  | _ u ih =>
    by_cases hu : u < 10
    · rw [Lib.decDigits, dif_pos hu] at h
      simp only [List.head?_cons, Option.some.injEq] at h
      have := congrArg UInt8.toNat h
      rw [(dig_figure hu).2] at this
      simp at this
      exact this
    · rw [Lib.decDigits, dif_neg hu, head_app (digits_ne _)] at h
      have := ih (u / 10) (by omega) h
      omega
theorem digits_plain (u : Nat) : plain (Lib.decDigits u) := by
  by_cases h : (Lib.decDigits u).head? = some 48
  · have := digits_head u h
    subst this
    left
    rw [Lib.decDigits, dif_pos (by omega)]; rfl
  · exact .inr h
/-- The numeral of what digits spell is they themselves, just where they have no leading zero. -/
theorem digits_eq_iff {l : List UInt8} (hf : l.all figure = true) (hne : l ≠ []) : Lib.decDigits (decVal 0 l) = l ↔ plain l :=
  ⟨fun h => by rw [← h]; exact digits_plain _, fun h => digits_of _ l rfl hf hne h⟩

theorem number_some {l : List UInt8} (h1 : decVal 0 l ≤ 1099511627776) (h2 : plain l) : number l = some (decVal 0 l) := by
  unfold number; rw [if_pos ⟨h1, h2⟩]
theorem number_big {l : List UInt8} (h1 : ¬ decVal 0 l ≤ 1099511627776) : number l = none := by
  unfold number; rw [if_neg (fun h => h1 h.1)]
theorem number_zero {l : List UInt8} (h1 : ¬ plain l) : number l = none := by
  unfold number; rw [if_neg (fun h => h1 h.2)]
theorem number_val {l : List UInt8} {n : Nat} (h : number l = some n) : n = decVal 0 l ∧ n ≤ 1099511627776 ∧ plain l := by
  unfold number at h
  split at h
  · rename_i hh
    injection h with h
    subst h
    exact ⟨rfl, hh.1, hh.2⟩
  · cases h
theorem number_digits (u : Nat) (h : u ≤ 1099511627776) : number (Lib.decDigits u) = some u := by
  rw [number_some (by rw [digits_val]; exact h) (digits_plain u), digits_val]
end Go.Proofs.YtjonaidancomgaaDoor.Lx

namespace Go.Proofs.YtjonaidancomgaaDoor.Lx

theorem all_bytes (P : UInt8 → Bool) (h : (List.range 256).all (fun n => P (UInt8.ofNat n)) = true) (c : UInt8) : P c = true := by
  have := List.all_eq_true.1 h c.toNat (List.mem_range.2 c.toNat_lt)
  simpa using this

def byteFacts (c : UInt8) : Bool := (cls c == 1) == space c && (cls c == 2) == letter c && (cls c == 3) == figure c && (cls c == 4) == sign c &&
    (!(letter c) || (!(space c) && !(figure c) && !(sign c) && c != 47)) && (!(figure c) || (!(space c) && !(letter c) && !(sign c) && c != 47)) && (!(sign c) || (!(space c) && !(letter c) && !(figure c) && !(part c))) && (!(space c) || (!(part c) && c != 47 && !(sign c))) &&
    (c != 47 || sign c) && (c != 32 || space c) && (c != 10 || space c)
theorem byte_facts (c : UInt8) : byteFacts c = true := all_bytes byteFacts (by decide +kernel) c

theorem cls_range (c : UInt8) : cls c = 0 ∨ cls c = 1 ∨ cls c = 2 ∨ cls c = 3 ∨ cls c = 4 ∨ cls c = 5 := by
  unfold cls; repeat' split
  all_goals simp

structure Facts (c : UInt8) : Prop where
  c1 : (cls c == 1) = space c
  c2 : (cls c == 2) = letter c
  c3 : (cls c == 3) = figure c
  c4 : (cls c == 4) = sign c
  letter_ : letter c = true → space c = false ∧ figure c = false ∧ sign c = false ∧ c ≠ 47
  figure_ : figure c = true → space c = false ∧ letter c = false ∧ sign c = false ∧ c ≠ 47
  sign_ : sign c = true → space c = false ∧ letter c = false ∧ figure c = false ∧ part c = false
  space_ : space c = true → part c = false ∧ c ≠ 47 ∧ sign c = false
  slash : c = 47 → sign c = true
theorem facts (c : UInt8) : Facts c := by
  have h := byte_facts c
  unfold byteFacts at h
  simp only [Bool.and_eq_true, beq_iff_eq] at h
  obtain ⟨⟨⟨⟨⟨⟨⟨⟨⟨⟨h1, h2⟩, h3⟩, h4⟩, h5⟩, h6⟩, h7⟩, h8⟩, h9⟩, _⟩, _⟩ := h
  refine ⟨h1, h2, h3, h4, fun h => ?_, fun h => ?_, fun h => ?_, fun h => ?_, fun h => ?_⟩
  · rw [h] at h5; simp at h5; exact ⟨h5.1.1.1, h5.1.1.2, h5.1.2, h5.2⟩
  · rw [h] at h6; simp at h6; exact ⟨h6.1.1.1, h6.1.1.2, h6.1.2, h6.2⟩
  · rw [h] at h7; simp at h7; exact ⟨h7.1.1.1, h7.1.1.2, h7.1.2, h7.2⟩
  · rw [h] at h8; simp at h8; exact ⟨h8.1.1, h8.1.2, h8.2⟩
  · subst h; rfl

def comment (l : List UInt8) : Bool := match l with | c :: r => c == 47 && r.head? == some 47 | [] => false

theorem step_space {c : UInt8} {r : List UInt8} (h : space c = true) : step c r = .skip 1 := by unfold step; rw [h]; rfl
theorem step_comment {c : UInt8} {r : List UInt8} (h : comment (c :: r) = true) : step c r = .skip ((c :: r).takeWhile (· != 10)).length := by
  have h' : (c == 47 && r.head? == some 47) = true := h
  have hc : c = 47 := by simp at h'; exact h'.1
  have hs : space c = false := by rw [hc]; rfl
  unfold step
  rw [hs, h']; rfl
theorem not_comment {c : UInt8} {r : List UInt8} (h : c ≠ 47) : (c == 47 && r.head? == some 47) = false := by
  rw [show (c == 47) = false from beq_eq_false_iff_ne.2 h]; rfl
theorem step_letter {c : UInt8} {r : List UInt8} (h : letter c = true) :
    step c r = if isName ((c :: r).takeWhile part) then .tok ⟨1, (c :: r).takeWhile part, 0, 0⟩ ((c :: r).takeWhile part).length else .err := by
  obtain ⟨h1, _, _, h4⟩ := (facts c).letter_ h
  unfold step
  rw [h1, not_comment h4, h]; rfl
theorem step_figure {c : UInt8} {r : List UInt8} (h : figure c = true) :
    step c r = match number ((c :: r).takeWhile figure) with
      | some n => .tok ⟨2, [], n, 0⟩ ((c :: r).takeWhile figure).length
      | none => .err := by
  obtain ⟨h1, h2, _, h4⟩ := (facts c).figure_ h
  unfold step
  rw [h1, not_comment h4, h2, h]; rfl
theorem step_sign {c : UInt8} {r : List UInt8} (h : sign c = true) (hc : comment (c :: r) = false) : step c r = .tok ⟨3, [c], 0, 0⟩ 1 := by
  obtain ⟨h1, h2, h3, _⟩ := (facts c).sign_ h
  have h' : (c == 47 && r.head? == some 47) = false := hc
  unfold step
  rw [h1, h', h2, h3, h]; rfl
theorem step_err {c : UInt8} {r : List UInt8} (h1 : space c = false) (h2 : letter c = false) (h3 : figure c = false) (h4 : sign c = false) : step c r = .err := by
  have h5 : c ≠ 47 := fun e => by have := (facts c).slash e; rw [h4] at this; cases this
  unfold step
  rw [h1, not_comment h5, h2, h3, h4]; rfl

/-- A whole run of white space. -/
theorem lexAt_spaces : ∀ (l : List UInt8) (p : Nat), lexAt l p = lexAt (l.drop (l.takeWhile space).length) (p + (l.takeWhile space).length)
  | [], p => rfl
  | c :: r, p => by
    cases h : space c
    · simp [h]
    · rw [lexAt_cons, step_space h]
      simp only [List.takeWhile_cons, h, if_true, List.length_cons, List.drop_succ_cons, List.drop_zero]
      rw [lexAt_spaces r (p + 1), Nat.add_assoc, Nat.add_comm 1]
theorem lexAt_skip {c : UInt8} {r : List UInt8} {k : Nat} (h : step c r = .skip k) (p : Nat) : lexAt (c :: r) p = lexAt ((c :: r).drop k) (p + k) := by
  rw [lexAt_cons, h]
theorem lexAt_tok {c : UInt8} {r : List UInt8} {t : Tok} {k : Nat} (h : step c r = .tok t k) (p : Nat) : lexAt (c :: r) p = (lexAt ((c :: r).drop k) (p + k)).cons { t with pos := p } := by
  rw [lexAt_cons, h]
theorem lexAt_err {c : UInt8} {r : List UInt8} (h : step c r = .err) (p : Nat) : lexAt (c :: r) p = .err p := by
  rw [lexAt_cons, h]

theorem step_valid {c : UInt8} {r : List UInt8} {t : Tok} {k : Nat} (h : step c r = .tok t k) : valid t = true ∧ k ≤ (c :: r).length ∧ t.text.length ≤ 32 := by
  have hf := facts c
  cases h1 : space c
  case true => rw [step_space h1] at h; cases h
  cases h2 : comment (c :: r)
  case true => rw [step_comment h2] at h; cases h
  have twl : ∀ p : UInt8 → Bool, ((c :: r).takeWhile p).length ≤ (c :: r).length := fun p => (List.takeWhile_prefix p).length_le
  cases h3 : letter c
  case true =>
    rw [step_letter h3] at h
    split at h
    · rename_i hn
      injection h with h h'
      subst h; subst h'
      refine ⟨(show (isName _ && decide ((0 : Int) = 0)) = true by rw [hn]; rfl), twl _, ?_⟩
      have hn2 := hn
      unfold isName at hn2
      split at hn2
      · cases hn2
      · rename_i e
        simp only [Bool.and_eq_true, decide_eq_true_eq] at hn2
        simp only
        exact hn2.1.1
    · cases h
  cases h4 : figure c
  case true =>
    rw [step_figure h4] at h
    split at h
    · rename_i n hn
      injection h with h h'
      subst h; subst h'
      obtain ⟨_, hb, _⟩ := number_val hn
      exact ⟨(show (([] : List UInt8).isEmpty && decide (0 ≤ (n : Int)) && decide ((n : Int) ≤ 1099511627776)) = true by simp; omega), twl _, by simp⟩
    · cases h
  cases h5 : sign c
  case true =>
    rw [step_sign h5 h2] at h
    injection h with h h'
    subst h; subst h'
    exact ⟨(show (sign c && decide ((0 : Int) = 0)) = true by rw [h5]; rfl), by simp, by simp⟩
  rw [step_err h1 h3 h4 h5] at h
  cases h

theorem lexN_texts : ∀ (f : Nat) (l : List UInt8) (p : Nat) (ts : List Tok), lexN f l p = .ok ts → ∀ t ∈ ts, valid t = true ∧ t.text.length ≤ 32
  | _, [], p, ts, h => by
    have : ts = [] := by cases ‹Nat› <;> (simp only [lexN] at h; injection h with h; exact h.symm)
    subst this; intro t ht; simp at ht
  | 0, _ :: _, p, ts, h => by
    simp only [lexN] at h; injection h with h
    subst h; intro t ht; simp at ht
  | f + 1, c :: r, p, ts, h => by
    simp only [lexN] at h
    cases hs : step c r with
    | skip k => rw [hs] at h; exact lexN_texts f _ _ ts h
    | err => rw [hs] at h; cases h
    | tok t k =>
      rw [hs] at h
      simp only at h
      cases hr : lexN f ((c :: r).drop k) (p + k) with
      | err q => rw [hr] at h; cases h
      | ok ts' =>
        rw [hr] at h
        simp only [Res.cons] at h
        injection h with h
        subst h
        intro u hu
        rcases List.mem_cons.1 hu with rfl | hu
        · obtain ⟨h1, _, h3⟩ := step_valid hs
          exact ⟨h1, h3⟩
        · exact lexN_texts f _ _ ts' hr u hu
theorem lex_texts {l : List UInt8} {ts : List Tok} (h : lex l = .ok ts) : ∀ t ∈ ts, valid t = true ∧ t.text.length ≤ 32 := lexN_texts _ _ _ _ h

theorem tok_lex {D r : List UInt8} {c : UInt8} {a k : Nat} {t : Tok} (l : List Tok) (hd : D.drop a = c :: r) (h : step c r = .tok t k) : (lexAt (D.drop (a + k)) (a + k)).app (l ++ [{ t with pos := a }]) = (lexAt (D.drop a) a).app l := by
  rw [hd, lexAt_tok h, Res.app_cons, ← hd, List.drop_drop]
theorem skip_lex {D r : List UInt8} {c : UInt8} {a k : Nat} (l : List Tok) (hd : D.drop a = c :: r) (h : step c r = .skip k) : (lexAt (D.drop (a + k)) (a + k)).app l = (lexAt (D.drop a) a).app l := by
  rw [hd, lexAt_skip h, ← hd, List.drop_drop]
theorem spaces_lex {D : List UInt8} {a : Nat} (l : List Tok) : (lexAt (D.drop (a + ((D.drop a).takeWhile space).length)) (a + ((D.drop a).takeWhile space).length)).app l = (lexAt (D.drop a) a).app l := by
  rw [lexAt_spaces (D.drop a) a, List.drop_drop]
theorem err_lex {D r : List UInt8} {c : UInt8} {a : Nat} (l : List Tok) (hd : D.drop a = c :: r) (h : step c r = .err) : (lexAt (D.drop a) a).app l = .err a := by
  rw [hd, lexAt_err h]; rfl
end Go.Proofs.YtjonaidancomgaaDoor.Lx

namespace Go.Proofs.YtjonaidancomgaaDoor.Qy
open Lx

structure Arg where
  var : Bool
  n : Int
  deriving DecidableEq
structure Atom where
  kind : Int
  subj : Arg
  obj : Arg
  val : Arg
  term : Int
  known : Int
  deriving DecidableEq
structure Test where
  op : Int
  a : Arg
  b : Arg
  deriving DecidableEq
structure Query where
  names : List (List UInt8)
  shown : List Int
  atoms : List Atom
  tests : List Test
  deriving DecidableEq

/-- The words of the kinds: course, same, programme, system, grade, hold, rule, seat, clash, load, group, numbers. -/
def kindWords : List (List UInt8) := [[99, 111, 117, 114, 115, 101], [115, 97, 109, 101], [112, 114, 111, 103, 114, 97, 109, 109, 101], [115, 121, 115, 116, 101, 109], [103, 114, 97, 100, 101], [104, 111, 108, 100], [114, 117, 108, 101], [115, 101, 97, 116], [99, 108, 97, 115, 104], [108, 111, 97, 100], [103, 114, 111, 117, 112], [110, 117, 109, 98, 101, 114, 115]]
def kindOf (t : List UInt8) : Nat := match kindWords.findIdx? (· == t) with | some i => i + 1 | none => 0
def wShow : List UInt8 := [115, 104, 111, 119]
def wWhere : List UInt8 := [119, 104, 101, 114, 101]
def wAt : List UInt8 := [97, 116]
def wKnown : List UInt8 := [107, 110, 111, 119, 110]

/-- The parser: the tokens that are left, the names so far, the query so far. -/
structure St where
  toks : List Tok
  names : List (List UInt8)
  shown : List Int
  atoms : List Atom
  tests : List Test
  deriving DecidableEq
inductive R (α : Type) where
  | ok (a : α) (s : St)
  | bad (pos : Int) (e : Int)
  deriving DecidableEq
def R.bind {α β : Type} (r : R α) (f : α → St → R β) : R β := match r with | .ok a s => f a s | .bad p e => .bad p e

section
variable (last : Int)
def fail {α : Type} (s : St) (e : Int) : R α := .bad (match s.toks with | t :: _ => t.pos | [] => last) e
def skip (kind : Int) (text : List UInt8) (s : St) : Bool × St := match s.toks with
  | t :: r => if t.kind = kind ∧ t.text = text then (true, { s with toks := r }) else (false, s)
  | [] => (false, s)
def need (kind : Int) (text : List UInt8) (s : St) : R Unit := match skip kind text s with
  | (true, s') => .ok () s'
  | (false, s') => fail last s' 500
def word (text : List UInt8) (s : St) : R Unit := need last 1 text s
def signT (c : UInt8) (s : St) : R Unit := need last 3 [c] s
def number (most : Int) (s : St) : R Int := match s.toks with
  | t :: r => if t.kind = 2 ∧ t.n ≤ most then .ok t.n { s with toks := r } else fail last s 500
  | [] => fail last s 500
def kind (s : St) : Nat × St := match s.toks with
  | t :: r => if t.kind = 1 ∧ kindOf t.text ≠ 0 then (kindOf t.text, { s with toks := r }) else (0, s)
  | [] => (0, s)
def variable_ (fresh : Bool) (s : St) : R Int := match s.toks with
  | t :: r => if t.kind = 1 ∧ kindOf t.text = 0 then
      match s.names.findIdx? (· == t.text) with
      | some i => if fresh then fail last s 500 else .ok i { s with toks := r }
      | none => if s.names.length = 8 then fail last s 2 else .ok s.names.length { s with toks := r, names := s.names ++ [t.text] }
    else fail last s 500
  | [] => fail last s 500
def argument (s : St) : R Arg := match s.toks with
  | t :: _ => if t.kind = 2 then (number last 1099511627776 s).bind fun n s => .ok ⟨false, n⟩ s
    else (variable_ last false s).bind fun n s => .ok ⟨true, n⟩ s
  | [] => (variable_ last false s).bind fun n s => .ok ⟨true, n⟩ s
def atom (k : Int) (s : St) : R Unit :=
  (signT last 40 s).bind fun _ s => (argument last s).bind fun x s => (signT last 44 s).bind fun _ s => (argument last s).bind fun y s =>
  (signT last 41 s).bind fun _ s => (signT last 61 s).bind fun _ s => (argument last s).bind fun z s => (word last wAt s).bind fun _ s =>
  (number last 1023 s).bind fun t s => (word last wKnown s).bind fun _ s => (number last 16777216 s).bind fun kn s =>
  .ok () { s with atoms := s.atoms ++ [⟨k, x, y, z, t, kn⟩] }
def oper (s : St) : R Int := match skip 3 [60] s with
  | (true, s) => match skip 3 [61] s with
    | (true, s) => .ok (-1) s
    | (false, s) => .ok (-2) s
  | (false, s) => match skip 3 [33] s with
    | (true, s) => (signT last 61 s).bind fun _ s => .ok 1 s
    | (false, s) => (signT last 61 s).bind fun _ s => .ok 0 s
def test (s : St) : R Unit :=
  (argument last s).bind fun x s => (oper last s).bind fun o s => (argument last s).bind fun y s =>
  .ok () { s with tests := s.tests ++ [⟨o, x, y⟩] }
def showOne (s : St) : R Unit := (variable_ last true s).bind fun n s => .ok () { s with shown := s.shown ++ [n] }
def shows : Nat → St → R Unit
  | 0, s => .ok () s
  | f + 1, s => match skip 3 [44] s with
    | (true, s) => (showOne last s).bind fun _ s => shows f s
    | (false, s) => .ok () s
def cond (s : St) : R Unit := match kind s with
  | (0, s) => test last s
  | (k, s) => atom last k s
def conds : Nat → St → R Unit
  | 0, s => .ok () s
  | f + 1, s => (cond last s).bind fun _ s => match skip 3 [44] s with
    | (true, s') => if s.atoms.length + s.tests.length = 16 then fail last s 2 else conds f s'
    | (false, s) => .ok () s
def parseT (s : St) : R Unit :=
  (word last wShow s).bind fun _ s => (showOne last s).bind fun _ s => (shows last s.toks.length s).bind fun _ s => (word last wWhere s).bind fun _ s =>
  (conds last (s.toks.length + 1) s).bind fun _ s => (signT last 59 s).bind fun _ s => match s.toks with | [] => .ok () s | _ :: _ => fail last s 500
end

/-- Renumbering of variables, in order: what is shown, the atoms, the tests. -/
structure Ix where
  met : List Int
def ix (m : List Int) (n : Int) : Int × List Int := match m.findIdx? (· == n) with | some i => (i, m) | none => (m.length, m ++ [n])
def ixList : List Int → List Int → List Int × List Int
  | m, [] => ([], m)
  | m, n :: r => let (i, m) := ix m n; let (l, m) := ixList m r; (i :: l, m)
def ixArg (m : List Int) (a : Arg) : Arg × List Int := if a.var then let (i, m) := ix m a.n; (⟨true, i⟩, m) else (a, m)
def ixAtoms : List Int → List Atom → List Atom × List Int
  | m, [] => ([], m)
  | m, x :: r => let (a, m) := ixArg m x.subj; let (b, m) := ixArg m x.obj; let (c, m) := ixArg m x.val; let (l, m) := ixAtoms m r; (⟨x.kind, a, b, c, x.term, x.known⟩ :: l, m)
def ixTests : List Int → List Test → List Test × List Int
  | m, [] => ([], m)
  | m, x :: r => let (a, m) := ixArg m x.a; let (b, m) := ixArg m x.b; let (l, m) := ixTests m r; (⟨x.op, a, b⟩ :: l, m)
def renumber (s : St) : Query :=
  let (sh, m) := ixList [] s.shown
  let (at_, m) := ixAtoms m s.atoms
  let (te, m) := ixTests m s.tests
  ⟨m.map fun i => s.names.getD i.toNat [], sh, at_, te⟩
inductive Out where
  | ok (q : Query)
  | bad (pos : Int) (e : Int)
  deriving DecidableEq
def parseToks (l : List Tok) (last : Int) : Out := match parseT last ⟨l, [], [], [], []⟩ with | .ok _ s => .ok (renumber s) | .bad p e => .bad p e
def parse (src : List UInt8) : Out := if 65536 < src.length then .bad 0 2 else match lex src with | .err p => .bad p 90 | .ok l => parseToks l src.length

/-- The variables of a query, in order. -/
def Arg.vars (a : Arg) : List Int := if a.var then [a.n] else []
def Query.args (q : Query) : List Arg := (q.atoms.flatMap fun x => [x.subj, x.obj, x.val]) ++ (q.tests.flatMap fun x => [x.a, x.b])
def Query.vars (q : Query) : List Int := q.shown ++ q.args.flatMap Arg.vars
/-- Each variable is one that was met, or the next one. -/
def order (top : Int) : Int → List Int → Option Int
  | next, [] => some next
  | next, n :: r => if n < 0 ∨ next < n ∨ top ≤ n then none else order top (if n = next then next + 1 else next) r
def valid (q : Query) : Bool :=
  decide (q.names.length ≤ 8) && decide (1 ≤ q.shown.length) && decide (q.shown.length ≤ 8) && decide (1 ≤ q.atoms.length + q.tests.length) && decide (q.atoms.length + q.tests.length ≤ 16) &&
  q.names.all (fun n => isName n && kindOf n == 0) && decide q.names.Nodup && decide q.shown.Nodup &&
  q.atoms.all (fun x => decide (1 ≤ x.kind) && decide (x.kind ≤ 12) && decide (0 ≤ x.term) && decide (x.term ≤ 1023) && decide (0 ≤ x.known) && decide (x.known ≤ 16777216)) &&
  q.tests.all (fun x => decide (-2 ≤ x.op) && decide (x.op ≤ 1)) &&
  q.args.all (fun a => a.var || decide (0 ≤ a.n) && decide (a.n ≤ 1099511627776)) &&
  decide (order q.names.length 0 q.vars = some (q.names.length : Int))

/-- The tokens of a query. -/
def nameT (t : List UInt8) : Tok := ⟨1, t, 0, 0⟩
def numT (n : Int) : Tok := ⟨2, [], n, 0⟩
def sgT (c : UInt8) : Tok := ⟨3, [c], 0, 0⟩
def argT (ns : List (List UInt8)) (a : Arg) : Tok := if a.var then nameT (ns.getD a.n.toNat []) else numT a.n
def kindT (k : Int) : Tok := nameT (kindWords.getD (k - 1).toNat [])
def atomT (ns : List (List UInt8)) (x : Atom) : List Tok :=
  [kindT x.kind, sgT 40, argT ns x.subj, sgT 44, argT ns x.obj, sgT 41, sgT 61, argT ns x.val, nameT wAt, numT x.term, nameT wKnown, numT x.known]
def operT (o : Int) : List Tok := if o = -2 then [sgT 60] else if o = -1 then [sgT 60, sgT 61] else if o = 0 then [sgT 61] else [sgT 33, sgT 61]
def testT (ns : List (List UInt8)) (x : Test) : List Tok := argT ns x.a :: operT x.op ++ [argT ns x.b]
def sepT : List (List Tok) → List Tok
  | [] => []
  | [x] => x
  | x :: y :: r => x ++ sgT 44 :: sepT (y :: r)
def toksT (q : Query) : List Tok := nameT wShow :: sepT (q.shown.map fun n => [nameT (q.names.getD n.toNat [])]) ++ nameT wWhere :: sepT (q.atoms.map (atomT q.names) ++ q.tests.map (testT q.names)) ++ [sgT 59]
def print (q : Query) : Option (List UInt8) := if valid q then text (toksT q) else none
end Go.Proofs.YtjonaidancomgaaDoor.Qy
