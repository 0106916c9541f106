/- The specification of the layer lex in plain Lean: tokens, lexing a list of bytes, validity, texts. No program here. -/
import Derived.Test.YtocelmjncjompaaDoorLxPlain
import Derived.Lib.ItoaNum
import Derived.Lib.AtoiAll
namespace Go.Proofs.YtocelmjncjompaaDoor.Lx

structure Tok where
  kind : Int
  text : List UInt8
  n : Int
  pos : Int
  deriving DecidableEq

def Tok.cells (t : Tok) : List Value := [.int .i64 t.kind, .string ⟨t.text.toArray⟩, .int .i64 t.n, .int .i64 t.pos]

def decVal (acc : Nat) (l : List UInt8) : Nat := l.foldl (fun a c => 10 * a + (c.toNat - 48)) acc
def big : Nat := 1099511627776
def number (t : List UInt8) : Option Nat := if decVal 0 t ≤ big ∧ (t.length = 1 ∨ t.head? ≠ some 48) then some (decVal 0 t) else none

inductive Step where
  | skip (k : Nat)
  | tok (t : Tok) (k : Nat)
  | err

/-- What begins at the head of a rest of the source that is not empty; the token's place is left 0. -/
def step (c : UInt8) (r : List UInt8) : Step :=
  if space c then .skip 1
  else if c == 47 && r.head? == some 47 then .skip ((c :: r).takeWhile (· != 10)).length
  else if letter c then
    let t := (c :: r).takeWhile part
    if isName t then .tok ⟨1, t, 0, 0⟩ t.length else .err
  else if figure c then
    let t := (c :: r).takeWhile figure
    match number t with
    | some n => .tok ⟨2, [], n, 0⟩ t.length
    | none => .err
  else if sign c then .tok ⟨3, [c], 0, 0⟩ 1
  else .err

inductive Res where
  | ok (l : List Tok)
  | err (pos : Nat)
  deriving DecidableEq
def Res.cons (t : Tok) : Res → Res
  | .ok l => .ok (t :: l)
  | .err p => .err p
def Res.app (a : List Tok) : Res → Res
  | .ok l => .ok (a ++ l)
  | .err p => .err p

def lexN : Nat → List UInt8 → Nat → Res
  | _, [], _ => .ok []
  | 0, _ :: _, _ => .ok []
  | f + 1, c :: r, p => match step c r with
    | .skip k => lexN f ((c :: r).drop k) (p + k)
    | .tok t k => (lexN f ((c :: r).drop k) (p + k)).cons { t with pos := p }
    | .err => .err p

def lexAt (l : List UInt8) (p : Nat) : Res := lexN l.length l p
def lex (l : List UInt8) : Res := lexAt l 0

theorem takeWhile_pos {p : UInt8 → Bool} {c : UInt8} {r : List UInt8} (h : p c = true) : 1 ≤ ((c :: r).takeWhile p).length := by
  simp [h]
theorem part_of_letter {c : UInt8} (h : letter c = true) : part c = true := by simp [part, h]

theorem step_skip_pos {c : UInt8} {r : List UInt8} {k : Nat} (h : step c r = .skip k) : 1 ≤ k := by
  unfold step at h
  split at h
  · injection h with h; omega
  · split at h
    · rename_i h2
      injection h with h
      subst h
      refine takeWhile_pos ?_
      simp only [Bool.and_eq_true, beq_iff_eq] at h2
      rw [h2.1]; rfl
    · split at h
      · simp only at h; split at h <;> cases h
      · split at h
        · simp only at h; split at h <;> cases h
        · split at h <;> cases h
theorem step_tok_pos {c : UInt8} {r : List UInt8} {t : Tok} {k : Nat} (h : step c r = .tok t k) : 1 ≤ k := by
  unfold step at h
  split at h
  · cases h
  · split at h
    · cases h
    · split at h
      · rename_i h3
        simp only at h
        split at h
        · injection h with _ h
          subst h
          exact takeWhile_pos (part_of_letter h3)
        · cases h
      · split at h
        · rename_i h4
          simp only at h
          split at h
          · injection h with _ h
            subst h
            exact takeWhile_pos h4
          · cases h
        · split at h
          · injection h with _ h; omega
          · cases h

theorem lexN_fuel : ∀ (f g : Nat) (l : List UInt8) (p : Nat), l.length ≤ f → l.length ≤ g → lexN f l p = lexN g l p := by
  intro f
  induction f with
  | zero =>
    intro g l p hf _
    have : l = [] := List.eq_nil_of_length_eq_zero (by omega)
    subst this
    cases g <;> rfl
  | succ f ih =>
    intro g l p hf hg
    match l, g with
    | [], 0 => rfl
    | [], _ + 1 => rfl
    | c :: r, 0 => simp at hg
    | c :: r, g + 1 =>
      simp only [lexN]
      simp only [List.length_cons] at hf hg
      cases hs : step c r with
      | skip k =>
        have := step_skip_pos hs
        exact ih g _ _ (by simp only [List.length_drop, List.length_cons]; omega) (by simp only [List.length_drop, List.length_cons]; omega)
      | tok t k =>
        have := step_tok_pos hs
        simp only
        rw [ih g _ _ (by simp only [List.length_drop, List.length_cons]; omega) (by simp only [List.length_drop, List.length_cons]; omega)]
      | err => rfl

theorem lexAt_nil (p : Nat) : lexAt [] p = .ok [] := rfl
theorem lexAt_cons (c : UInt8) (r : List UInt8) (p : Nat) : lexAt (c :: r) p = match step c r with
    | .skip k => lexAt ((c :: r).drop k) (p + k)
    | .tok t k => (lexAt ((c :: r).drop k) (p + k)).cons { t with pos := p }
    | .err => .err p := by
  unfold lexAt
  simp only [List.length_cons, lexN]
  cases hs : step c r with
  | skip k =>
    have := step_skip_pos hs
    exact lexN_fuel _ _ _ _ (by simp only [List.length_drop, List.length_cons]; omega) (Nat.le_refl _)
  | tok t k =>
    have := step_tok_pos hs
    simp only
    rw [lexN_fuel _ _ _ _ (by simp only [List.length_drop, List.length_cons]; omega) (Nat.le_refl _)]
  | err => rfl

theorem Res.app_cons (a : List Tok) (t : Tok) (r : Res) : (r.cons t).app a = r.app (a ++ [t]) := by cases r <;> simp [Res.cons, Res.app]
theorem Res.app_nil (r : Res) : r.app [] = r := by cases r <;> simp [Res.app]

/-- A token is valid. -/
def valid (t : Tok) : Bool :=
  if t.kind = 1 then isName t.text && decide (t.n = 0)
  else if t.kind = 2 then t.text.isEmpty && decide (0 ≤ t.n) && decide (t.n ≤ 1099511627776)
  else if t.kind = 3 then (match t.text with | [c] => sign c | _ => false) && decide (t.n = 0)
  else false

/-- The text of a token. -/
def Tok.out (t : Tok) : List UInt8 := if t.kind = 2 then Lib.decDigits t.n.toNat else t.text
def joinSp : List (List UInt8) → List UInt8
  | [] => []
  | [x] => x
  | x :: y :: r => x ++ 32 :: joinSp (y :: r)
def text (l : List Tok) : Option (List UInt8) := if l.all valid then some (joinSp (l.map Tok.out)) else none
def same1 (a b : Tok) : Bool := a.kind == b.kind && a.text == b.text && a.n == b.n
def same : List Tok → List Tok → Bool
  | [], [] => true
  | a :: r, b :: s => same1 a b && same r s
  | _, _ => false
end Go.Proofs.YtocelmjncjompaaDoor.Lx
