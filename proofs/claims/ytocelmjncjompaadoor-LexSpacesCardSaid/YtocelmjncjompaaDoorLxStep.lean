/- What one step of lexing does, by the class of the byte; that tokens are valid. No program here. -/
import Derived.Test.YtocelmjncjompaaDoorLxNum
namespace Go.Proofs.YtocelmjncjompaaDoor.Lx

theorem all_bytes (P : UInt8 → Bool) (h : (List.range 256).all (fun n => P (UInt8.ofNat n)) = true) (c : UInt8) : P c = true := by
  have := List.all_eq_true.1 h c.toNat (List.mem_range.2 c.toNat_lt)
  simpa using this

def byteFacts (c : UInt8) : Bool := (cls c == 1) == space c && (cls c == 2) == letter c && (cls c == 3) == figure c && (cls c == 4) == sign c &&
    (!(letter c) || (!(space c) && !(figure c) && !(sign c) && c != 47)) && (!(figure c) || (!(space c) && !(letter c) && !(sign c) && c != 47)) && (!(sign c) || (!(space c) && !(letter c) && !(figure c) && !(part c))) && (!(space c) || (!(part c) && c != 47 && !(sign c))) &&
    (c != 47 || sign c) && (c != 32 || space c) && (c != 10 || space c)
theorem byte_facts (c : UInt8) : byteFacts c = true := all_bytes byteFacts (by decide +kernel) c

theorem cls_range (c : UInt8) : cls c = 0 ∨ cls c = 1 ∨ cls c = 2 ∨ cls c = 3 ∨ cls c = 4 ∨ cls c = 5 := by
  unfold cls; repeat' split
  all_goals simp

structure Facts (c : UInt8) : Prop where
  c1 : (cls c == 1) = space c
  c2 : (cls c == 2) = letter c
  c3 : (cls c == 3) = figure c
  c4 : (cls c == 4) = sign c
  letter_ : letter c = true → space c = false ∧ figure c = false ∧ sign c = false ∧ c ≠ 47
  figure_ : figure c = true → space c = false ∧ letter c = false ∧ sign c = false ∧ c ≠ 47
  sign_ : sign c = true → space c = false ∧ letter c = false ∧ figure c = false ∧ part c = false
  space_ : space c = true → part c = false ∧ c ≠ 47 ∧ sign c = false
  slash : c = 47 → sign c = true
theorem facts (c : UInt8) : Facts c := by
  have h := byte_facts c
  unfold byteFacts at h
  simp only [Bool.and_eq_true, beq_iff_eq] at h
  obtain ⟨⟨⟨⟨⟨⟨⟨⟨⟨⟨h1, h2⟩, h3⟩, h4⟩, h5⟩, h6⟩, h7⟩, h8⟩, h9⟩, _⟩, _⟩ := h
  refine ⟨h1, h2, h3, h4, fun h => ?_, fun h => ?_, fun h => ?_, fun h => ?_, fun h => ?_⟩
  · rw [h] at h5; simp at h5; exact ⟨h5.1.1.1, h5.1.1.2, h5.1.2, h5.2⟩
  · rw [h] at h6; simp at h6; exact ⟨h6.1.1.1, h6.1.1.2, h6.1.2, h6.2⟩
  · rw [h] at h7; simp at h7; exact ⟨h7.1.1.1, h7.1.1.2, h7.1.2, h7.2⟩
  · rw [h] at h8; simp at h8; exact ⟨h8.1.1, h8.1.2, h8.2⟩
  · subst h; rfl

def comment (l : List UInt8) : Bool := match l with | c :: r => c == 47 && r.head? == some 47 | [] => false

theorem step_space {c : UInt8} {r : List UInt8} (h : space c = true) : step c r = .skip 1 := by unfold step; rw [h]; rfl
theorem step_comment {c : UInt8} {r : List UInt8} (h : comment (c :: r) = true) : step c r = .skip ((c :: r).takeWhile (· != 10)).length := by
  have h' : (c == 47 && r.head? == some 47) = true := h
  have hc : c = 47 := by simp at h'; exact h'.1
  have hs : space c = false := by rw [hc]; rfl
  unfold step
  rw [hs, h']; rfl
theorem not_comment {c : UInt8} {r : List UInt8} (h : c ≠ 47) : (c == 47 && r.head? == some 47) = false := by
  rw [show (c == 47) = false from beq_eq_false_iff_ne.2 h]; rfl
theorem step_letter {c : UInt8} {r : List UInt8} (h : letter c = true) :
    step c r = if isName ((c :: r).takeWhile part) then .tok ⟨1, (c :: r).takeWhile part, 0, 0⟩ ((c :: r).takeWhile part).length else .err := by
  obtain ⟨h1, _, _, h4⟩ := (facts c).letter_ h
  unfold step
  rw [h1, not_comment h4, h]; rfl
theorem step_figure {c : UInt8} {r : List UInt8} (h : figure c = true) :
    step c r = match number ((c :: r).takeWhile figure) with
      | some n => .tok ⟨2, [], n, 0⟩ ((c :: r).takeWhile figure).length
      | none => .err := by
  obtain ⟨h1, h2, _, h4⟩ := (facts c).figure_ h
  unfold step
  rw [h1, not_comment h4, h2, h]; rfl
theorem step_sign {c : UInt8} {r : List UInt8} (h : sign c = true) (hc : comment (c :: r) = false) : step c r = .tok ⟨3, [c], 0, 0⟩ 1 := by
  obtain ⟨h1, h2, h3, _⟩ := (facts c).sign_ h
  have h' : (c == 47 && r.head? == some 47) = false := hc
  unfold step
  rw [h1, h', h2, h3, h]; rfl
theorem step_err {c : UInt8} {r : List UInt8} (h1 : space c = false) (h2 : letter c = false) (h3 : figure c = false) (h4 : sign c = false) : step c r = .err := by
  have h5 : c ≠ 47 := fun e => by have := (facts c).slash e; rw [h4] at this; cases this
  unfold step
  rw [h1, not_comment h5, h2, h3, h4]; rfl

/-- A whole run of white space. -/
theorem lexAt_spaces : ∀ (l : List UInt8) (p : Nat), lexAt l p = lexAt (l.drop (l.takeWhile space).length) (p + (l.takeWhile space).length)
  | [], p => rfl
  | c :: r, p => by
    cases h : space c
    · simp [h]
    · rw [lexAt_cons, step_space h]
      simp only [List.takeWhile_cons, h, if_true, List.length_cons, List.drop_succ_cons, List.drop_zero]
      rw [lexAt_spaces r (p + 1), Nat.add_assoc, Nat.add_comm 1]
theorem lexAt_skip {c : UInt8} {r : List UInt8} {k : Nat} (h : step c r = .skip k) (p : Nat) : lexAt (c :: r) p = lexAt ((c :: r).drop k) (p + k) := by
  rw [lexAt_cons, h]
theorem lexAt_tok {c : UInt8} {r : List UInt8} {t : Tok} {k : Nat} (h : step c r = .tok t k) (p : Nat) : lexAt (c :: r) p = (lexAt ((c :: r).drop k) (p + k)).cons { t with pos := p } := by
  rw [lexAt_cons, h]
theorem lexAt_err {c : UInt8} {r : List UInt8} (h : step c r = .err) (p : Nat) : lexAt (c :: r) p = .err p := by
  rw [lexAt_cons, h]

theorem step_valid {c : UInt8} {r : List UInt8} {t : Tok} {k : Nat} (h : step c r = .tok t k) : valid t = true ∧ k ≤ (c :: r).length ∧ t.text.length ≤ 32 := by
  have hf := facts c
  cases h1 : space c
  case true => rw [step_space h1] at h; cases h
  cases h2 : comment (c :: r)
  case true => rw [step_comment h2] at h; cases h
  have twl : ∀ p : UInt8 → Bool, ((c :: r).takeWhile p).length ≤ (c :: r).length := fun p => (List.takeWhile_prefix p).length_le
  cases h3 : letter c
  case true =>
    rw [step_letter h3] at h
    split at h
    · rename_i hn
      injection h with h h'
      subst h; subst h'
      refine ⟨(show (isName _ && decide ((0 : Int) = 0)) = true by rw [hn]; rfl), twl _, ?_⟩
      have hn2 := hn
      unfold isName at hn2
      split at hn2
      · cases hn2
      · rename_i e
        simp only [Bool.and_eq_true, decide_eq_true_eq] at hn2
        simp only
        exact hn2.1.1
    · cases h
  cases h4 : figure c
  case true =>
    rw [step_figure h4] at h
    split at h
    · rename_i n hn
      injection h with h h'
      subst h; subst h'
      obtain ⟨_, hb, _⟩ := number_val hn
      exact ⟨(show (([] : List UInt8).isEmpty && decide (0 ≤ (n : Int)) && decide ((n : Int) ≤ 1099511627776)) = true by simp; omega), twl _, by simp⟩
    · cases h
  cases h5 : sign c
  case true =>
    rw [step_sign h5 h2] at h
    injection h with h h'
    subst h; subst h'
    exact ⟨(show (sign c && decide ((0 : Int) = 0)) = true by rw [h5]; rfl), by simp, by simp⟩
  rw [step_err h1 h3 h4 h5] at h
  cases h

theorem lexN_texts : ∀ (f : Nat) (l : List UInt8) (p : Nat) (ts : List Tok), lexN f l p = .ok ts → ∀ t ∈ ts, valid t = true ∧ t.text.length ≤ 32
  | _, [], p, ts, h => by
    have : ts = [] := by cases ‹Nat› <;> (simp only [lexN] at h; injection h with h; exact h.symm)
    subst this; intro t ht; simp at ht
  | 0, _ :: _, p, ts, h => by
    simp only [lexN] at h; injection h with h
    subst h; intro t ht; simp at ht
  | f + 1, c :: r, p, ts, h => by
    simp only [lexN] at h
    cases hs : step c r with
    | skip k => rw [hs] at h; exact lexN_texts f _ _ ts h
    | err => rw [hs] at h; cases h
    | tok t k =>
      rw [hs] at h
      simp only at h
      cases hr : lexN f ((c :: r).drop k) (p + k) with
      | err q => rw [hr] at h; cases h
      | ok ts' =>
        rw [hr] at h
        simp only [Res.cons] at h
        injection h with h
        subst h
        intro u hu
        rcases List.mem_cons.1 hu with rfl | hu
        · obtain ⟨h1, _, h3⟩ := step_valid hs
          exact ⟨h1, h3⟩
        · exact lexN_texts f _ _ ts' hr u hu
theorem lex_texts {l : List UInt8} {ts : List Tok} (h : lex l = .ok ts) : ∀ t ∈ ts, valid t = true ∧ t.text.length ≤ 32 := lexN_texts _ _ _ _ h

theorem tok_lex {D r : List UInt8} {c : UInt8} {a k : Nat} {t : Tok} (l : List Tok) (hd : D.drop a = c :: r) (h : step c r = .tok t k) : (lexAt (D.drop (a + k)) (a + k)).app (l ++ [{ t with pos := a }]) = (lexAt (D.drop a) a).app l := by
  rw [hd, lexAt_tok h, Res.app_cons, ← hd, List.drop_drop]
theorem skip_lex {D r : List UInt8} {c : UInt8} {a k : Nat} (l : List Tok) (hd : D.drop a = c :: r) (h : step c r = .skip k) : (lexAt (D.drop (a + k)) (a + k)).app l = (lexAt (D.drop a) a).app l := by
  rw [hd, lexAt_skip h, ← hd, List.drop_drop]
theorem spaces_lex {D : List UInt8} {a : Nat} (l : List Tok) : (lexAt (D.drop (a + ((D.drop a).takeWhile space).length)) (a + ((D.drop a).takeWhile space).length)).app l = (lexAt (D.drop a) a).app l := by
  rw [lexAt_spaces (D.drop a) a, List.drop_drop]
theorem err_lex {D r : List UInt8} {c : UInt8} {a : Nat} (l : List Tok) (hd : D.drop a = c :: r) (h : step c r = .err) : (lexAt (D.drop a) a).app l = .err a := by
  rw [hd, lexAt_err h]; rfl
end Go.Proofs.YtocelmjncjompaaDoor.Lx
