/- Where the tokens of a source stand, and what is between them: plain laws. No program here. -/
import Derived.Test.YtocelmjncjompaaDoorLxWord
namespace Go.Proofs.YtocelmjncjompaaDoor.Lx

/-- Is a byte part of a comment, behind this state? -/
def inCmt (cm : Bool) (c : UInt8) (r : List UInt8) : Bool := c != 10 && (cm || c == 47 && r.head? == some 47)
/-- Nothing but white space and comments; the state at the end. -/
def gap : List UInt8 → Bool → Option Bool
  | [], cm => some cm
  | c :: r, cm => if inCmt cm c r = false ∧ space c = false then none else gap r (inCmt cm c r)

inductive Places : List UInt8 → Nat → List Tok → Prop
  | done (l p cm) : gap l false = some cm → Places l p []
  | next (g rest : List UInt8) (p : Nat) (t : Tok) (ts : List Tok) : gap g false = some false → 0 < t.out.length → t.out.length ≤ 32 → valid t = true → t.pos = (p + g.length : Nat) → Places rest (p + g.length + t.out.length) ts → Places (g ++ (t.out ++ rest)) p (t :: ts)

theorem gap_space {c : UInt8} (h : space c = true) (l : List UInt8) : gap (c :: l) false = gap l false := by
  have h47 : (c == 47) = false := beq_eq_false_iff_ne.2 ((facts c).space_ h).2.1
  have hi : inCmt false c l = false := by unfold inCmt; rw [h47]; simp
  rw [gap, hi, if_neg (by rw [h]; simp)]
theorem gap_line : ∀ (x l : List UInt8), (∀ c ∈ x, c ≠ 10) → gap (x ++ 10 :: l) true = gap l false
  | [], l, _ => by
    have hi : inCmt true 10 l = false := rfl
    rw [List.nil_append, gap, hi, if_neg (by simp [show space 10 = true from rfl])]
  | c :: x, l, h => by
    have h10 : (c != 10) = true := bne_iff_ne.2 (h c (by simp))
    have hi : inCmt true c (x ++ 10 :: l) = true := by unfold inCmt; rw [h10]; simp
    rw [List.cons_append, gap, hi, if_neg (by simp), gap_line x l fun d hd => h d (List.mem_cons_of_mem _ hd)]
theorem gap_last : ∀ (x : List UInt8), (∀ c ∈ x, c ≠ 10) → gap x true = some true
  | [], _ => rfl
  | c :: x, h => by
    have h10 : (c != 10) = true := bne_iff_ne.2 (h c (by simp))
    have hi : inCmt true c x = true := by unfold inCmt; rw [h10]; simp
    rw [gap, hi, if_neg (by simp), gap_last x fun d hd => h d (List.mem_cons_of_mem _ hd)]
theorem gap_comment {c : UInt8} {r : List UInt8} (h : comment (c :: r) = true) : gap (c :: r) false = gap r true := by
  simp [comment] at h
  obtain ⟨rfl, h2⟩ := h
  have hi : inCmt false 47 r = true := by unfold inCmt; rw [h2]; rfl
  rw [gap, hi, if_neg (by simp)]
theorem comment_app2 {c d : UInt8} {x : List UInt8} (l : List UInt8) (h : comment (c :: d :: x) = true) : comment (c :: d :: x ++ l) = true := h

theorem places_gap {g l : List UInt8} {p : Nat} {ts : List Tok} (h : Places l (p + g.length) ts) (hg : ∀ l', gap (g ++ l') false = gap l' false) : Places (g ++ l) p ts := by
  cases h with
  | done _ _ cm h => exact .done _ _ cm ((hg l).trans h)
  | next g' rest _ t ts' h1 h2 h3 h4 h5 h6 =>
    have e : g ++ (g' ++ (t.out ++ rest)) = (g ++ g') ++ (t.out ++ rest) := by simp
    rw [e]
    refine .next (g ++ g') rest p t ts' ((hg g').trans h1) h2 h3 h4 (by rw [h5, List.length_append]; omega) ?_
    rw [List.length_append, ← Nat.add_assoc]
    exact h6

theorem places_lex : ∀ (n : Nat) (l : List UInt8) (p : Nat) (ts : List Tok), l.length ≤ n → lexAt l p = .ok ts → Places l p ts
  | n, [], p, ts, _, h => by
    rw [lexAt_nil] at h
    injection h with h
    subst h
    exact .done _ _ false rfl
  | 0, _ :: _, _, _, hn, _ => by simp at hn
  | n + 1, c :: r, p, ts, hn, h => by
    have hr : r.length ≤ n := by simpa using hn
    cases hsp : space c
    case true =>
      rw [lexAt_skip (step_space hsp)] at h
      have ih := places_lex n r (p + 1) ts hr h
      exact places_gap (g := [c]) ih fun l' => gap_space hsp l'
    case false =>
      cases hcm : comment (c :: r)
      case true =>
        rw [lexAt_skip (step_comment hcm)] at h
        have hl := comment_len hcm
        have hall : ∀ d ∈ (c :: r).takeWhile (· != 10), d ≠ 10 := fun d hd => by
          have := List.all_eq_true.1 (tw_all (· != 10) (c :: r)) d hd
          exact bne_iff_ne.1 this
        obtain ⟨x, hx⟩ : ∃ x, (c :: r).takeWhile (· != 10) = x := ⟨_, rfl⟩
        have hsplit : x ++ (c :: r).drop x.length = c :: r := by
          have e := List.take_append_drop ((c :: r).takeWhile (· != 10)).length (c :: r)
          rw [take_tw (· != 10) (c :: r), hx] at e
          exact e
        rw [hx] at h hl hall
        have hhead : ∀ d r', (c :: r).drop x.length = d :: r' → d = 10 := by
          intro d r' e
          have h1 := tw_app (p := (· != 10)) (a := x) (b := (c :: r).drop x.length)
          by_cases hd : d = 10
          · exact hd
          · exfalso
            have : ((c :: r).takeWhile (· != 10)).length ≥ x.length + 1 := by
              rw [← hsplit, List.takeWhile_append, if_pos (by rw [takeWhile_all (List.all_eq_true.2 fun y hy => bne_iff_ne.2 (hall y hy))])]
              rw [e, List.takeWhile_cons, if_pos (bne_iff_ne.2 hd)]
              simp
            rw [hx] at this
            omega
        match x, hx, hl, hall, hsplit, hhead, h with
        | [], _, hl, _, _, _, _ => simp at hl
        | [a], _, hl, _, _, _, _ => simp at hl
        | a :: b :: x, hx, hl, hall, hsplit, hhead, h =>
          have hab : comment (a :: b :: x) = true := by
            rw [← hsplit] at hcm
            exact hcm
          cases hrest : (c :: r).drop (a :: b :: x).length with
          | nil =>
            rw [hrest, lexAt_nil] at h
            injection h with h
            subst h
            rw [hrest, List.append_nil] at hsplit
            rw [← hsplit]
            refine .done _ _ true ?_
            rw [gap_comment hab]
            exact gap_last _ fun d hd => hall d (List.mem_cons_of_mem _ hd)
          | cons d r' =>
            have hd := hhead d r' hrest
            subst hd
            rw [hrest] at hsplit h
            rw [lexAt_skip (step_space rfl)] at h
            have hlen : r'.length ≤ n := by
              have := congrArg List.length hsplit
              simp only [List.length_append, List.length_cons] at this
              omega
            have ih := places_lex n r' _ ts hlen h
            rw [← hsplit]
            have e : (a :: b :: x) ++ 10 :: r' = ((a :: b :: x) ++ [10]) ++ r' := by simp
            rw [e]
            refine places_gap (g := (a :: b :: x) ++ [10]) (by rw [List.length_append, ← Nat.add_assoc]; exact ih) fun l' => ?_
            have e2 : (a :: b :: x) ++ [10] ++ l' = a :: (b :: x ++ 10 :: l') := by simp
            have hg := gap_comment (c := a) (r := b :: x ++ 10 :: l') (comment_app2 (10 :: l') hab)
            rw [e2, hg]
            exact gap_line _ _ fun d hd => hall d (List.mem_cons_of_mem _ hd)
      case false =>
        cases hs : step c r with
        | skip k =>
          exfalso
          unfold step at hs
          have h' : (c == 47 && r.head? == some 47) = false := hcm
          rw [hsp, h'] at hs
          simp only [Bool.false_eq_true, if_false] at hs
          repeat' split at hs
          all_goals first | cases hs | (simp only at hs; split at hs <;> cases hs)
        | err => rw [lexAt_err hs] at h; cases h
        | tok t k =>
          rw [lexAt_tok hs] at h
          obtain ⟨h1, h2, h3, h4⟩ := step_out hs
          have hk := step_tok_pos hs
          obtain ⟨h5, _, _⟩ := step_valid hs
          cases hr2 : lexAt ((c :: r).drop k) (p + k) with
          | err q => rw [hr2] at h; cases h
          | ok ts' =>
            rw [hr2] at h
            simp only [Res.cons] at h
            injection h with h
            subst h
            have ih := places_lex n _ _ ts' (by rw [List.length_drop]; simp only [List.length_cons]; omega) hr2
            have e : c :: r = [] ++ (({ t with pos := (p : Int) } : Tok).out ++ (c :: r).drop k) := by
              show c :: r = t.out ++ (c :: r).drop k
              rw [h1, List.take_append_drop]
            rw [e]
            refine .next [] _ p _ ts' rfl ?_ ?_ ?_ ?_ ?_
            · show 0 < t.out.length; omega
            · exact valid_out (t := { t with pos := (p : Int) }) h5
            · exact h5
            · simp
            · show Places _ (p + 0 + t.out.length) ts'
              rw [h2]; exact ih
theorem lex_places {l : List UInt8} {ts : List Tok} (h : lex l = .ok ts) : Places l 0 ts := places_lex _ l 0 ts (Nat.le_refl _) h
end Go.Proofs.YtocelmjncjompaaDoor.Lx
