/- Parts of the proof, joined into one text: LxExt. -/
import Derived.Test.YtocelmjncjompaaDoorZLxPlain

namespace Go.Proofs.YtocelmjncjompaaDoor.Lx

theorem tw_app {p : UInt8 → Bool} {a b : List UInt8} (h : (a.takeWhile p).length < a.length ∨ b.takeWhile p = [] ∨ ((a ++ b).takeWhile p).length ≤ a.length) : (a ++ b).takeWhile p = a.takeWhile p := by
  rw [List.takeWhile_append] at h ⊢
  split
  · rename_i he
    rw [if_pos he] at h
    have ha : a.takeWhile p = a := (List.takeWhile_prefix p).eq_of_length he
    rcases h with h | h | h
    · omega
    · rw [h, List.append_nil, ha]
    · rw [List.length_append] at h
      have : b.takeWhile p = [] := List.eq_nil_of_length_eq_zero (by omega)
      rw [this, List.append_nil, ha]
  · rfl

theorem step_ext {c : UInt8} {r b : List UInt8} (hc : comment (c :: (r ++ b)) = comment (c :: r))
    (h10 : comment (c :: r) = true → ((c :: r) ++ b).takeWhile (· != 10) = (c :: r).takeWhile (· != 10))
    (hp : letter c = true → ((c :: r) ++ b).takeWhile part = (c :: r).takeWhile part)
    (hf : figure c = true → ((c :: r) ++ b).takeWhile figure = (c :: r).takeWhile figure) : step c (r ++ b) = step c r := by
  cases h1 : space c
  case true => rw [step_space h1, step_space h1]
  cases h2 : comment (c :: r)
  case true => rw [step_comment h2, step_comment (hc.trans h2)]; have := h10 h2; rw [List.cons_append] at this; rw [this]
  cases h3 : letter c
  case true => rw [step_letter h3, step_letter h3]; have := hp h3; rw [List.cons_append] at this; rw [this]
  cases h4 : figure c
  case true => rw [step_figure h4, step_figure h4]; have := hf h4; rw [List.cons_append] at this; rw [this]
  cases h5 : sign c
  case true => rw [step_sign h5 h2, step_sign h5 (hc.trans h2)]
  rw [step_err h1 h3 h4 h5, step_err h1 h3 h4 h5]

theorem comment_app {c d : UInt8} {r b : List UInt8} (hd : r = [] → d ≠ 47) : comment (c :: (r ++ d :: b)) = comment (c :: r) := by
  cases r with
  | nil =>
    have : ((some d : Option UInt8) == some 47) = false := beq_eq_false_iff_ne.2 (fun h => hd rfl (by injection h))
    simp only [comment, List.nil_append, List.head?_cons, List.head?_nil, this, Bool.and_false]
    simp
  | cons x r => rfl

/-- The extent of what a step takes. -/
def Step.ext : Step → Nat
  | .skip k => k
  | .tok _ k => k
  | .err => 0

/-- A blank behind a source: what begins before the end of the source is not touched, except for a comment that has no end. -/
theorem step_blank {c d : UInt8} {r b : List UInt8} (hd : part d = false) (hd2 : d ≠ 47) (h : comment (c :: r) = true → (step c r).ext < (c :: r).length) : step c (r ++ d :: b) = step c r := by
  have hfig : figure d = false := by
    unfold part at hd
    cases hh : figure d
    · rfl
    · rw [hh] at hd; simp at hd
  refine step_ext (comment_app fun _ => hd2) (fun hc => ?_) (fun _ => tw_app (Or.inr (Or.inl ?_))) (fun _ => tw_app (Or.inr (Or.inl ?_)))
  · have := h hc
    rw [step_comment hc] at this
    exact tw_app (Or.inl this)
  · simp [hd]
  · simp [hfig]

theorem comment_len {c : UInt8} {r : List UInt8} (h : comment (c :: r) = true) : 2 ≤ ((c :: r).takeWhile (· != 10)).length := by
  match r with
  | [] => simp [comment] at h
  | d :: r =>
    simp [comment] at h
    obtain ⟨rfl, rfl⟩ := h
    simp

/-- A step within a longer source is the step within what it takes. -/
theorem step_cut {c : UInt8} {r b : List UInt8} (hn : step c (r ++ b) ≠ .err) (h : (step c (r ++ b)).ext ≤ (c :: r).length) : step c r = step c (r ++ b) := by
  cases h1 : space c
  case true => rw [step_space h1, step_space h1]
  cases h2 : comment (c :: (r ++ b))
  case true =>
    rw [step_comment h2] at h
    have h3 := comment_len h2
    simp only [Step.ext] at h
    have hr : comment (c :: r) = true := by
      cases r with
      | nil => simp only [List.length_singleton] at h; omega
      | cons x r => exact h2
    refine (step_ext (h2.trans hr.symm) (fun _ => tw_app (Or.inr (Or.inr h))) (fun hl => ?_) (fun hl => ?_)).symm
    · have := (facts c).letter_ hl; simp [comment] at h2; exact absurd h2.1 this.2.2.2
    · have := (facts c).figure_ hl; simp [comment] at h2; exact absurd h2.1 this.2.2.2
  have hr : comment (c :: r) = false := by
    cases r with
    | nil => simp [comment]
    | cons x r => exact h2
  refine (step_ext (h2.trans hr.symm) (fun hh => absurd hh (by rw [hr]; simp)) (fun hl => ?_) (fun hl => ?_)).symm
  · rw [step_letter hl] at h hn
    split at h
    · exact tw_app (Or.inr (Or.inr h))
    · rename_i hh; rw [if_neg hh] at hn; exact absurd rfl hn
  · rw [step_figure hl] at h hn
    split at h
    · exact tw_app (Or.inr (Or.inr h))
    · rename_i hh; rw [hh] at hn; exact absurd rfl hn

theorem res_cons_err {t : Tok} {R : Res} {q : Nat} (h : R.cons t = .err q) : R = .err q := by
  cases R with
  | ok l => cases h
  | err p => exact h

/-- An error: where it lies, what stands before it, what it begins with; it remains whatever follows a blank. -/
theorem err_split : ∀ (n : Nat) (l : List UInt8) (p q : Nat), l.length ≤ n → lexAt l p = .err q →
    ∃ M, q = p + M ∧ M < l.length ∧ (∃ ts, lexAt (l.take M) p = .ok ts) ∧ (∃ c r, l.drop M = c :: r ∧ step c r = .err) ∧ ∀ (d : UInt8) (more : List UInt8), part d = false → d ≠ 47 → lexAt (l ++ d :: more) p = .err q
  | n, [], p, q, hn, h => by rw [lexAt_nil] at h; cases h
  | 0, c :: r, p, q, hn, h => by simp at hn
  | n + 1, c :: r, p, q, hn, h => by
    have hn' : r.length ≤ n := by simpa using hn
    have common : ∀ k, 1 ≤ k → (step c r).ext = k → step c r ≠ .err → ∀ (q : Nat), lexAt ((c :: r).drop k) (p + k) = .err q →
        ∃ M, k ≤ M ∧ q = p + M ∧ M < (c :: r).length ∧ (∃ ts, lexAt (((c :: r).take M).drop k) (p + k) = .ok ts) ∧ step c (r.take (M - 1)) = step c r ∧ (∃ c' r', (c :: r).drop M = c' :: r' ∧ step c' r' = .err) ∧
          ∀ (d : UInt8) (more : List UInt8), part d = false → d ≠ 47 → step c (r ++ d :: more) = step c r ∧ lexAt ((c :: (r ++ d :: more)).drop k) (p + k) = .err q := by
      intro k hk he hne q hq
      have hkl : k < (c :: r).length := by
        rcases Nat.lt_or_ge k (c :: r).length with h | h
        · exact h
        · rw [List.drop_of_length_le h, lexAt_nil] at hq; cases hq
      obtain ⟨M, rfl, hM, ⟨ts, hts⟩, ⟨c', r', hcr, her⟩, hmore⟩ := err_split n _ _ _ (by simp only [List.length_drop, List.length_cons]; omega) hq
      rw [List.length_drop] at hM
      refine ⟨k + M, by omega, by omega, by omega, ⟨ts, ?_⟩, ?_, ⟨c', r', ?_, her⟩, fun d more h1 h2 => ⟨?_, ?_⟩⟩
      · rw [List.drop_take, Nat.add_sub_cancel_left]; exact hts
      · have e : r.take (k + M - 1) ++ r.drop (k + M - 1) = r := List.take_append_drop _ _
        have e1 := step_cut (c := c) (r := r.take (k + M - 1)) (b := r.drop (k + M - 1))
        rw [e] at e1
        refine e1 hne ?_
        rw [he]
        simp only [List.length_cons, List.length_take]
        simp only [List.length_cons] at hM hkl
        omega
      · rw [← hcr, List.drop_drop]
      · exact step_blank h1 h2 fun _ => by rw [he]; exact hkl
      · have e : c :: (r ++ d :: more) = (c :: r) ++ d :: more := rfl
        rw [e, List.drop_append_of_le_length (by omega)]
        exact hmore d more h1 h2
    cases hs : step c r with
    | err =>
      rw [lexAt_err hs] at h
      injection h with h
      subst h
      refine ⟨0, rfl, by simp, ⟨[], rfl⟩, ⟨c, r, rfl, hs⟩, fun d more h1 h2 => ?_⟩
      have e := step_blank (c := c) (r := r) (b := more) h1 h2 (fun hc => by rw [step_comment hc] at hs; cases hs)
      exact lexAt_err (e.trans hs) p
    | skip k =>
      rw [lexAt_skip hs] at h
      have hk := step_skip_pos hs
      obtain ⟨M, hkM, hq, hM, ⟨ts, hts⟩, hst, herr, hmore⟩ := common k hk (by rw [hs]; rfl) (by rw [hs]; exact fun h => by cases h) q h
      refine ⟨M, hq, hM, ⟨ts, ?_⟩, herr, fun d more h1 h2 => ?_⟩
      · have e : (c :: r).take M = c :: r.take (M - 1) := by
          obtain ⟨m, rfl⟩ : ∃ m, M = m + 1 := ⟨M - 1, by omega⟩
          rfl
        rw [e] at hts ⊢
        rw [lexAt_skip (hst.trans hs)]
        exact hts
      · obtain ⟨e1, e2⟩ := hmore d more h1 h2
        show lexAt (c :: (r ++ d :: more)) p = _
        rw [lexAt_skip (e1.trans hs)]
        exact e2
    | tok t k =>
      rw [lexAt_tok hs] at h
      have hk := step_tok_pos hs
      obtain ⟨M, hkM, hq, hM, ⟨ts, hts⟩, hst, herr, hmore⟩ := common k hk (by rw [hs]; rfl) (by rw [hs]; exact fun h => by cases h) q (res_cons_err h)
      refine ⟨M, hq, hM, ⟨{ t with pos := p } :: ts, ?_⟩, herr, fun d more h1 h2 => ?_⟩
      · have e : (c :: r).take M = c :: r.take (M - 1) := by
          obtain ⟨m, rfl⟩ : ∃ m, M = m + 1 := ⟨M - 1, by omega⟩
          rfl
        rw [e] at hts ⊢
        rw [lexAt_tok (hst.trans hs), hts]
        rfl
      · obtain ⟨e1, e2⟩ := hmore d more h1 h2
        show lexAt (c :: (r ++ d :: more)) p = _
        rw [lexAt_tok (e1.trans hs), e2]
        rfl

theorem lex_err {l : List UInt8} {q : Nat} (h : lex l = .err q) : q < l.length ∧ (∃ ts, lex (l.take q) = .ok ts) ∧ lex (l.drop q) = .err 0 ∧ ∀ more, lex (l ++ 32 :: more) = .err q := by
  obtain ⟨M, rfl, h1, h2, ⟨c, r, h3, h4⟩, h5⟩ := err_split _ l 0 q (Nat.le_refl _) h
  rw [Nat.zero_add] at *
  refine ⟨h1, h2, ?_, fun more => h5 32 more rfl (by decide)⟩
  rw [h3]
  exact lexAt_err h4 0
end Go.Proofs.YtocelmjncjompaaDoor.Lx
