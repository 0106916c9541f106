/- Parts of the proof, joined into one text: LxTake, QyCut, QyCutB. -/
import Derived.Test.YtocelmjncjompaaDoorZLxWord
import Derived.Test.YtocelmjncjompaaDoorZQySane

namespace Go.Proofs.YtocelmjncjompaaDoor.Lx

theorem tw_take (p : UInt8 → Bool) : ∀ (l : List UInt8) (m : Nat), (l.takeWhile p).length ≤ m → (l.take m).takeWhile p = l.takeWhile p
  | [], m, _ => by simp
  | c :: r, 0, h => by
    cases hp : p c with
    | true => simp [hp] at h
    | false => simp [hp]
  | c :: r, m + 1, h => by
    cases hp : p c with
    | true =>
      simp only [List.takeWhile_cons, hp, if_true, List.length_cons, List.take_succ_cons] at h ⊢
      rw [tw_take p r m (by omega)]
    | false => simp [hp]
theorem comment_len2 {c : UInt8} {r : List UInt8} (h : comment (c :: r) = true) : 2 ≤ ((c :: r).takeWhile (· != 10)).length := by
  simp [comment] at h
  obtain ⟨rfl, h2⟩ := h
  cases r with
  | nil => simp at h2
  | cons d r => simp at h2; subst h2; simp [show ((47 : UInt8) != 10) = true from rfl]
theorem comment_take {c : UInt8} {r : List UInt8} {m : Nat} (hm : 1 ≤ m) : comment (c :: r.take m) = comment (c :: r) := by
  unfold comment
  cases r with
  | nil => simp
  | cons d r =>
    obtain ⟨k, rfl⟩ : ∃ k, m = k + 1 := ⟨m - 1, by omega⟩
    simp
theorem comment_take_false {c : UInt8} {r : List UInt8} (m : Nat) (h : comment (c :: r) = false) : comment (c :: r.take m) = false := by
  rcases Nat.eq_zero_or_pos m with rfl | hm
  · simp [comment]
  · rw [comment_take hm]; exact h
theorem step_take_skip {c : UInt8} {r : List UInt8} {k m : Nat} (h : step c r = .skip k) (hk : k ≤ m + 1) : step c (r.take m) = .skip k := by
  cases h1 : space c
  case true => rw [step_space h1] at h ⊢; exact h
  cases h2 : comment (c :: r)
  case true =>
    rw [step_comment h2] at h
    injection h with h
    have h3 := comment_len2 h2
    have h4 : comment (c :: r.take m) = true := by rw [comment_take (by omega)]; exact h2
    rw [step_comment h4, show c :: r.take m = (c :: r).take (m + 1) from rfl, tw_take _ _ _ (by omega), h]
  cases h3 : letter c
  case true => rw [step_letter h3] at h; split at h <;> cases h
  cases h4 : figure c
  case true => rw [step_figure h4] at h; split at h <;> cases h
  cases h5 : sign c
  case true => rw [step_sign h5 h2] at h; cases h
  rw [step_err h1 h3 h4 h5] at h
  cases h
theorem step_take_tok {c : UInt8} {r : List UInt8} {t : Tok} {k m : Nat} (h : step c r = .tok t k) (hk : k ≤ m + 1) : step c (r.take m) = .tok t k := by
  cases h1 : space c
  case true => rw [step_space h1] at h; cases h
  cases h2 : comment (c :: r)
  case true => rw [step_comment h2] at h; cases h
  cases h3 : letter c
  case true =>
    rw [step_letter h3] at h
    rw [step_letter h3, show c :: r.take m = (c :: r).take (m + 1) from rfl]
    split at h
    · rename_i hn
      injection h with h h'
      rw [tw_take _ _ _ (by omega), if_pos hn, h, h']
    · cases h
  cases h4 : figure c
  case true =>
    rw [step_figure h4] at h
    rw [step_figure h4, show c :: r.take m = (c :: r).take (m + 1) from rfl]
    split at h
    · rename_i n hn
      injection h with h h'
      rw [tw_take _ _ _ (by omega), hn]
      simp only
      rw [h, h']
    · cases h
  cases h5 : sign c
  case true =>
    rw [step_sign h5 h2] at h
    rw [step_sign h5 (comment_take_false m h2)]
    exact h
  rw [step_err h1 h3 h4 h5] at h
  cases h
theorem step_skip_len {c : UInt8} {r : List UInt8} {k : Nat} (h : step c r = .skip k) : k ≤ (c :: r).length := by
  cases h1 : space c
  case true => rw [step_space h1] at h; injection h with h; subst h; simp
  cases h2 : comment (c :: r)
  case true =>
    rw [step_comment h2] at h
    injection h with h
    rw [← h]
    exact (List.takeWhile_prefix _).length_le
  cases h3 : letter c
  case true => rw [step_letter h3] at h; split at h <;> cases h
  cases h4 : figure c
  case true => rw [step_figure h4] at h; split at h <;> cases h
  cases h5 : sign c
  case true => rw [step_sign h5 h2] at h; cases h
  rw [step_err h1 h3 h4 h5] at h
  cases h
/-- Where the tokens stand. -/
theorem lexAt_pos : ∀ (n : Nat) (l : List UInt8) (p : Nat) (ts : List Tok), l.length ≤ n → lexAt l p = .ok ts → ∀ t ∈ ts, ∃ j : Nat, t.pos = (j : Int) ∧ p ≤ j ∧ j < p + l.length
  | n, [], p, ts, _, h => by
    rw [lexAt_nil] at h
    injection h with h
    subst h
    intro t ht; simp at ht
  | 0, _ :: _, _, _, hn, _ => by simp at hn
  | n + 1, c :: r, p, ts, hn, h => by
    have hr : r.length ≤ n := by simpa using hn
    cases hs : step c r with
    | err => rw [lexAt_err hs] at h; cases h
    | skip k =>
      rw [lexAt_skip hs] at h
      have h1 := step_skip_pos hs; have h2 := step_skip_len hs
      intro t ht
      obtain ⟨j, e, a, b⟩ := lexAt_pos n _ _ ts (by rw [List.length_drop, List.length_cons]; omega) h t ht
      rw [List.length_drop] at b
      exact ⟨j, e, by omega, by omega⟩
    | tok t0 k =>
      rw [lexAt_tok hs] at h
      have h1 := step_tok_pos hs; have h2 := (step_valid hs).2.1
      cases hx : lexAt ((c :: r).drop k) (p + k) with
      | err q => rw [hx] at h; cases h
      | ok ts' =>
        rw [hx] at h
        simp only [Res.cons] at h
        injection h with h
        subst h
        intro t ht
        rcases List.mem_cons.1 ht with rfl | ht
        · exact ⟨p, rfl, Nat.le_refl _, by simp⟩
        · obtain ⟨j, e, a, b⟩ := lexAt_pos n _ _ ts' (by rw [List.length_drop, List.length_cons]; omega) hx t ht
          rw [List.length_drop] at b
          exact ⟨j, e, by omega, by omega⟩
theorem take_drop_split (l : List UInt8) (k m : Nat) (h : k ≤ m) : (l.take m).drop k = (l.drop k).take (m - k) := by
  rw [List.drop_take]
theorem lexAt_take : ∀ (n : Nat) (l : List UInt8) (p : Nat) (a : List Tok) (t : Tok) (b : List Tok) (j : Nat), l.length ≤ n → lexAt l p = .ok (a ++ t :: b) → t.pos = (j : Int) → lexAt (l.take (j - p)) p = .ok a
  | n, [], p, a, t, b, j, _, h, _ => by
    rw [lexAt_nil] at h
    injection h with h
    cases a <;> simp at h
  | 0, _ :: _, _, _, _, _, _, hn, _, _ => by simp at hn
  | n + 1, c :: r, p, a, t, b, j, hn, h, hj => by
    have hr : r.length ≤ n := by simpa using hn
    obtain ⟨j', e', hj1, hj2⟩ := lexAt_pos _ _ _ _ (Nat.le_refl _) h t (by simp)
    obtain rfl : j = j' := by omega
    cases hs : step c r with
    | err => rw [lexAt_err hs] at h; cases h
    | skip k =>
      rw [lexAt_skip hs] at h
      have h1 := step_skip_pos hs; have h2 := step_skip_len hs
      obtain ⟨j'', e'', hj3, hj4⟩ := lexAt_pos _ _ _ _ (Nat.le_refl _) h t (by simp)
      obtain rfl : j = j'' := by omega
      have ih := lexAt_take n _ _ a t b j (by rw [List.length_drop, List.length_cons]; omega) h hj
      obtain ⟨m, hm⟩ : ∃ m, j - p = m + 1 := ⟨j - p - 1, by omega⟩
      have hs' := step_take_skip (m := m) hs (by omega)
      rw [hm, List.take_succ_cons, lexAt_skip hs', show c :: r.take m = (c :: r).take (m + 1) from rfl, take_drop_split _ _ _ (by omega), show m + 1 - k = j - (p + k) by omega]
      exact ih
    | tok t0 k =>
      rw [lexAt_tok hs] at h
      have h1 := step_tok_pos hs; have h2 := (step_valid hs).2.1
      cases hx : lexAt ((c :: r).drop k) (p + k) with
      | err q => rw [hx] at h; cases h
      | ok ts' =>
        rw [hx] at h
        simp only [Res.cons] at h
        injection h with h
        cases a with
        | nil =>
          simp only [List.nil_append, List.cons.injEq] at h
          obtain ⟨h, _⟩ := h
          rw [← h] at hj
          have : j = p := by simp at hj; omega
          subst this
          rw [Nat.sub_self, List.take_zero]
          rfl
        | cons a0 a' =>
          simp only [List.cons_append, List.cons.injEq] at h
          obtain ⟨h3, h4⟩ := h
          subst h4
          obtain ⟨j'', e'', hj3, hj4⟩ := lexAt_pos _ _ _ _ (Nat.le_refl _) hx t (by simp)
          obtain rfl : j = j'' := by omega
          have ih := lexAt_take n _ _ a' t b j (by rw [List.length_drop, List.length_cons]; omega) hx hj
          obtain ⟨m, hm⟩ : ∃ m, j - p = m + 1 := ⟨j - p - 1, by omega⟩
          have hs' := step_take_tok (m := m) hs (by omega)
          rw [hm, List.take_succ_cons, lexAt_tok hs', show c :: r.take m = (c :: r).take (m + 1) from rfl, take_drop_split _ _ _ (by omega), show m + 1 - k = j - (p + k) by omega, ih]
          simp only [Res.cons]
          rw [h3]
theorem lex_take {l : List UInt8} {a : List Tok} {t : Tok} {b : List Tok} {j : Nat} (h : lex l = .ok (a ++ t :: b)) (hj : t.pos = (j : Int)) : lex (l.take j) = .ok a ∧ j < l.length := by
  obtain ⟨j', e', _, h2⟩ := lexAt_pos _ _ _ _ (Nat.le_refl _) h t (by simp)
  have := lexAt_take _ _ _ a t b j (Nat.le_refl _) h hj
  exact ⟨this, by omega⟩
end Go.Proofs.YtocelmjncjompaaDoor.Lx

namespace Go.Proofs.YtocelmjncjompaaDoor.Qy
open Lx

def posOf (last : Int) : List Lx.Tok → Int
  | t :: _ => t.pos
  | [] => last
def St.at (s : St) (l : List Lx.Tok) : St := { s with toks := l }
theorem St.at_self (s : St) : s.at s.toks = s := rfl
theorem St.at_at (s : St) (a b : List Lx.Tok) : (s.at a).at b = s.at b := rfl
/-- A run ends at the end of the tokens. -/
def Ends {α : Type} (last : Int) (r : R α) : Prop := r = .bad last 500 ∨ ∃ x s, r = .ok x s ∧ s.toks = []
/-- How a parser answers to cut tokens. -/
structure Cuts {α : Type} (F : Int → St → R α) : Prop where
  ok : ∀ last s x s1, F last s = .ok x s1 → ∃ a, s.toks = a ++ s1.toks ∧ ∀ last' d b, s1.toks = d ++ b → F last' (s.at (a ++ d)) = .ok x (s1.at d)
  bad : ∀ last s p e, F last s = .bad p e → ∃ a b, s.toks = a ++ b ∧ p = posOf last b ∧ (e = 500 ∨ e = 2 ∧ b ≠ []) ∧ ∀ last', Ends last' (F last' (s.at a))
  nil : ∀ last s, s.toks = [] → Ends last (F last s)
theorem Cuts.bind {α β : Type} {F : Int → St → R α} {G : Int → α → St → R β} (hF : Cuts F) (hG : ∀ x, Cuts fun last s => G last x s) : Cuts fun last s => (F last s).bind (G last) where
  ok := fun last s x s1 h => by
    cases hr : F last s with
    | bad p e => rw [hr] at h; cases h
    | ok y s2 =>
      rw [hr] at h
      obtain ⟨a1, e1, k1⟩ := hF.ok last s y s2 hr
      obtain ⟨a2, e2, k2⟩ := (hG y).ok last s2 x s1 h
      refine ⟨a1 ++ a2, by rw [e1, e2, List.append_assoc], fun last' d b hd => ?_⟩
      have h1 := k1 last' (a2 ++ d) b (by rw [e2, hd, List.append_assoc])
      have h2 := k2 last' d b hd
      show (F last' (s.at (a1 ++ a2 ++ d))).bind (G last') = _
      rw [List.append_assoc, h1]
      exact h2
  bad := fun last s p e h => by
    cases hr : F last s with
    | bad p' e' =>
      rw [hr] at h
      have h' : (R.bad p' e' : R β) = .bad p e := h
      injection h' with h1 h2
      subst h1; subst h2
      obtain ⟨a, b, k1, k2, k3, k4⟩ := hF.bad last s _ _ hr
      refine ⟨a, b, k1, k2, k3, fun last' => ?_⟩
      show Ends last' ((F last' (s.at a)).bind (G last'))
      rcases k4 last' with h5 | ⟨x, s', h5, h6⟩
      · rw [h5]; exact .inl rfl
      · rw [h5]; exact (hG x).nil last' s' h6
    | ok y s2 =>
      rw [hr] at h
      obtain ⟨a1, e1, k1⟩ := hF.ok last s y s2 hr
      obtain ⟨a, b, k2, k3, k4, k5⟩ := (hG y).bad last s2 p e h
      refine ⟨a1 ++ a, b, by rw [e1, k2, List.append_assoc], k3, k4, fun last' => ?_⟩
      show Ends last' ((F last' (s.at (a1 ++ a))).bind (G last'))
      rw [k1 last' a b k2]
      exact k5 last'
  nil := fun last s h => by
    show Ends last ((F last s).bind (G last))
    rcases hF.nil last s h with h5 | ⟨x, s', h5, h6⟩
    · rw [h5]; exact .inl rfl
    · rw [h5]; exact (hG x).nil last s' h6
/-- What changes all but the tokens. -/
theorem Cuts.pure {α : Type} (x : α) (g : St → St) (hg : ∀ s l, g (s.at l) = (g s).at l) : Cuts fun _ s => R.ok x (g s) where
  ok := fun last s y s1 h => by
    injection h with h1 h2
    subst h1; subst h2
    have ht : (g s).toks = s.toks := by
      have := hg s s.toks
      rw [St.at_self] at this
      rw [this]; rfl
    exact ⟨[], by rw [ht]; rfl, fun last' d b hd => by rw [List.nil_append, hg]⟩
  bad := fun last s p e h => by cases h
  nil := fun last s h => .inr ⟨x, g s, rfl, by
    have := hg s s.toks
    rw [St.at_self] at this
    rw [this]; exact h⟩
/-- One token, or a failure at it. -/
theorem Cuts.one {α : Type} (f : St → Lx.Tok → Option (α × St)) (F : Int → St → R α)
    (h0 : ∀ last s, s.toks = [] → F last s = .bad last 500)
    (h1 : ∀ last s t r x s1, s.toks = t :: r → f s t = some (x, s1) → F last s = .ok x (s1.at r))
    (h2 : ∀ last s t r, s.toks = t :: r → f s t = none → F last s = .bad t.pos 500 ∨ F last s = .bad t.pos 2)
    (h3 : ∀ s t l, f (s.at l) t = (f s t).map fun y => (y.1, y.2.at l)) : Cuts F where
  ok := fun last s y s1 h => by
    cases ht : s.toks with
    | nil => rw [h0 last s ht] at h; cases h
    | cons t r =>
      cases hf : f s t with
      | none => rcases h2 last s t r ht hf with h' | h' <;> (rw [h'] at h; cases h)
      | some z =>
        obtain ⟨x, s2⟩ := z
        rw [h1 last s t r x s2 ht hf] at h
        injection h with ha hb
        subst ha; subst hb
        refine ⟨[t], rfl, fun last' d b hd => ?_⟩
        have := h1 last' (s.at ([t] ++ d)) t d x (s2.at ([t] ++ d)) rfl (by rw [h3, hf]; rfl)
        exact this
  bad := fun last s p e h => by
    cases ht : s.toks with
    | nil =>
      rw [h0 last s ht] at h
      injection h with ha hb
      subst ha; subst hb
      exact ⟨[], [], rfl, rfl, .inl rfl, fun last' => .inl (h0 last' _ rfl)⟩
    | cons t r =>
      cases hf : f s t with
      | some z =>
        obtain ⟨x, s2⟩ := z
        rw [h1 last s t r x s2 ht hf] at h
        cases h
      | none =>
        rcases h2 last s t r ht hf with h' | h' <;> rw [h'] at h <;> (injection h with ha hb; subst ha; subst hb)
        · exact ⟨[], t :: r, rfl, rfl, .inl rfl, fun last' => .inl (h0 last' _ rfl)⟩
        · exact ⟨[], t :: r, rfl, rfl, .inr ⟨rfl, by simp⟩, fun last' => .inl (h0 last' _ rfl)⟩
  nil := fun last s h => .inl (h0 last s h)
theorem cuts_need (k : Int) (x : List UInt8) : Cuts fun last s => need last k x s :=
  Cuts.one (fun s t => if t.kind = k ∧ t.text = x then some ((), s) else none) _
    (fun last s h => by simp [need, skip, h, fail])
    (fun last s t r y s1 h hf => by
      split at hf
      · rename_i hc
        injection hf with hf
        injection hf with _ hf
        subst hf
        simp [need, skip, h, hc, St.at]
      · cases hf)
    (fun last s t r h hf => by
      split at hf
      · cases hf
      · rename_i hc
        left
        simp [need, skip, h, hc, fail])
    (fun s t l => by split <;> rfl)
theorem cuts_number (m : Int) : Cuts fun last s => number last m s :=
  Cuts.one (fun s t => if t.kind = 2 ∧ t.n ≤ m then some (t.n, s) else none) _
    (fun last s h => by simp [number, h, fail])
    (fun last s t r y s1 h hf => by
      split at hf
      · rename_i hc
        injection hf with hf
        injection hf with hf1 hf
        subst hf; subst hf1
        simp [number, h, hc, St.at]
      · cases hf)
    (fun last s t r h hf => by
      split at hf
      · cases hf
      · rename_i hc
        left
        simp [number, h, hc, fail])
    (fun s t l => by split <;> rfl)
def varOf (fresh : Bool) (s : St) (t : Lx.Tok) : Option (Int × St) :=
  if t.kind = 1 ∧ kindOf t.text = 0 then
    match s.names.findIdx? (· == t.text) with
    | some i => if fresh then none else some ((i : Int), s)
    | none => if s.names.length = 8 then none else some ((s.names.length : Int), { s with names := s.names ++ [t.text] })
  else none
theorem cuts_variable (fresh : Bool) : Cuts fun last s => variable_ last fresh s :=
  Cuts.one (varOf fresh) _
    (fun last s h => by simp [variable_, h, fail])
    (fun last s t r y s1 h hf => by
      unfold varOf at hf
      unfold variable_
      rw [h]
      simp only
      split at hf
      · rename_i hc
        rw [if_pos hc]
        split at hf
        · rename_i i hi
          rw [hi]
          simp only
          split at hf
          · cases hf
          · rename_i hfr
            injection hf with hf
            injection hf with hf1 hf
            subst hf; subst hf1
            rw [if_neg hfr]
            rfl
        · rename_i hi
          rw [hi]
          simp only
          split at hf
          · cases hf
          · rename_i hfr
            injection hf with hf
            injection hf with hf1 hf
            subst hf; subst hf1
            rw [if_neg hfr]
            rfl
      · cases hf)
    (fun last s t r h hf => by
      unfold varOf at hf
      unfold variable_
      rw [h]
      simp only
      split at hf
      · rename_i hc
        rw [if_pos hc]
        split at hf
        · rename_i i hi
          rw [hi]
          simp only
          split at hf
          · rename_i hfr
            rw [if_pos hfr]
            left; simp [fail, h]
          · cases hf
        · rename_i hi
          rw [hi]
          simp only
          split at hf
          · rename_i hfr
            rw [if_pos hfr]
            right; simp [fail, h]
          · cases hf
      · rename_i hc
        rw [if_neg hc]
        left; simp [fail, h])
    (fun s t l => by
      unfold varOf St.at
      simp only
      split
      · split
        · split <;> rfl
        · split <;> rfl
      · rfl)
/-- Which of two it is shows at the head; at the end it is the second. -/
theorem Cuts.head {α : Type} (c : Lx.Tok → Bool) {F G H : Int → St → R α} (hF : Cuts F) (hG : Cuts G)
    (h1 : ∀ last s t r, s.toks = t :: r → H last s = if c t then F last s else G last s) (h0 : ∀ last s, s.toks = [] → H last s = G last s)
    (hne : ∀ last s t r x s1, s.toks = t :: r → c t = true → F last s = .ok x s1 → ∃ a, s.toks = t :: a ++ s1.toks) : Cuts H where
  ok := fun last s x s1 h => by
    cases ht : s.toks with
    | nil =>
      rw [h0 last s ht] at h
      obtain ⟨a, e, k⟩ := hG.ok last s x s1 h
      rw [ht] at e
      obtain ⟨e1, e2⟩ := List.append_eq_nil_iff.1 e.symm
      refine ⟨a, e, fun last' d b hd => ?_⟩
      have hd0 : d = [] := by rw [e2] at hd; exact (List.append_eq_nil_iff.1 hd.symm).1
      rw [h0 last' _ (by rw [e1, hd0]; rfl)]
      exact k last' d b hd
    | cons t r =>
      rw [h1 last s t r ht] at h
      cases hc : c t with
      | true =>
        rw [hc, if_pos rfl] at h
        obtain ⟨a, e, k⟩ := hF.ok last s x s1 h
        obtain ⟨a', e'⟩ := hne last s t r x s1 ht hc h
        have ha : a = t :: a' := List.append_cancel_right (e.symm.trans e')
        rw [ht] at e
        refine ⟨a, e, fun last' d b hd => ?_⟩
        rw [h1 last' (s.at (a ++ d)) t (a' ++ d) (by rw [ha]; rfl), hc, if_pos rfl]
        exact k last' d b hd
      | false =>
        rw [hc, if_neg (by simp)] at h
        obtain ⟨a, e, k⟩ := hG.ok last s x s1 h
        rw [ht] at e
        refine ⟨a, e, fun last' d b hd => ?_⟩
        cases hl : a ++ d with
        | nil =>
          rw [h0 last' _ rfl, ← hl]
          exact k last' d b hd
        | cons t' r' =>
          have ht' : t' = t := by
            rw [hd, ← List.append_assoc, hl] at e
            simp only [List.cons_append, List.cons.injEq] at e
            exact e.1.symm
          rw [h1 last' _ t' r' rfl, ht', hc, if_neg (by simp), ← ht', ← hl]
          exact k last' d b hd
  bad := fun last s p e h => by
    cases ht : s.toks with
    | nil =>
      rw [h0 last s ht] at h
      obtain ⟨a, b, k1, k2, k3, k4⟩ := hG.bad last s p e h
      rw [ht] at k1
      refine ⟨a, b, k1, k2, k3, fun last' => ?_⟩
      rw [h0 last' _ (by rw [(List.append_eq_nil_iff.1 k1.symm).1]; rfl)]
      exact k4 last'
    | cons t r =>
      rw [h1 last s t r ht] at h
      cases hc : c t with
      | true =>
        rw [hc, if_pos rfl] at h
        obtain ⟨a, b, k1, k2, k3, k4⟩ := hF.bad last s p e h
        rw [ht] at k1
        refine ⟨a, b, k1, k2, k3, fun last' => ?_⟩
        cases ha : a with
        | nil =>
          rw [h0 last' _ rfl]
          exact hG.nil last' _ rfl
        | cons t' r' =>
          have ht' : t' = t := by rw [ha] at k1; simp only [List.cons_append, List.cons.injEq] at k1; exact k1.1.symm
          rw [h1 last' _ t' r' rfl, ht', hc, if_pos rfl, ← ht', ← ha]
          exact k4 last'
      | false =>
        rw [hc, if_neg (by simp)] at h
        obtain ⟨a, b, k1, k2, k3, k4⟩ := hG.bad last s p e h
        rw [ht] at k1
        refine ⟨a, b, k1, k2, k3, fun last' => ?_⟩
        cases ha : a with
        | nil =>
          rw [h0 last' _ rfl]
          exact hG.nil last' _ rfl
        | cons t' r' =>
          have ht' : t' = t := by rw [ha] at k1; simp only [List.cons_append, List.cons.injEq] at k1; exact k1.1.symm
          rw [h1 last' _ t' r' rfl, ht', hc, if_neg (by simp), ← ht', ← ha]
          exact k4 last'
  nil := fun last s h => by rw [h0 last s h]; exact hG.nil last s h
end Go.Proofs.YtocelmjncjompaaDoor.Qy

namespace Go.Proofs.YtocelmjncjompaaDoor.Qy
open Lx

theorem Cuts.skip {α : Type} (k : Int) (x : List UInt8) {F G : Int → St → R α} (hF : Cuts F) (hG : Cuts G) :
    Cuts fun last s => match skip k x s with | (true, s') => F last s' | (false, s') => G last s' :=
  Cuts.head (fun t => decide (t.kind = k ∧ t.text = x)) (Cuts.bind (G := fun last _ s => F last s) (cuts_need k x) (fun _ => hF)) hG
    (fun last s t r h => by
      by_cases hc : t.kind = k ∧ t.text = x
      · simp [Qy.skip, need, h, hc, R.bind]
      · simp [Qy.skip, h, hc])
    (fun last s h => by simp [Qy.skip, h])
    (fun last s t r y s1 h hc he => by
      have hc' : t.kind = k ∧ t.text = x := of_decide_eq_true hc
      have he' : F last { s with toks := r } = .ok y s1 := by
        simpa [Qy.skip, need, h, hc', R.bind] using he
      obtain ⟨a, e, _⟩ := hF.ok last _ y s1 he'
      exact ⟨a, by rw [h]; show t :: r = t :: (a ++ s1.toks); rw [← e]⟩)
theorem Cuts.split {α : Type} (c : St → Bool) (hc : ∀ s l, c (s.at l) = c s) {F G : Int → St → R α} (hF : Cuts F) (hG : Cuts G) : Cuts fun last s => if c s then F last s else G last s where
  ok := fun last s x s1 h => by
    cases e : c s with
    | true =>
      rw [e, if_pos rfl] at h
      obtain ⟨a, k1, k2⟩ := hF.ok last s x s1 h
      exact ⟨a, k1, fun last' d b hd => by rw [hc, e, if_pos rfl]; exact k2 last' d b hd⟩
    | false =>
      rw [e, if_neg (by simp)] at h
      obtain ⟨a, k1, k2⟩ := hG.ok last s x s1 h
      exact ⟨a, k1, fun last' d b hd => by rw [hc, e, if_neg (by simp)]; exact k2 last' d b hd⟩
  bad := fun last s p x h => by
    cases e : c s with
    | true =>
      rw [e, if_pos rfl] at h
      obtain ⟨a, b, k1, k2, k3, k4⟩ := hF.bad last s p x h
      exact ⟨a, b, k1, k2, k3, fun last' => by rw [hc, e, if_pos rfl]; exact k4 last'⟩
    | false =>
      rw [e, if_neg (by simp)] at h
      obtain ⟨a, b, k1, k2, k3, k4⟩ := hG.bad last s p x h
      exact ⟨a, b, k1, k2, k3, fun last' => by rw [hc, e, if_neg (by simp)]; exact k4 last'⟩
  nil := fun last s h => by
    cases e : c s with
    | true => rw [if_pos rfl]; exact hF.nil last s h
    | false => rw [if_neg (by simp)]; exact hG.nil last s h
theorem Cuts.fuel {α : Type} (c : Nat) {F : Int → Nat → St → R α} (hF : ∀ f, Cuts fun last s => F last f s)
    (hf : ∀ last f g s, s.toks.length + c ≤ f → s.toks.length + c ≤ g → F last f s = F last g s) : Cuts fun last s => F last (s.toks.length + c) s where
  ok := fun last s x s1 h => by
    obtain ⟨a, k1, k2⟩ := (hF _).ok last s x s1 h
    refine ⟨a, k1, fun last' d b hd => ?_⟩
    rw [hf last' ((s.at (a ++ d)).toks.length + c) (s.toks.length + c) (s.at (a ++ d)) (Nat.le_refl _) (by rw [k1, hd]; show (a ++ d).length + c ≤ (a ++ (d ++ b)).length + c; simp)]
    exact k2 last' d b hd
  bad := fun last s p x h => by
    obtain ⟨a, b, k1, k2, k3, k4⟩ := (hF _).bad last s p x h
    refine ⟨a, b, k1, k2, k3, fun last' => ?_⟩
    show Ends last' (F last' ((s.at a).toks.length + c) (s.at a))
    rw [hf last' ((s.at a).toks.length + c) (s.toks.length + c) (s.at a) (Nat.le_refl _) (by rw [k1]; show a.length + c ≤ (a ++ b).length + c; simp)]
    exact k4 last'
  nil := fun last s h => (hF _).nil last s h
theorem cuts_word (x : List UInt8) : Cuts fun last s => word last x s := cuts_need 1 x
theorem cuts_sign (c : UInt8) : Cuts fun last s => signT last c s := cuts_need 3 [c]
theorem cuts_argument : Cuts fun last s => argument last s :=
  Cuts.head (fun t => decide (t.kind = 2))
    (Cuts.bind (G := fun _ n s => .ok (⟨false, n⟩ : Arg) s) (cuts_number 1099511627776) (fun n => Cuts.pure _ id (fun _ _ => rfl)))
    (Cuts.bind (G := fun _ n s => .ok (⟨true, n⟩ : Arg) s) (cuts_variable false) (fun n => Cuts.pure _ id (fun _ _ => rfl)))
    (fun last s t r h => by
      unfold argument
      rw [h]
      simp only
      by_cases hc : t.kind = 2 <;> simp [hc])
    (fun last s h => by unfold argument; rw [h])
    (fun last s t r y s1 h hc he => by
      refine ⟨[], ?_⟩
      unfold number at he
      rw [h] at he
      simp only at he
      split at he
      · simp only [R.bind] at he
        injection he with _ he
        rw [← he, h]; rfl
      · simp [fail, R.bind] at he)
theorem cuts_atom (k : Int) : Cuts fun last s => atom last k s :=
  Cuts.bind (cuts_sign 40) fun _ => Cuts.bind cuts_argument fun x => Cuts.bind (cuts_sign 44) fun _ => Cuts.bind cuts_argument fun y => Cuts.bind (cuts_sign 41) fun _ => Cuts.bind (cuts_sign 61) fun _ =>
  Cuts.bind cuts_argument fun z => Cuts.bind (cuts_word wAt) fun _ => Cuts.bind (cuts_number 1023) fun t => Cuts.bind (cuts_word wKnown) fun _ => Cuts.bind (cuts_number 16777216) fun kn =>
  Cuts.pure () (fun s => { s with atoms := s.atoms ++ [⟨k, x, y, z, t, kn⟩] }) (fun _ _ => rfl)
theorem cuts_oper : Cuts fun last s => oper last s :=
  Cuts.skip 3 [60] (Cuts.skip 3 [61] (Cuts.pure (-1) id fun _ _ => rfl) (Cuts.pure (-2) id fun _ _ => rfl))
    (Cuts.skip 3 [33] (Cuts.bind (G := fun _ _ s => .ok (1 : Int) s) (cuts_sign 61) fun _ => Cuts.pure 1 id fun _ _ => rfl) (Cuts.bind (G := fun _ _ s => .ok (0 : Int) s) (cuts_sign 61) fun _ => Cuts.pure 0 id fun _ _ => rfl))
theorem cuts_test : Cuts fun last s => test last s :=
  Cuts.bind cuts_argument fun x => Cuts.bind cuts_oper fun o => Cuts.bind cuts_argument fun y => Cuts.pure () (fun s => { s with tests := s.tests ++ [⟨o, x, y⟩] }) (fun _ _ => rfl)
theorem cuts_showOne : Cuts fun last s => showOne last s :=
  Cuts.bind (cuts_variable true) fun n => Cuts.pure () (fun s => { s with shown := s.shown ++ [n] }) (fun _ _ => rfl)
theorem cuts_showsF : ∀ f, Cuts fun last s => shows last f s
  | 0 => Cuts.pure () id fun _ _ => rfl
  | f + 1 => Cuts.skip 3 [44] (Cuts.bind (G := fun last _ s => shows last f s) cuts_showOne fun _ => cuts_showsF f) (Cuts.pure () id fun _ _ => rfl)
theorem Cuts.shrinks {α : Type} {F : Int → St → R α} (h : Cuts F) {last : Int} {s : St} {x : α} {s1 : St} (e : F last s = .ok x s1) : s1.toks.length ≤ s.toks.length := by
  obtain ⟨a, k, _⟩ := h.ok last s x s1 e
  rw [k]; simp
theorem skip_true {k : Int} {x : List UInt8} {s s' : St} (h : skip k x s = (true, s')) : s.toks.length = s'.toks.length + 1 := by
  unfold skip at h
  split at h
  · rename_i t r ht
    split at h
    · injection h with _ h
      subst h
      rw [ht]; rfl
    · simp at h
  · simp at h
theorem shows_fuel (last : Int) : ∀ (f g : Nat) (s : St), s.toks.length + 0 ≤ f → s.toks.length + 0 ≤ g → shows last f s = shows last g s
  | 0, 0, s, _, _ => rfl
  | 0, g + 1, s, h, _ => by
    have : s.toks = [] := List.eq_nil_of_length_eq_zero (by omega)
    simp [shows, skip, this]
  | f + 1, 0, s, _, h => by
    have : s.toks = [] := List.eq_nil_of_length_eq_zero (by omega)
    simp [shows, skip, this]
  | f + 1, g + 1, s, hf, hg => by
    unfold shows
    cases hs : skip 3 [44] s with
    | mk b s' =>
      cases b with
      | false => rfl
      | true =>
        have h1 := skip_true hs
        simp only
        cases hr : showOne last s' with
        | bad p e => rfl
        | ok y s2 =>
          have h2 := cuts_showOne.shrinks hr
          exact shows_fuel last f g s2 (by omega) (by omega)
theorem cuts_shows : Cuts fun last s => shows last s.toks.length s := Cuts.fuel 0 cuts_showsF (fun last f g s => shows_fuel last f g s)
def kindTok (last : Int) (s : St) : R Nat := match s.toks with
  | t :: r => if t.kind = 1 ∧ kindOf t.text ≠ 0 then .ok (kindOf t.text) (s.at r) else fail last s 500
  | [] => fail last s 500
theorem cuts_kindTok : Cuts fun last s => kindTok last s :=
  Cuts.one (fun s t => if t.kind = 1 ∧ kindOf t.text ≠ 0 then some (kindOf t.text, s) else none) _
    (fun last s h => by simp [kindTok, h, fail])
    (fun last s t r y s1 h hf => by
      split at hf
      · rename_i hc
        injection hf with hf
        injection hf with hf1 hf
        subst hf; subst hf1
        simp [kindTok, h, hc, St.at]
      · cases hf)
    (fun last s t r h hf => by
      split at hf
      · cases hf
      · rename_i hc
        left
        unfold kindTok
        rw [h]
        simp only
        rw [if_neg hc]
        simp [fail, h])
    (fun s t l => by split <;> rfl)
theorem cuts_cond : Cuts fun last s => cond last s :=
  Cuts.head (fun t => decide (t.kind = 1 ∧ kindOf t.text ≠ 0)) (Cuts.bind (G := fun last (k : Nat) s => atom last k s) cuts_kindTok fun k => cuts_atom k) cuts_test
    (fun last s t r h => by
      unfold cond kind kindTok
      rw [h]
      simp only
      by_cases hc : t.kind = 1 ∧ kindOf t.text ≠ 0
      · simp only [if_pos hc, decide_eq_true hc, R.bind, if_true]
        cases hk : kindOf t.text with
        | zero => exact absurd hk hc.2
        | succ n => rfl
      · simp only [if_neg hc, decide_eq_false hc]
        rfl)
    (fun last s h => by unfold cond kind; rw [h]; rfl)
    (fun last s t r y s1 h hc he => by
      have hc' : t.kind = 1 ∧ kindOf t.text ≠ 0 := of_decide_eq_true hc
      have he' : atom last (kindOf t.text) (s.at r) = .ok y s1 := by
        unfold kindTok at he
        rw [h] at he
        simp only [if_pos hc', R.bind] at he
        exact he
      obtain ⟨a, e, _⟩ := (cuts_atom (kindOf t.text)).ok last _ y s1 he'
      exact ⟨a, by rw [h]; show t :: r = t :: (a ++ s1.toks); rw [← e]; rfl⟩)
theorem cuts_full : Cuts fun last s => match skip 3 [44] s with | (true, _) => (fail last s 2 : R Unit) | (false, s) => .ok () s where
  ok := fun last s x s1 h => by
    cases ht : s.toks with
    | nil =>
      simp [skip, ht] at h
      subst h
      refine ⟨[], ht.symm, fun last' d b hd => ?_⟩
      rw [ht] at hd
      have := (List.append_eq_nil_iff.1 hd.symm).1
      subst this
      rfl
    | cons t r =>
      by_cases hc : t.kind = 3 ∧ t.text = [44]
      · simp [skip, ht, hc, fail] at h
      · simp [skip, ht, hc] at h
        subst h
        refine ⟨[], ht.symm, fun last' d b hd => ?_⟩
        rw [ht] at hd
        cases d with
        | nil => rfl
        | cons t' d =>
          simp only [List.cons_append, List.cons.injEq] at hd
          obtain ⟨rfl, _⟩ := hd
          simp [skip, St.at, hc]
  bad := fun last s p e h => by
    cases ht : s.toks with
    | nil => simp [skip, ht] at h
    | cons t r =>
      by_cases hc : t.kind = 3 ∧ t.text = [44]
      · simp [skip, ht, hc, fail] at h
        obtain ⟨h1, h2⟩ := h
        exact ⟨[], t :: r, rfl, h1.symm, .inr ⟨h2.symm, by simp⟩, fun last' => .inr ⟨(), s.at [], rfl, rfl⟩⟩
      · simp [skip, ht, hc] at h
  nil := fun last s h => .inr ⟨(), s, by simp [skip, h], h⟩
theorem cuts_condsF : ∀ f, Cuts fun last s => conds last f s
  | 0 => Cuts.pure () id fun _ _ => rfl
  | f + 1 => Cuts.bind (G := fun last _ s => match skip 3 [44] s with
      | (true, s') => if s.atoms.length + s.tests.length = 16 then fail last s 2 else conds last f s'
      | (false, s) => .ok () s) cuts_cond fun _ => by
    have h := Cuts.split (fun s => decide (s.atoms.length + s.tests.length = 16)) (fun _ _ => rfl) cuts_full
      (Cuts.skip 3 [44] (F := fun last s => conds last f s) (G := fun _ s => .ok () s) (cuts_condsF f) (Cuts.pure () id fun _ _ => rfl))
    have e : (fun (last : Int) (s : St) => if decide (s.atoms.length + s.tests.length = 16) = true then (match skip 3 [44] s with | (true, _) => (fail last s 2 : R Unit) | (false, s) => .ok () s)
        else (match skip 3 [44] s with | (true, s') => conds last f s' | (false, s') => .ok () s')) = fun last s => match skip 3 [44] s with
      | (true, s') => if s.atoms.length + s.tests.length = 16 then fail last s 2 else conds last f s'
      | (false, s) => .ok () s := by
      funext last s
      by_cases hc : s.atoms.length + s.tests.length = 16
      · simp only [hc, decide_true, if_true]
      · simp only [hc, decide_false, if_false, Bool.false_eq_true]
    rw [e] at h
    exact h
theorem conds_fuel (last : Int) : ∀ (f g : Nat) (s : St), s.toks.length + 1 ≤ f → s.toks.length + 1 ≤ g → conds last f s = conds last g s
  | 0, _, s, h, _ => by omega
  | f + 1, 0, s, _, h => by omega
  | f + 1, g + 1, s, hf, hg => by
    unfold conds
    cases hr : cond last s with
    | bad p e => rfl
    | ok y s2 =>
      have h2 := cuts_cond.shrinks hr
      simp only [R.bind]
      cases hs : skip 3 [44] s2 with
      | mk b s' =>
        cases b with
        | false => rfl
        | true =>
          have h1 := skip_true hs
          simp only
          split
          · rfl
          · exact conds_fuel last f g s' (by omega) (by omega)
theorem cuts_conds : Cuts fun last s => conds last (s.toks.length + 1) s := Cuts.fuel 1 cuts_condsF (fun last f g s => conds_fuel last f g s)
theorem cuts_end : Cuts fun last s => match s.toks with | [] => R.ok () s | _ :: _ => fail last s 500 where
  ok := fun last s x s1 h => by
    cases ht : s.toks with
    | nil =>
      rw [ht] at h
      simp only at h
      injection h with _ h
      subst h
      refine ⟨[], ht.symm, fun last' d b hd => ?_⟩
      rw [ht] at hd
      have := (List.append_eq_nil_iff.1 hd.symm).1
      subst this
      rfl
    | cons t r => rw [ht] at h; simp [fail] at h
  bad := fun last s p e h => by
    cases ht : s.toks with
    | nil => rw [ht] at h; cases h
    | cons t r =>
      rw [ht] at h
      simp [fail, ht] at h
      obtain ⟨h1, h2⟩ := h
      exact ⟨[], t :: r, rfl, h1.symm, .inl h2.symm, fun last' => .inr ⟨(), s.at [], rfl, rfl⟩⟩
  nil := fun last s h => .inr ⟨(), s, by rw [h], h⟩
theorem cuts_parseT : Cuts fun last s => parseT last s :=
  Cuts.bind (cuts_word wShow) fun _ => Cuts.bind cuts_showOne fun _ => Cuts.bind cuts_shows fun _ => Cuts.bind (cuts_word wWhere) fun _ => Cuts.bind cuts_conds fun _ => Cuts.bind (cuts_sign 59) fun _ => cuts_end
/-- Where a source fails: the place is the end or a token's, and what stands before it fails at its end, or parses. -/
theorem parse_place {src : List UInt8} {l : List Lx.Tok} {p e : Int} (hlen : src.length ≤ 65536) (hl : lex src = .ok l) (h : parse src = .bad p e) :
    ∃ j : Nat, p = (j : Int) ∧ j ≤ src.length ∧ (e = 500 ∨ e = 2 ∧ j < src.length) ∧ (j = src.length ∨ ∃ (k : Nat) (t : Lx.Tok), l[k]? = some t ∧ t.pos = (j : Int)) ∧
      (parse (src.take j) = .bad (j : Int) 500 ∨ ∃ q, parse (src.take j) = .ok q) := by
  unfold parse at h
  rw [if_neg (by omega), hl] at h
  simp only at h
  unfold parseToks at h
  split at h
  · cases h
  · rename_i p' e' hp
    injection h with h1 h2
    subst h1; subst h2
    obtain ⟨a, b, k1, k2, k3, k4⟩ := cuts_parseT.bad _ _ _ _ hp
    have k1' : l = a ++ b := k1
    cases b with
    | nil =>
      have k2' : p' = (src.length : Int) := k2
      refine ⟨src.length, k2', Nat.le_refl _, ?_, .inl rfl, ?_⟩
      · rcases k3 with h | ⟨_, h⟩
        · exact .inl h
        · exact absurd rfl h
      · left
        rw [List.take_length]
        unfold parse
        rw [if_neg (by omega), hl]
        simp only
        unfold parseToks
        rw [hp, k2']
        rcases k3 with h | ⟨_, h⟩
        · rw [h]
        · exact absurd rfl h
    | cons t r =>
      have k2' : p' = t.pos := k2
      obtain ⟨j, hj, _, _⟩ := lexAt_pos _ _ _ _ (Nat.le_refl _) hl t (by rw [k1']; simp)
      rw [k1'] at hl
      obtain ⟨hc1, hc2⟩ := lex_take hl hj
      refine ⟨j, by rw [k2', hj], by omega, ?_, .inr ⟨a.length, t, by rw [k1']; simp, hj⟩, ?_⟩
      · rcases k3 with h | ⟨h, _⟩
        · exact .inl h
        · exact .inr ⟨h, hc2⟩
      · have hlt : (src.take j).length = j := by rw [List.length_take]; omega
        unfold parse
        rw [if_neg (by omega), hc1]
        simp only
        unfold parseToks
        rw [hlt]
        rcases k4 (j : Int) with h | ⟨x, s', h, _⟩
        · left
          have h' : parseT (j : Int) ⟨a, [], [], [], []⟩ = .bad (j : Int) 500 := h
          rw [h']
        · right
          have h' : parseT (j : Int) ⟨a, [], [], [], []⟩ = .ok x s' := h
          rw [h']
          exact ⟨_, rfl⟩
theorem parse_lex_err {src : List UInt8} {p : Nat} (hlen : src.length ≤ 65536) (hl : lex src = .err p) : parse src = .bad p 90 := by
  unfold parse
  rw [if_neg (by omega), hl]
theorem parse_ok_lex {src : List UInt8} {q : Query} (h : parse src = .ok q) : ∃ l, lex src = .ok l := by
  unfold parse at h
  split at h
  · cases h
  · split at h
    · cases h
    · rename_i l hl
      exact ⟨l, hl⟩
end Go.Proofs.YtocelmjncjompaaDoor.Qy
