/- Parts of the proof, joined into one text: LxExt, LxWord, LxDec, LxBack. -/
import Derived.Test.YtocelmjncjompaaDoorZLxE
import Derived.Test.YtocelmjncjompaaDoorZLxM
import Derived.Laws.IdiomStrings

namespace Go.Proofs.YtocelmjncjompaaDoor.Lx

theorem tw_app {p : UInt8 → Bool} {a b : List UInt8} (h : (a.takeWhile p).length < a.length ∨ b.takeWhile p = [] ∨ ((a ++ b).takeWhile p).length ≤ a.length) : (a ++ b).takeWhile p = a.takeWhile p := by
  rw [List.takeWhile_append] at h ⊢
  split
  · rename_i he
    rw [if_pos he] at h
    have ha : a.takeWhile p = a := (List.takeWhile_prefix p).eq_of_length he
    rcases h with h | h | h
    · omega
    · rw [h, List.append_nil, ha]
    · rw [List.length_append] at h
      have : b.takeWhile p = [] := List.eq_nil_of_length_eq_zero (by omega)
      rw [this, List.append_nil, ha]
  · rfl

theorem step_ext {c : UInt8} {r b : List UInt8} (hc : comment (c :: (r ++ b)) = comment (c :: r))
    (h10 : comment (c :: r) = true → ((c :: r) ++ b).takeWhile (· != 10) = (c :: r).takeWhile (· != 10))
    (hp : letter c = true → ((c :: r) ++ b).takeWhile part = (c :: r).takeWhile part)
    (hf : figure c = true → ((c :: r) ++ b).takeWhile figure = (c :: r).takeWhile figure) : step c (r ++ b) = step c r := by
  cases h1 : space c
  case true => rw [step_space h1, step_space h1]
  cases h2 : comment (c :: r)
  case true => rw [step_comment h2, step_comment (hc.trans h2)]; have := h10 h2; rw [List.cons_append] at this; rw [this]
  cases h3 : letter c
  case true => rw [step_letter h3, step_letter h3]; have := hp h3; rw [List.cons_append] at this; rw [this]
  cases h4 : figure c
  case true => rw [step_figure h4, step_figure h4]; have := hf h4; rw [List.cons_append] at this; rw [this]
  cases h5 : sign c
  case true => rw [step_sign h5 h2, step_sign h5 (hc.trans h2)]
  rw [step_err h1 h3 h4 h5, step_err h1 h3 h4 h5]

theorem comment_app {c d : UInt8} {r b : List UInt8} (hd : r = [] → d ≠ 47) : comment (c :: (r ++ d :: b)) = comment (c :: r) := by
  cases r with
  | nil =>
    have : ((some d : Option UInt8) == some 47) = false := beq_eq_false_iff_ne.2 (fun h => hd rfl (by injection h))
    simp only [comment, List.nil_append, List.head?_cons, List.head?_nil, this, Bool.and_false]
    simp
  | cons x r => rfl

/-- The extent of what a step takes. -/
def Step.ext : Step → Nat
  | .skip k => k
  | .tok _ k => k
  | .err => 0

/-- A blank behind a source: what begins before the end of the source is not touched, except for a comment that has no end. -/
theorem step_blank {c d : UInt8} {r b : List UInt8} (hd : part d = false) (hd2 : d ≠ 47) (h : comment (c :: r) = true → (step c r).ext < (c :: r).length) : step c (r ++ d :: b) = step c r := by
  have hfig : figure d = false := by
    unfold part at hd
    cases hh : figure d
    · rfl
    · rw [hh] at hd; simp at hd
  refine step_ext (comment_app fun _ => hd2) (fun hc => ?_) (fun _ => tw_app (Or.inr (Or.inl ?_))) (fun _ => tw_app (Or.inr (Or.inl ?_)))
  · have := h hc
    rw [step_comment hc] at this
    exact tw_app (Or.inl this)
  · simp [hd]
  · simp [hfig]

theorem comment_len {c : UInt8} {r : List UInt8} (h : comment (c :: r) = true) : 2 ≤ ((c :: r).takeWhile (· != 10)).length := by
  match r with
  | [] => simp [comment] at h
  | d :: r =>
    simp [comment] at h
    obtain ⟨rfl, rfl⟩ := h
    simp

/-- A step within a longer source is the step within what it takes. -/
theorem step_cut {c : UInt8} {r b : List UInt8} (hn : step c (r ++ b) ≠ .err) (h : (step c (r ++ b)).ext ≤ (c :: r).length) : step c r = step c (r ++ b) := by
  cases h1 : space c
  case true => rw [step_space h1, step_space h1]
  cases h2 : comment (c :: (r ++ b))
  case true =>
    rw [step_comment h2] at h
    have h3 := comment_len h2
    simp only [Step.ext] at h
    have hr : comment (c :: r) = true := by
      cases r with
      | nil => simp only [List.length_singleton] at h; omega
      | cons x r => exact h2
    refine (step_ext (h2.trans hr.symm) (fun _ => tw_app (Or.inr (Or.inr h))) (fun hl => ?_) (fun hl => ?_)).symm
    · have := (facts c).letter_ hl; simp [comment] at h2; exact absurd h2.1 this.2.2.2
    · have := (facts c).figure_ hl; simp [comment] at h2; exact absurd h2.1 this.2.2.2
  have hr : comment (c :: r) = false := by
    cases r with
    | nil => simp [comment]
    | cons x r => exact h2
  refine (step_ext (h2.trans hr.symm) (fun hh => absurd hh (by rw [hr]; simp)) (fun hl => ?_) (fun hl => ?_)).symm
  · rw [step_letter hl] at h hn
    split at h
    · exact tw_app (Or.inr (Or.inr h))
    · rename_i hh; rw [if_neg hh] at hn; exact absurd rfl hn
  · rw [step_figure hl] at h hn
    split at h
    · exact tw_app (Or.inr (Or.inr h))
    · rename_i hh; rw [hh] at hn; exact absurd rfl hn

theorem res_cons_err {t : Tok} {R : Res} {q : Nat} (h : R.cons t = .err q) : R = .err q := by
  cases R with
  | ok l => cases h
  | err p => exact h

/-- An error: where it lies, what stands before it, what it begins with; it remains whatever follows a blank. -/
theorem err_split : ∀ (n : Nat) (l : List UInt8) (p q : Nat), l.length ≤ n → lexAt l p = .err q →
    ∃ M, q = p + M ∧ M < l.length ∧ (∃ ts, lexAt (l.take M) p = .ok ts) ∧ (∃ c r, l.drop M = c :: r ∧ step c r = .err) ∧ ∀ (d : UInt8) (more : List UInt8), part d = false → d ≠ 47 → lexAt (l ++ d :: more) p = .err q
  | n, [], p, q, hn, h => by rw [lexAt_nil] at h; cases h
  | 0, c :: r, p, q, hn, h => by simp at hn
  | n + 1, c :: r, p, q, hn, h => by
    have hn' : r.length ≤ n := by simpa using hn
    have common : ∀ k, 1 ≤ k → (step c r).ext = k → step c r ≠ .err → ∀ (q : Nat), lexAt ((c :: r).drop k) (p + k) = .err q →
        ∃ M, k ≤ M ∧ q = p + M ∧ M < (c :: r).length ∧ (∃ ts, lexAt (((c :: r).take M).drop k) (p + k) = .ok ts) ∧ step c (r.take (M - 1)) = step c r ∧ (∃ c' r', (c :: r).drop M = c' :: r' ∧ step c' r' = .err) ∧
          ∀ (d : UInt8) (more : List UInt8), part d = false → d ≠ 47 → step c (r ++ d :: more) = step c r ∧ lexAt ((c :: (r ++ d :: more)).drop k) (p + k) = .err q := by
      intro k hk he hne q hq
      have hkl : k < (c :: r).length := by
        rcases Nat.lt_or_ge k (c :: r).length with h | h
        · exact h
        · rw [List.drop_of_length_le h, lexAt_nil] at hq; cases hq
      obtain ⟨M, rfl, hM, ⟨ts, hts⟩, ⟨c', r', hcr, her⟩, hmore⟩ := err_split n _ _ _ (by simp only [List.length_drop, List.length_cons]; omega) hq
      rw [List.length_drop] at hM
      refine ⟨k + M, by omega, by omega, by omega, ⟨ts, ?_⟩, ?_, ⟨c', r', ?_, her⟩, fun d more h1 h2 => ⟨?_, ?_⟩⟩
      · rw [List.drop_take, Nat.add_sub_cancel_left]; exact hts
      · have e : r.take (k + M - 1) ++ r.drop (k + M - 1) = r := List.take_append_drop _ _
        have e1 := step_cut (c := c) (r := r.take (k + M - 1)) (b := r.drop (k + M - 1))
        rw [e] at e1
        refine e1 hne ?_
        rw [he]
        simp only [List.length_cons, List.length_take]
        simp only [List.length_cons] at hM hkl
        omega
      · rw [← hcr, List.drop_drop]
      · exact step_blank h1 h2 fun _ => by rw [he]; exact hkl
      · have e : c :: (r ++ d :: more) = (c :: r) ++ d :: more := rfl
        rw [e, List.drop_append_of_le_length (by omega)]
        exact hmore d more h1 h2
    cases hs : step c r with
    | err =>
      rw [lexAt_err hs] at h
      injection h with h
      subst h
      refine ⟨0, rfl, by simp, ⟨[], rfl⟩, ⟨c, r, rfl, hs⟩, fun d more h1 h2 => ?_⟩
      have e := step_blank (c := c) (r := r) (b := more) h1 h2 (fun hc => by rw [step_comment hc] at hs; cases hs)
      exact lexAt_err (e.trans hs) p
    | skip k =>
      rw [lexAt_skip hs] at h
      have hk := step_skip_pos hs
      obtain ⟨M, hkM, hq, hM, ⟨ts, hts⟩, hst, herr, hmore⟩ := common k hk (by rw [hs]; rfl) (by rw [hs]; exact fun h => by cases h) q h
      refine ⟨M, hq, hM, ⟨ts, ?_⟩, herr, fun d more h1 h2 => ?_⟩
      · have e : (c :: r).take M = c :: r.take (M - 1) := by
          obtain ⟨m, rfl⟩ : ∃ m, M = m + 1 := ⟨M - 1, by omega⟩
          rfl
        rw [e] at hts ⊢
        rw [lexAt_skip (hst.trans hs)]
        exact hts
      · obtain ⟨e1, e2⟩ := hmore d more h1 h2
        show lexAt (c :: (r ++ d :: more)) p = _
        rw [lexAt_skip (e1.trans hs)]
        exact e2
    | tok t k =>
      rw [lexAt_tok hs] at h
      have hk := step_tok_pos hs
      obtain ⟨M, hkM, hq, hM, ⟨ts, hts⟩, hst, herr, hmore⟩ := common k hk (by rw [hs]; rfl) (by rw [hs]; exact fun h => by cases h) q (res_cons_err h)
      refine ⟨M, hq, hM, ⟨{ t with pos := p } :: ts, ?_⟩, herr, fun d more h1 h2 => ?_⟩
      · have e : (c :: r).take M = c :: r.take (M - 1) := by
          obtain ⟨m, rfl⟩ : ∃ m, M = m + 1 := ⟨M - 1, by omega⟩
          rfl
        rw [e] at hts ⊢
        rw [lexAt_tok (hst.trans hs), hts]
        rfl
      · obtain ⟨e1, e2⟩ := hmore d more h1 h2
        show lexAt (c :: (r ++ d :: more)) p = _
        rw [lexAt_tok (e1.trans hs), e2]
        rfl

theorem lex_err {l : List UInt8} {q : Nat} (h : lex l = .err q) : q < l.length ∧ (∃ ts, lex (l.take q) = .ok ts) ∧ lex (l.drop q) = .err 0 ∧ ∀ more, lex (l ++ 32 :: more) = .err q := by
  obtain ⟨M, rfl, h1, h2, ⟨c, r, h3, h4⟩, h5⟩ := err_split _ l 0 q (Nat.le_refl _) h
  rw [Nat.zero_add] at *
  refine ⟨h1, h2, ?_, fun more => h5 32 more rfl (by decide)⟩
  rw [h3]
  exact lexAt_err h4 0
end Go.Proofs.YtocelmjncjompaaDoor.Lx

namespace Go.Proofs.YtocelmjncjompaaDoor.Lx

theorem isName_part {s : List UInt8} (h : isName s = true) : ∃ c r, s = c :: r ∧ letter c = true ∧ s.all part = true ∧ s.length ≤ 32 := by
  match s, h with
  | c :: r, h =>
    simp only [isName, Bool.and_eq_true, decide_eq_true_eq] at h
    exact ⟨c, r, rfl, h.1.2, h.2, h.1.1⟩
theorem takeWhile_all {p : UInt8 → Bool} : ∀ {l : List UInt8}, l.all p = true → l.takeWhile p = l
  | [], _ => rfl
  | c :: r, h => by
    simp only [List.all_cons, Bool.and_eq_true] at h
    rw [List.takeWhile_cons, if_pos h.1, takeWhile_all h.2]
/-- What may follow a token's text. -/
def Sep (rest : List UInt8) : Prop := rest = [] ∨ ∃ d r, rest = d :: r ∧ part d = false ∧ d ≠ 47
theorem sep_nil : Sep [] := Or.inl rfl
theorem sep_space {d : UInt8} {r : List UInt8} (h : space d = true) : Sep (d :: r) := Or.inr ⟨d, r, rfl, ((facts d).space_ h).1, ((facts d).space_ h).2.1⟩
theorem Sep.stop {rest : List UInt8} (h : Sep rest) : rest.takeWhile part = [] ∧ rest.takeWhile figure = [] := by
  rcases h with rfl | ⟨d, r, rfl, h1, _⟩
  · exact ⟨rfl, rfl⟩
  · have h2 : figure d = false := by
      unfold part at h1
      cases hh : figure d
      · rfl
      · rw [hh] at h1; simp at h1
    exact ⟨by simp [h1], by simp [h2]⟩

theorem lexAt_word {t : Tok} (hv : valid t = true) {rest : List UInt8} (hr : Sep rest) (p : Nat) : lexAt (t.out ++ rest) p = (lexAt rest (p + t.out.length)).cons { t with pos := p } := by
  have key : ∀ c r, t.out ++ rest = c :: r → step c r = .tok { t with pos := 0 } t.out.length → lexAt (t.out ++ rest) p = (lexAt rest (p + t.out.length)).cons { t with pos := p } := by
    intro c r e hs
    rw [e, lexAt_tok hs, ← e, List.drop_left]
  obtain ⟨k, x, n, q⟩ := t
  unfold valid at hv
  split at hv
  · rename_i hk
    simp only at hk
    subst hk
    simp only [Bool.and_eq_true, decide_eq_true_eq] at hv
    obtain ⟨hn, rfl⟩ := hv
    obtain ⟨c, r, rfl, hl, ha, _⟩ := isName_part hn
    have hout : (⟨1, c :: r, 0, q⟩ : Tok).out = c :: r := rfl
    rw [hout] at key ⊢
    refine key c (r ++ rest) rfl ?_
    rw [step_letter hl]
    have e : (c :: (r ++ rest)).takeWhile part = c :: r := by
      have := tw_app (p := part) (a := c :: r) (b := rest) (Or.inr (Or.inl hr.stop.1))
      rw [takeWhile_all ha] at this
      exact this
    rw [e, if_pos hn]
  · split at hv
    · rename_i hk
      simp only at hk
      subst hk
      simp only [Bool.and_eq_true, decide_eq_true_eq, List.isEmpty_iff] at hv
      obtain ⟨⟨rfl, h0⟩, h1⟩ := hv
      obtain ⟨u, rfl⟩ := Int.eq_ofNat_of_zero_le h0
      have hout : (⟨2, [], (u : Int), q⟩ : Tok).out = Lib.decDigits u := rfl
      rw [hout] at key ⊢
      obtain ⟨c, r, hd⟩ : ∃ c r, Lib.decDigits u = c :: r := by
        cases h : Lib.decDigits u with
        | nil => exact absurd h (digits_ne u)
        | cons c r => exact ⟨c, r, rfl⟩
      have ha := digits_all u
      have hnum := number_digits u (by omega)
      rw [hd] at key ha hnum ⊢
      refine key c (r ++ rest) rfl ?_
      have hf : figure c = true := by simp only [List.all_cons, Bool.and_eq_true] at ha; exact ha.1
      rw [step_figure hf]
      have e : (c :: (r ++ rest)).takeWhile figure = c :: r := by
        have := tw_app (p := figure) (a := c :: r) (b := rest) (Or.inr (Or.inl hr.stop.2))
        rw [takeWhile_all ha] at this
        exact this
      rw [e, hnum]
    · split at hv
      · rename_i hk
        simp only at hk
        subst hk
        simp only [Bool.and_eq_true, decide_eq_true_eq] at hv
        obtain ⟨h1, rfl⟩ := hv
        match x, h1 with
        | [c], h1 =>
          have hout : (⟨3, [c], 0, q⟩ : Tok).out = [c] := rfl
          rw [hout] at key ⊢
          refine key c rest rfl (step_sign h1 ?_)
          rcases hr with rfl | ⟨d, r, rfl, _, h3⟩
          · simp [comment]
          · have : ((some d : Option UInt8) == some 47) = false := beq_eq_false_iff_ne.2 (fun h => h3 (by injection h))
            simp only [comment, List.head?_cons, this, Bool.and_false]
      · cases hv

/-- A step that finds a token finds its text. -/
theorem step_out {c : UInt8} {r : List UInt8} {t : Tok} {k : Nat} (h : step c r = .tok t k) : t.out = (c :: r).take k ∧ t.out.length = k ∧ k ≤ (c :: r).length ∧ t.pos = 0 := by
  cases h1 : space c
  case true => rw [step_space h1] at h; cases h
  cases h2 : comment (c :: r)
  case true => rw [step_comment h2] at h; cases h
  cases h3 : letter c
  case true =>
    rw [step_letter h3] at h
    split at h
    · injection h with h h'
      subst h; subst h'
      exact ⟨(take_tw part _).symm, rfl, tw_le part _, rfl⟩
    · cases h
  cases h4 : figure c
  case true =>
    rw [step_figure h4] at h
    split at h
    · rename_i n hn
      injection h with h h'
      subst h; subst h'
      obtain ⟨hv, _, hp⟩ := number_val hn
      have e : (⟨2, [], (n : Int), 0⟩ : Tok).out = (c :: r).takeWhile figure := by
        show Lib.decDigits (n : Int).toNat = _
        rw [Int.toNat_natCast, hv]
        exact (digits_eq_iff (tw_all figure _) (by rw [List.takeWhile_cons, if_pos h4]; simp)).2 hp
      rw [e]
      exact ⟨(take_tw figure _).symm, rfl, tw_le figure _, rfl⟩
    · cases h
  cases h5 : sign c
  case true =>
    rw [step_sign h5 h2] at h
    injection h with h h'
    subst h; subst h'
    exact ⟨rfl, rfl, by simp, rfl⟩
  rw [step_err h1 h3 h4 h5] at h
  cases h

theorem same1_pos (t : Tok) (p : Int) : same1 t { t with pos := p } = true := by simp [same1]

/-- The text of tokens is lexed as these tokens. -/
theorem lexAt_text : ∀ (l : List Tok), (∀ t ∈ l, valid t = true) → ∀ p, ∃ m, lexAt (joinSp (l.map Tok.out)) p = .ok m ∧ same l m = true
  | [], _, p => ⟨[], rfl, rfl⟩
  | [t], h, p => by
    have := lexAt_word (h t (by simp)) sep_nil p
    rw [List.append_nil] at this
    refine ⟨[{ t with pos := p }], ?_, ?_⟩
    · show lexAt t.out p = _
      rw [this, lexAt_nil]
      rfl
    · simp only [same, same1_pos, Bool.and_true]
  | t :: u :: l, h, p => by
    obtain ⟨m, hm, hs⟩ := lexAt_text (u :: l) (fun x hx => h x (List.mem_cons_of_mem _ hx)) (p + t.out.length + 1)
    refine ⟨{ t with pos := p } :: m, ?_, ?_⟩
    · show lexAt (t.out ++ 32 :: joinSp ((u :: l).map Tok.out)) p = _
      rw [lexAt_word (h t (by simp)) (sep_space rfl) p, lexAt_skip (k := 1) (step_space rfl), List.drop_one, List.tail_cons, hm]
      rfl
    · simp only [same, same1_pos, Bool.true_and]
      exact hs
theorem lex_text {l : List Tok} {s : List UInt8} (h : text l = some s) : ∃ m, lex s = .ok m ∧ same l m = true := by
  unfold text at h
  split at h
  · rename_i hv
    injection h with h
    subst h
    exact lexAt_text l (fun t ht => List.all_eq_true.1 hv t ht) 0
  · cases h

/-- How long the texts of the tokens of a source are. -/
theorem lexN_len : ∀ (f : Nat) (l : List UInt8) (p : Nat) (ts : List Tok), lexN f l p = .ok ts → (joinSp (ts.map Tok.out)).length + 1 ≤ 2 * l.length + 1 ∧ ts.length ≤ l.length
  | f, [], p, ts, h => by
    have : ts = [] := by cases f <;> (simp only [lexN] at h; injection h with h; exact h.symm)
    subst this; simp [joinSp]
  | 0, _ :: _, p, ts, h => by
    simp only [lexN] at h; injection h with h
    subst h; simp [joinSp]
  | f + 1, c :: r, p, ts, h => by
    simp only [lexN] at h
    cases hs : step c r with
    | skip k =>
      rw [hs] at h
      have := lexN_len f _ _ ts h
      rw [List.length_drop] at this
      exact ⟨by omega, by omega⟩
    | err => rw [hs] at h; cases h
    | tok t k =>
      rw [hs] at h
      simp only at h
      cases hr : lexN f ((c :: r).drop k) (p + k) with
      | err q => rw [hr] at h; cases h
      | ok ts' =>
        rw [hr] at h
        simp only [Res.cons] at h
        injection h with h
        subst h
        obtain ⟨h1, h1', h2, _⟩ := step_out hs
        have h3 := step_tok_pos hs
        have h4 := lexN_len f _ _ ts' hr
        rw [List.length_drop] at h4
        have e : ({ t with pos := (p : Int) } : Tok).out = t.out := rfl
        refine ⟨?_, by simp only [List.length_cons] at h4 h2 ⊢; omega⟩
        rw [List.map_cons, e]
        cases ts' with
        | nil => simp only [List.map_nil, joinSp]; omega
        | cons u us =>
          simp only [List.map_cons, joinSp, List.length_append, List.length_cons] at h4 h2 ⊢
          omega
theorem lex_len {l : List UInt8} {ts : List Tok} (h : lex l = .ok ts) : (joinSp (ts.map Tok.out)).length ≤ 2 * l.length ∧ ts.length ≤ l.length := by
  have := lexN_len _ _ _ _ h
  omega
theorem text_of_lex {l : List UInt8} {ts : List Tok} (h : lex l = .ok ts) : text ts = some (joinSp (ts.map Tok.out)) := by
  unfold text
  rw [if_pos (List.all_eq_true.2 fun t ht => (lex_texts h t ht).1)]
end Go.Proofs.YtocelmjncjompaaDoor.Lx

namespace Go.Proofs.YtocelmjncjompaaDoor
open Go.RowKit
open Lx (Tok)

/-- The string of a slice of one byte that was just built. -/
theorem one_byte (W : World) (x : Int) (h0 : 0 ≤ x) (hx : x < 256) : (convert 38 9 (.slice (some ⟨W.heap.size, 0, none⟩) 1 1)).run Tryd.prog (W.alloc (.cells #[.int .u8 x] 5)) = .ok (.string (Lx.bs [UInt8.ofNat x.toNat])) (W.alloc (.cells #[.int .u8 x] 5)) := by
  refine run_convert_bytes_back (P := Tryd.prog) _ 38 9 5 ⟨W.heap.size, 0, none⟩ 1 [UInt8.ofNat x.toNat] Tryd.underlying38 Tryd.underlying5 Tryd.underlying9 ?_
  intro j hj
  have : j = 0 := by simpa using hj
  subst this
  show (W.alloc _).cell? ⟨W.heap.size, 0, none⟩ = _
  rw [World.cell?_alloc_mark]
  simp
  omega

/-- The last digit of a number. -/
def Lx.dg (m : Nat) : UInt8 := UInt8.ofNat (48 + m % 10)
theorem Lx.digits_small {m : Nat} (h : m < 10) : Lib.decDigits m = [Lx.dg m] := by rw [Lib.decDigits, dif_pos h]; unfold Lx.dg; rw [Nat.mod_eq_of_lt h]
theorem Lx.digits_great {m : Nat} (h : ¬ m < 10) : Lib.decDigits m = Lib.decDigits (m / 10) ++ [Lx.dg m] := by rw [Lib.decDigits, dif_neg h]; rfl
theorem one_digit (W : World) (m : Nat) : (convert 38 9 (.slice (some ⟨W.heap.size, 0, none⟩) 1 1)).run Tryd.prog (W.alloc (.cells #[.int .u8 (48 + (m : Int) % 10)] 5)) = .ok (.string (Lx.bs [Lx.dg m])) (W.alloc (.cells #[.int .u8 (48 + (m : Int) % 10)] 5)) := by
  rw [one_byte W _ (by omega) (by omega)]
  have : ((48 : Int) + (m : Int) % 10).toNat = 48 + m % 10 := by omega
  rw [this]
  rfl
theorem one_digit2 (W : World) (m : Nat) : (convert 38 9 (.slice (some ⟨W.heap.size, 0, none⟩) 1 1)).run Tryd.prog (W.alloc (.cells #[.int .u8 (48 + (m : Int) / 10 % 10)] 5)) = .ok (.string (Lx.bs [Lx.dg (m / 10)])) (W.alloc (.cells #[.int .u8 (48 + (m : Int) / 10 % 10)] 5)) := by
  rw [one_byte W _ (by omega) (by omega)]
  have : ((48 : Int) + (m : Int) / 10 % 10).toNat = 48 + m / 10 % 10 := by omega
  rw [this]
  rfl
theorem Lx.bs_app (a b : List UInt8) : Lx.bs a ++ Lx.bs b = Lx.bs (a ++ b) := by
  apply ByteArray.ext
  simp [Lx.bs]

theorem Lx.bs_sp (a b : List UInt8) : Lx.bs a ++ (⟨#[32]⟩ : ByteArray) ++ Lx.bs b = Lx.bs (a ++ 32 :: b) := by
  show Lx.bs a ++ Lx.bs [32] ++ Lx.bs b = _
  rw [Lx.bs_app, Lx.bs_app, List.append_assoc]
  rfl

set_option maxRecDepth 20000 in
theorem rDecimal (n : Nat) (w : World) (hn : n ≤ 1099511627776) :
    Calls Tryd.prog 50 #[.int .i64 n] w fun e w' => e = .returned (.string (Lx.bs (Lib.decDigits n))) ∧ Below w.heap.size w w' := by
  have hdl := Lx.digits_len n hn
  have HN := Lib.hid hn; have HD := Lib.hid hdl; clear hn hdl
  go_enter Tryd.func50, Tryd.ntmps50
  go_wp2
  rw [one_digit]
  go_wp2
  go_loopw [0, 3] (fun i s wr => ∃ (m : Nat) (x : List UInt8), m ≤ n ∧ i = .int .i64 m ∧ s = .string (Lx.bs (Lx.dg m :: x)) ∧ (Lib.decDigits n = if m < 10 then Lx.dg m :: x else Lib.decDigits (m / 10) ++ Lx.dg m :: x) ∧ Below w.heap.size w wr)
    (fun i _ _ => (intOf i).toNat)
  case atStart =>
    refine ⟨n, [], Nat.le_refl _, rfl, rfl, ?_, (Below.refl _ _).alloc (Nat.le_refl _) _⟩
    split
    · rename_i h; rw [Lx.digits_small h]
    · rename_i h; rw [Lx.digits_great h]
  case round =>
    obtain ⟨m, x, hm, rfl, rfl, hx, hbel⟩ := hrel
    have hwr := hbel.size
    have Hbel := Lib.hid hbel; clear hbel
    have hmb : m ≤ 1099511627776 := Nat.le_trans hm HN.out
    have hxl : x.length ≤ 13 := by
      have := HD.out
      rw [hx] at this
      split at this <;> simp at this <;> omega
    have hsz : (Lx.bs (Lx.dg m :: x)).size = x.length + 1 := by rw [Lx.bs_size]; rfl
    obtain ⟨S, hS⟩ : ∃ S, S = Lx.bs (Lx.dg m :: x) := ⟨_, rfl⟩
    rw [← hS] at hsz ⊢
    have HX := Lib.hid hx; have HS := Lib.hid hS
    clear hx hS
    by_cases h10 : m < 10
    · go_wp2
      go_ret
      have := HX.out
      rw [if_pos h10] at this
      refine ⟨?_, Hbel.out⟩
      rw [HS.out, this]
      rfl
    · have hdl := Lx.bs_size [Lx.dg (m / 10)]
      go_wp2
      rw [one_digit2]
      go_wp2
      go_roundw
      case rel =>
        refine ⟨m / 10, Lx.dg m :: x, by omega, by go_num, ?_, ?_, ?_⟩
        · rw [HS.out, Lx.bs_app]; rfl
        · rw [HX.out, if_neg h10]
          split
          · rename_i h; rw [Lx.digits_small h]; rfl
          · rename_i h; rw [Lx.digits_great h, List.append_assoc]; rfl
        · exact Hbel.out.trans ((Below.refl _ _).alloc hwr _)
      case measure => simp [intOf]; omega

theorem Lx.joinSp_snoc : ∀ (xs : List (List UInt8)) (x : List UInt8), Lx.joinSp (xs ++ [x]) = if xs = [] then x else Lx.joinSp xs ++ 32 :: x
  | [], x => rfl
  | [y], x => rfl
  | y :: z :: r, x => by
    have := Lx.joinSp_snoc (z :: r) x
    rw [if_neg (by simp)] at this ⊢
    show y ++ 32 :: Lx.joinSp (z :: r ++ [x]) = _
    rw [this]
    simp [Lx.joinSp]

/-- What the reference's text of the first tokens is. -/
def Lx.pre (l : List Tok) (k : Nat) : List UInt8 := Lx.joinSp ((l.take k).map Tok.out)
theorem Lx.pre_zero (l : List Tok) : Lx.pre l 0 = [] := rfl
theorem Lx.pre_next {l : List Tok} {k : Nat} {t : Tok} (h : l[k]? = some t) : Lx.pre l (k + 1) = if k = 0 then t.out else Lx.pre l k ++ 32 :: t.out := by
  unfold Lx.pre
  rw [List.take_add_one, h]
  have : ((l.take k).map Tok.out = []) ↔ k = 0 := by
    have hk := (List.getElem?_eq_some_iff.1 h).1
    rw [List.map_eq_nil_iff]
    constructor
    · intro e
      have := congrArg List.length e
      rw [List.length_take] at this
      simp only [List.length_nil] at this
      omega
    · rintro rfl; rfl
  simp only [Option.toList_some, List.map_append, List.map_cons, List.map_nil, Lx.joinSp_snoc, this]
theorem Lx.pre_len {l : List Tok} {k : Nat} (h : ∀ (j : Nat) (t : Tok), j < k → l[j]? = some t → Lx.valid t = true) (hk : k ≤ l.length) : (Lx.pre l k).length ≤ 33 * l.length := by
  unfold Lx.pre
  have := Lx.joinSp_len ((l.take k).map Tok.out) (fun x hx => by
    obtain ⟨t, ht, rfl⟩ := List.mem_map.1 hx
    obtain ⟨j, hj⟩ := List.mem_iff_getElem?.1 ht
    have hjk : j < k := by
      have := (List.getElem?_eq_some_iff.1 hj).1
      rw [List.length_take] at this
      omega
    rw [List.getElem?_take_of_lt hjk] at hj
    exact Lx.valid_out (h j t hjk hj))
  rw [List.length_map, List.length_take] at this
  omega

set_option maxHeartbeats 1000000 in
set_option maxRecDepth 20000 in
theorem rText (A : Option Addr) (c : Nat) (l : List Tok) (w : World) (h : Toks w w.heap.size A l) (hl : l.length ≤ 65536) :
    Calls Tryd.prog 20 #[.slice A l.length c] w (TextPost l w) := by
  go_enter Tryd.func20, Tryd.ntmps20
  go_wp2
  go_loopw [4, 5] (fun s i wr => ∃ (k : Nat), k ≤ l.length ∧ i = .int .i64 k ∧ s = .string (Lx.bs (Lx.pre l k)) ∧ (∀ (j : Nat) (t : Tok), j < k → l[j]? = some t → Lx.valid t = true) ∧ Below w.heap.size w wr)
    (fun _ i _ => l.length - (intOf i).toNat)
  case atStart => exact ⟨0, by omega, rfl, rfl, fun j t hj => absurd hj (by omega), Below.refl _ _⟩
  case round =>
    obtain ⟨k, hk, rfl, rfl, hh, hbel⟩ := hrel
    have H := h.below hbel (Nat.le_refl _)
    have hwr := hbel.size
    have hpl := Lx.pre_len hh hk
    have hps := Lx.bs_size (Lx.pre l k)
    obtain ⟨S, hS⟩ : ∃ S, S = Lx.bs (Lx.pre l k) := ⟨_, rfl⟩
    rw [← hS] at hps ⊢
    have Hh := Lib.hid hh; have Hbel := Lib.hid hbel; have HS := Lib.hid hS
    clear hh hbel hS
    by_cases hlt : k < l.length
    · obtain ⟨x, hx⟩ : ∃ x, l[k]? = some x := ⟨_, List.getElem?_eq_getElem (by omega)⟩
      obtain ⟨b, o, rfl, hb, h4⟩ := H.at_ k x hx
      have hxl := h.texts x (List.mem_of_getElem? hx)
      obtain ⟨p1, p2, p3, p4⟩ := h4
      have hval := fun W => rValid x.kind x.n x.pos (Lx.bs x.text) W (by rw [Lx.bs_size]; unfold maxLen; omega)
      rw [Lx.bs_list] at hval
      have Hx := Lib.hid hx; have HH := Lib.hid H
      clear hx H
      cases hs : Lx.valid x
      · rw [hs] at hval
        have Hval := Lib.hid hval
        have Hs := Lib.hid hs
        clear hval hs
        go_wp2_with fail
        refine (Hval.out _).mono ?_
        rintro e w1 ⟨rfl, hb1⟩
        have Hb1 := Lib.hid hb1; clear hb1
        go_wp2_with fail
        go_ret2
        refine ⟨Hbel.out.trans (Hb1.out.mono (by omega)), ?_⟩
        rw [Lx.text_none Hx.out Hs.out]
        rfl
      · rw [hs] at hval
        have hol := Lx.valid_out hs
        have hnext := Lx.pre_next Hx.out
        have hh2 : ∀ (j : Nat) (t : Tok), j < k + 1 → l[j]? = some t → Lx.valid t = true := fun j t hj ht => by
          by_cases e : j = k
          · subst e
            rw [Hx.out] at ht
            injection ht with ht
            rw [← ht]; exact hs
          · exact Hh.out j t (by omega) ht
        have Hval := Lib.hid hval; have Hs := Lib.hid hs; have Hn := Lib.hid hnext; have Hh2 := Lib.hid hh2
        clear hval hs hnext hh2
        go_wp2_with fail
        refine (Hval.out _).mono ?_
        rintro e w1 ⟨rfl, hb1⟩
        have q1 := hb1.cell (p := ⟨b, o + k * 4, none⟩) (show b < wr.heap.size by omega)
        have q2 := hb1.cell (p := ⟨b, o + k * 4 + 1, none⟩) (show b < wr.heap.size by omega)
        have q3 := hb1.cell (p := ⟨b, o + k * 4 + 2, none⟩) (show b < wr.heap.size by omega)
        rw [p1] at q1; rw [p2] at q2; rw [p3] at q3
        have hw1 := hb1.size
        have Hb1 := Lib.hid hb1; clear hb1 p1 p2 p3 p4
        by_cases h2 : x.kind = 2
        · obtain ⟨hn0, hn1⟩ := Lx.valid_num Hs.out h2
          have h2' : (x.kind == 2) = true := beq_iff_eq.2 h2
          obtain ⟨u, hu⟩ := Int.eq_ofNat_of_zero_le hn0
          have hdec := fun W => rDecimal u W (by omega)
          have hout : x.out = Lib.decDigits u := by unfold Tok.out; rw [if_pos h2, hu]; rfl
          rw [← hout] at hdec
          have hu' : ((u : Nat) : Int) = x.n := hu.symm
          rw [hu'] at hdec
          have hos := Lx.bs_size x.out
          have Hdec := Lib.hid hdec
          clear hdec hout hu hu' h2
          by_cases hk0 : k = 0
          · have hk0' : k < 1 := by omega
            have Hn2 := Lib.hid (Hn.out.trans (if_pos hk0))
            have H0 := Lib.hid hk0; clear hk0
            go_wp2_with fail
            refine (Hdec.out _).mono ?_
            rintro e w2 ⟨rfl, hb2⟩
            have Hb2 := Lib.hid hb2; clear hb2
            go_wp2_with fail
            go_roundw
            case rel => exact ⟨k + 1, by omega, by go_num, by rw [Hn2.out, HS.out, H0.out, Lx.bs_app]; rfl, Hh2.out, (Hbel.out.trans (Hb1.out.mono hwr)).trans (Hb2.out.mono (Nat.le_trans hwr hw1))⟩
            case measure => simp [intOf]; omega
          · have hk0' : 0 < k := by omega
            have Hn2 := Lib.hid (Hn.out.trans (if_neg hk0))
            have H0 := Lib.hid hk0; clear hk0
            go_wp2_with fail
            refine (Hdec.out _).mono ?_
            rintro e w2 ⟨rfl, hb2⟩
            have Hb2 := Lib.hid hb2; clear hb2
            go_wp2_with fail
            go_roundw
            case rel => exact ⟨k + 1, by omega, by go_num, by rw [Hn2.out, HS.out, Lx.bs_sp], Hh2.out, (Hbel.out.trans (Hb1.out.mono hwr)).trans (Hb2.out.mono (Nat.le_trans hwr hw1))⟩
            case measure => simp [intOf]; omega
        · have h2' : (x.kind == 2) = false := beq_eq_false_iff_ne.2 h2
          have hout : x.out = x.text := by unfold Tok.out; rw [if_neg h2]
          have hos := Lx.bs_size x.text
          rw [hout] at hol
          have Hout := Lib.hid hout
          clear hout h2
          by_cases hk0 : k = 0
          · have hk0' : k < 1 := by omega
            have Hn2 := Lib.hid (Hn.out.trans (if_pos hk0))
            have H0 := Lib.hid hk0; clear hk0
            go_wp2_with fail
            go_roundw
            case rel => exact ⟨k + 1, by omega, by go_num, by rw [Hn2.out, HS.out, H0.out, Hout.out, Lx.bs_app]; rfl, Hh2.out, Hbel.out.trans (Hb1.out.mono hwr)⟩
            case measure => simp [intOf]; omega
          · have hk0' : 0 < k := by omega
            have Hn2 := Lib.hid (Hn.out.trans (if_neg hk0))
            have H0 := Lib.hid hk0; clear hk0
            go_wp2_with fail
            go_roundw
            case rel => exact ⟨k + 1, by omega, by go_num, by rw [Hn2.out, HS.out, Hout.out, Lx.bs_sp], Hh2.out, Hbel.out.trans (Hb1.out.mono hwr)⟩
            case measure => simp [intOf]; omega
    · obtain rfl : k = l.length := by omega
      have htx := Lx.text_some fun j t hj => Hh.out j t (List.getElem?_eq_some_iff.1 hj).1 hj
      have hpre : Lx.pre l l.length = Lx.joinSp (l.map Tok.out) := by unfold Lx.pre; rw [List.take_length]
      have Htx := Lib.hid htx; have Hpre := Lib.hid hpre
      clear htx hpre
      go_wp2_with fail
      go_ret2
      refine ⟨Hbel.out, ?_⟩
      rw [Htx.out, HS.out, Hpre.out]
      rfl
end Go.Proofs.YtocelmjncjompaaDoor

namespace Go.Proofs.YtocelmjncjompaaDoor
open Go.RowKit
open Lx (Tok)

theorem Lx.few_len {l : List Tok} (h : Lx.few l = true) : l.length ≤ 200 := by
  unfold Lx.few at h
  simp only [Bool.and_eq_true, decide_eq_true_eq] at h
  omega
theorem Lx.text_len {l : List Tok} {s : List UInt8} (h : Lx.text l = some s) : s.length ≤ 33 * l.length := by
  unfold Lx.text at h
  split at h
  · rename_i hv
    injection h with h
    subst h
    have := Lx.joinSp_len (l.map Tok.out) (fun x hx => by
      obtain ⟨t, ht, rfl⟩ := List.mem_map.1 hx
      exact Lx.valid_out (List.all_eq_true.1 hv t ht))
    rwa [List.length_map] at this
  · cases h

set_option maxHeartbeats 2000000 in
theorem lawBack (A : Option Addr) (c : Nat) (l : List Tok) (s : ByteArray) (w : World) (hT : Toks w w.heap.size A l) (hs : s.size ≤ 140737488355327) (he : Env w) :
    Calls Tryd.prog 5 #[.slice A l.length c, .string s] w fun e w' => e = .returned (.bool true) ∧ Below w.heap.size w w' := by
  have hsane := lSane w he
  have Hsane := Lib.hid hsane; have HE := Lib.hid he; have HT := Lib.hid hT
  clear hsane he hT
  cases hfew : Lx.few l
  · go_enter Tryd.func5, Tryd.ntmps5
    go_wp2_with fail
    refine (Hsane.out).mono ?_
    rintro e w1 ⟨rfl, hb1⟩
    have HB1 := Lib.hid hb1; clear hb1
    have hf := rFew A c l w1 ((HT.out.below HB1.out (Nat.le_refl _)).mono HB1.out.size)
    rw [hfew] at hf
    have HF := Lib.hid hf; clear hf
    go_wp2_with fail
    refine (HF.out).mono ?_
    rintro e w2 ⟨rfl, rfl⟩
    go_wp2_with fail
    go_ret
    exact ⟨rfl, HB1.out⟩
  by_cases hlen : 3000 < s.size
  · go_enter Tryd.func5, Tryd.ntmps5
    go_wp2_with fail
    refine (Hsane.out).mono ?_
    rintro e w1 ⟨rfl, hb1⟩
    have HB1 := Lib.hid hb1; clear hb1
    have hf := rFew A c l w1 ((HT.out.below HB1.out (Nat.le_refl _)).mono HB1.out.size)
    rw [hfew] at hf
    have HF := Lib.hid hf; clear hf
    go_wp2_with fail
    refine (HF.out).mono ?_
    rintro e w2 ⟨rfl, rfl⟩
    go_wp2_with fail
    go_ret
    exact ⟨rfl, HB1.out⟩
  have hlen' : s.size ≤ 3000 := by omega
  clear hlen
  have hl := Lx.few_len hfew
  cases hX : Lx.text l with
  | none =>
    have HX := Lib.hid hX; clear hX
    cases hL : Lx.lex s.data.toList with
    | err p =>
      have HL := Lib.hid hL; clear hL
      go_enter Tryd.func5, Tryd.ntmps5
      go_wp2_with fail
      refine (Hsane.out).mono ?_
      rintro e w1 ⟨rfl, hb1⟩
      have HB1 := Lib.hid hb1; clear hb1
      have ht1 := (HT.out.below HB1.out (Nat.le_refl _)).mono HB1.out.size
      have hf := rFew A c l w1 ht1
      rw [hfew] at hf
      have HF := Lib.hid hf; have HT1 := Lib.hid ht1; clear hf ht1
      go_wp2_with fail
      refine (HF.out).mono ?_
      rintro e w2 ⟨rfl, rfl⟩
      go_wp2_with fail
      refine (lTextErr A c l w1 (HE.out.next HB1.out) HT1.out (by omega) HX.out).mono ?_
      rintro e w2 ⟨rfl, hb2, he2⟩
      have HB2 := Lib.hid (HB1.out.trans (hb2.mono HB1.out.size)); have HE2 := Lib.hid he2
      clear hb2 he2
      go_wp2_with fail
      refine (lLexErr s p w2 HE2.out (by omega) HL.out).mono ?_
      rintro e w5 ⟨rfl, hb5, _⟩
      have HB5 := Lib.hid hb5; clear hb5
      go_wp2_with fail
      go_ret
      exact ⟨rfl, HB2.out.trans (HB5.out.mono HB2.out.size)⟩
    | ok ts =>
      have hY := Lx.text_of_lex hL
      obtain ⟨y, hy, hsy⟩ := Lx.lex_text hY
      have hlen2 := Lx.lex_len hL
      rw [Lx.ba_len] at hlen2
      have htl : ts.length ≤ 65536 := by omega
      obtain ⟨z, hz⟩ : ∃ z, z = Lx.joinSp (ts.map Tok.out) := ⟨_, rfl⟩
      rw [← hz] at hY hy hlen2
      have zy : (Lx.bs z).size ≤ 65536 := by rw [Lx.bs_size]; omega
      have HY := Lib.hid hY; have HL := Lib.hid hL
      have HN := Lib.hid (show Lx.lex (Lx.bs z).data.toList = .ok y by rw [Lx.bs_list]; exact hy)
      clear hY hL hy hz hlen2
      go_enter Tryd.func5, Tryd.ntmps5
      go_wp2_with fail
      refine (Hsane.out).mono ?_
      rintro e w1 ⟨rfl, hb1⟩
      have HB1 := Lib.hid hb1; clear hb1
      have ht1 := (HT.out.below HB1.out (Nat.le_refl _)).mono HB1.out.size
      have hf := rFew A c l w1 ht1
      rw [hfew] at hf
      have HF := Lib.hid hf; have HT1 := Lib.hid ht1; clear hf ht1
      go_wp2_with fail
      refine (HF.out).mono ?_
      rintro e w2 ⟨rfl, rfl⟩
      go_wp2_with fail
      refine (lTextErr A c l w1 (HE.out.next HB1.out) HT1.out (by omega) HX.out).mono ?_
      rintro e w2 ⟨rfl, hb2, he2⟩
      have HB2 := Lib.hid (HB1.out.trans (hb2.mono HB1.out.size)); have HE2 := Lib.hid he2
      clear hb2 he2
      go_wp2_with fail
      refine (lLexOk s ts w2 HE2.out (by omega) HL.out).mono ?_
      rintro e w5 ⟨A5, c5, rfl, hT5, hb5, he5⟩
      have HB5 := Lib.hid hb5; have HE5 := Lib.hid he5; have HT5 := Lib.hid hT5; clear hb5 he5 hT5
      go_wp2_with fail
      refine (lTextOk A5 c5 ts _ w5 HE5.out HT5.out (by omega) HY.out).mono ?_
      rintro e w6 ⟨rfl, hb6, he6⟩
      have HB6 := Lib.hid hb6; have HE6 := Lib.hid he6; clear hb6 he6
      go_wp2_with fail
      refine (lLexOk _ _ w6 HE6.out zy HN.out).mono ?_
      rintro e w7 ⟨A7, c7, rfl, hT7, hb7, he7⟩
      have HB7 := Lib.hid hb7
      have hs7 := lSame A5 A7 c5 c7 ts y w7 ((HT5.out.below (HB6.out.trans (hb7.mono HB6.out.size)) (Nat.le_refl _)).mono (Nat.le_trans HB6.out.size hb7.size)) hT7
      rw [hsy] at hs7
      have HS7 := Lib.hid hs7
      clear hb7 he7 hT7 hs7
      go_wp2_with fail
      refine (HS7.out).mono ?_
      rintro e w8 ⟨rfl, hb8⟩
      have HB8 := Lib.hid hb8; clear hb8
      go_wp2_with fail
      go_ret
      exact ⟨ret_bool (by simp), HB2.out.trans ((HB5.out.trans ((HB6.out.trans ((HB7.out.trans (HB8.out.mono HB7.out.size)).mono HB6.out.size)).mono HB5.out.size)).mono HB2.out.size)⟩
  | some x =>
    obtain ⟨m, hm, hsm⟩ := Lx.lex_text hX
    have hxl := Lx.text_len hX
    have zx : (Lx.bs x).size ≤ 65536 := by rw [Lx.bs_size]; omega
    have HM := Lib.hid (show Lx.lex (Lx.bs x).data.toList = .ok m by rw [Lx.bs_list]; exact hm)
    clear hm hxl
    have HX := Lib.hid hX; clear hX
    cases hL : Lx.lex s.data.toList with
    | err p =>
      have HL := Lib.hid hL; clear hL
      go_enter Tryd.func5, Tryd.ntmps5
      go_wp2_with fail
      refine (Hsane.out).mono ?_
      rintro e w1 ⟨rfl, hb1⟩
      have HB1 := Lib.hid hb1; clear hb1
      have ht1 := (HT.out.below HB1.out (Nat.le_refl _)).mono HB1.out.size
      have hf := rFew A c l w1 ht1
      rw [hfew] at hf
      have HF := Lib.hid hf; have HT1 := Lib.hid ht1; clear hf ht1
      go_wp2_with fail
      refine (HF.out).mono ?_
      rintro e w2 ⟨rfl, rfl⟩
      go_wp2_with fail
      refine (lTextOk A c l x w1 (HE.out.next HB1.out) HT1.out (by omega) HX.out).mono ?_
      rintro e w2 ⟨rfl, hb2, he2⟩
      have HBa := Lib.hid hb2; have HE2 := Lib.hid he2
      clear hb2 he2
      go_wp2_with fail
      refine (lLexOk _ _ w2 HE2.out zx HM.out).mono ?_
      rintro e w3 ⟨Am, cm, rfl, hTm, hbm, hem⟩
      have HBm := Lib.hid hbm; have HEm := Lib.hid hem
      have hs3 := lSame A Am c cm l m w3 ((HT1.out.below (HBa.out.trans (hbm.mono HBa.out.size)) (Nat.le_refl _)).mono (Nat.le_trans HBa.out.size hbm.size)) hTm
      rw [hsm] at hs3
      have HS3 := Lib.hid hs3
      clear hbm hem hTm hs3
      go_wp2_with fail
      refine (HS3.out).mono ?_
      rintro e w4 ⟨rfl, hb4⟩
      have HB2 := Lib.hid ((HB1.out.trans (HBa.out.mono HB1.out.size)).trans ((HBm.out.trans (hb4.mono HBm.out.size)).mono (Nat.le_trans HB1.out.size HBa.out.size)))
      have HE2 := Lib.hid (HEm.out.next hb4)
      clear hb4
      go_wp2_with fail
      refine (lLexErr s p w4 HE2.out (by omega) HL.out).mono ?_
      rintro e w5 ⟨rfl, hb5, _⟩
      have HB5 := Lib.hid hb5; clear hb5
      go_wp2_with fail
      go_ret
      exact ⟨rfl, HB2.out.trans (HB5.out.mono HB2.out.size)⟩
    | ok ts =>
      have hY := Lx.text_of_lex hL
      obtain ⟨y, hy, hsy⟩ := Lx.lex_text hY
      have hlen2 := Lx.lex_len hL
      rw [Lx.ba_len] at hlen2
      have htl : ts.length ≤ 65536 := by omega
      obtain ⟨z, hz⟩ : ∃ z, z = Lx.joinSp (ts.map Tok.out) := ⟨_, rfl⟩
      rw [← hz] at hY hy hlen2
      have zy : (Lx.bs z).size ≤ 65536 := by rw [Lx.bs_size]; omega
      have HY := Lib.hid hY; have HL := Lib.hid hL
      have HN := Lib.hid (show Lx.lex (Lx.bs z).data.toList = .ok y by rw [Lx.bs_list]; exact hy)
      clear hY hL hy hz hlen2
      go_enter Tryd.func5, Tryd.ntmps5
      go_wp2_with fail
      refine (Hsane.out).mono ?_
      rintro e w1 ⟨rfl, hb1⟩
      have HB1 := Lib.hid hb1; clear hb1
      have ht1 := (HT.out.below HB1.out (Nat.le_refl _)).mono HB1.out.size
      have hf := rFew A c l w1 ht1
      rw [hfew] at hf
      have HF := Lib.hid hf; have HT1 := Lib.hid ht1; clear hf ht1
      go_wp2_with fail
      refine (HF.out).mono ?_
      rintro e w2 ⟨rfl, rfl⟩
      go_wp2_with fail
      refine (lTextOk A c l x w1 (HE.out.next HB1.out) HT1.out (by omega) HX.out).mono ?_
      rintro e w2 ⟨rfl, hb2, he2⟩
      have HBa := Lib.hid hb2; have HE2 := Lib.hid he2
      clear hb2 he2
      go_wp2_with fail
      refine (lLexOk _ _ w2 HE2.out zx HM.out).mono ?_
      rintro e w3 ⟨Am, cm, rfl, hTm, hbm, hem⟩
      have HBm := Lib.hid hbm; have HEm := Lib.hid hem
      have hs3 := lSame A Am c cm l m w3 ((HT1.out.below (HBa.out.trans (hbm.mono HBa.out.size)) (Nat.le_refl _)).mono (Nat.le_trans HBa.out.size hbm.size)) hTm
      rw [hsm] at hs3
      have HS3 := Lib.hid hs3
      clear hbm hem hTm hs3
      go_wp2_with fail
      refine (HS3.out).mono ?_
      rintro e w4 ⟨rfl, hb4⟩
      have HB2 := Lib.hid ((HB1.out.trans (HBa.out.mono HB1.out.size)).trans ((HBm.out.trans (hb4.mono HBm.out.size)).mono (Nat.le_trans HB1.out.size HBa.out.size)))
      have HE2 := Lib.hid (HEm.out.next hb4)
      clear hb4
      go_wp2_with fail
      refine (lLexOk s ts w4 HE2.out (by omega) HL.out).mono ?_
      rintro e w5 ⟨A5, c5, rfl, hT5, hb5, he5⟩
      have HB5 := Lib.hid hb5; have HE5 := Lib.hid he5; have HT5 := Lib.hid hT5; clear hb5 he5 hT5
      go_wp2_with fail
      refine (lTextOk A5 c5 ts _ w5 HE5.out HT5.out (by omega) HY.out).mono ?_
      rintro e w6 ⟨rfl, hb6, he6⟩
      have HB6 := Lib.hid hb6; have HE6 := Lib.hid he6; clear hb6 he6
      go_wp2_with fail
      refine (lLexOk _ _ w6 HE6.out zy HN.out).mono ?_
      rintro e w7 ⟨A7, c7, rfl, hT7, hb7, he7⟩
      have HB7 := Lib.hid hb7
      have hs7 := lSame A5 A7 c5 c7 ts y w7 ((HT5.out.below (HB6.out.trans (hb7.mono HB6.out.size)) (Nat.le_refl _)).mono (Nat.le_trans HB6.out.size hb7.size)) hT7
      rw [hsy] at hs7
      have HS7 := Lib.hid hs7
      clear hb7 he7 hT7 hs7
      go_wp2_with fail
      refine (HS7.out).mono ?_
      rintro e w8 ⟨rfl, hb8⟩
      have HB8 := Lib.hid hb8; clear hb8
      go_wp2_with fail
      go_ret
      exact ⟨ret_bool (by simp), HB2.out.trans ((HB5.out.trans ((HB6.out.trans ((HB7.out.trans (HB8.out.mono HB7.out.size)).mono HB6.out.size)).mono HB5.out.size)).mono HB2.out.size)⟩
end Go.Proofs.YtocelmjncjompaaDoor
