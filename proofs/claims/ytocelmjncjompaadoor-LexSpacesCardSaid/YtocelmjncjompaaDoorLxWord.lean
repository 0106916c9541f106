/- A token's text is lexed as that token; the text of tokens is lexed as these tokens: plain laws. No program here. -/
import Derived.Test.YtocelmjncjompaaDoorLxExt
import Derived.Test.YtocelmjncjompaaDoorLxM
namespace Go.Proofs.YtocelmjncjompaaDoor.Lx

theorem isName_part {s : List UInt8} (h : isName s = true) : ∃ c r, s = c :: r ∧ letter c = true ∧ s.all part = true ∧ s.length ≤ 32 := by
  match s, h with
  | c :: r, h =>
    simp only [isName, Bool.and_eq_true, decide_eq_true_eq] at h
    exact ⟨c, r, rfl, h.1.2, h.2, h.1.1⟩
theorem takeWhile_all {p : UInt8 → Bool} : ∀ {l : List UInt8}, l.all p = true → l.takeWhile p = l
  | [], _ => rfl
  | c :: r, h => by
    simp only [List.all_cons, Bool.and_eq_true] at h
    rw [List.takeWhile_cons, if_pos h.1, takeWhile_all h.2]
/-- What may follow a token's text. -/
def Sep (rest : List UInt8) : Prop := rest = [] ∨ ∃ d r, rest = d :: r ∧ part d = false ∧ d ≠ 47
theorem sep_nil : Sep [] := Or.inl rfl
theorem sep_space {d : UInt8} {r : List UInt8} (h : space d = true) : Sep (d :: r) := Or.inr ⟨d, r, rfl, ((facts d).space_ h).1, ((facts d).space_ h).2.1⟩
theorem Sep.stop {rest : List UInt8} (h : Sep rest) : rest.takeWhile part = [] ∧ rest.takeWhile figure = [] := by
  rcases h with rfl | ⟨d, r, rfl, h1, _⟩
  · exact ⟨rfl, rfl⟩
  · have h2 : figure d = false := by
      unfold part at h1
      cases hh : figure d
      · rfl
      · rw [hh] at h1; simp at h1
    exact ⟨by simp [h1], by simp [h2]⟩

theorem lexAt_word {t : Tok} (hv : valid t = true) {rest : List UInt8} (hr : Sep rest) (p : Nat) : lexAt (t.out ++ rest) p = (lexAt rest (p + t.out.length)).cons { t with pos := p } := by
  have key : ∀ c r, t.out ++ rest = c :: r → step c r = .tok { t with pos := 0 } t.out.length → lexAt (t.out ++ rest) p = (lexAt rest (p + t.out.length)).cons { t with pos := p } := by
    intro c r e hs
    rw [e, lexAt_tok hs, ← e, List.drop_left]
  obtain ⟨k, x, n, q⟩ := t
  unfold valid at hv
  split at hv
  · rename_i hk
    simp only at hk
    subst hk
    simp only [Bool.and_eq_true, decide_eq_true_eq] at hv
    obtain ⟨hn, rfl⟩ := hv
    obtain ⟨c, r, rfl, hl, ha, _⟩ := isName_part hn
    have hout : (⟨1, c :: r, 0, q⟩ : Tok).out = c :: r := rfl
    rw [hout] at key ⊢
    refine key c (r ++ rest) rfl ?_
    rw [step_letter hl]
    have e : (c :: (r ++ rest)).takeWhile part = c :: r := by
      have := tw_app (p := part) (a := c :: r) (b := rest) (Or.inr (Or.inl hr.stop.1))
      rw [takeWhile_all ha] at this
      exact this
    rw [e, if_pos hn]
  · split at hv
    · rename_i hk
      simp only at hk
      subst hk
      simp only [Bool.and_eq_true, decide_eq_true_eq, List.isEmpty_iff] at hv
      obtain ⟨⟨rfl, h0⟩, h1⟩ := hv
      obtain ⟨u, rfl⟩ := Int.eq_ofNat_of_zero_le h0
      have hout : (⟨2, [], (u : Int), q⟩ : Tok).out = Lib.decDigits u := rfl
      rw [hout] at key ⊢
      obtain ⟨c, r, hd⟩ : ∃ c r, Lib.decDigits u = c :: r := by
        cases h : Lib.decDigits u with
        | nil => exact absurd h (digits_ne u)
        | cons c r => exact ⟨c, r, rfl⟩
      have ha := digits_all u
      have hnum := number_digits u (by omega)
      rw [hd] at key ha hnum ⊢
      refine key c (r ++ rest) rfl ?_
      have hf : figure c = true := by simp only [List.all_cons, Bool.and_eq_true] at ha; exact ha.1
      rw [step_figure hf]
      have e : (c :: (r ++ rest)).takeWhile figure = c :: r := by
        have := tw_app (p := figure) (a := c :: r) (b := rest) (Or.inr (Or.inl hr.stop.2))
        rw [takeWhile_all ha] at this
        exact this
      rw [e, hnum]
    · split at hv
      · rename_i hk
        simp only at hk
        subst hk
        simp only [Bool.and_eq_true, decide_eq_true_eq] at hv
        obtain ⟨h1, rfl⟩ := hv
        match x, h1 with
        | [c], h1 =>
          have hout : (⟨3, [c], 0, q⟩ : Tok).out = [c] := rfl
          rw [hout] at key ⊢
          refine key c rest rfl (step_sign h1 ?_)
          rcases hr with rfl | ⟨d, r, rfl, _, h3⟩
          · simp [comment]
          · have : ((some d : Option UInt8) == some 47) = false := beq_eq_false_iff_ne.2 (fun h => h3 (by injection h))
            simp only [comment, List.head?_cons, this, Bool.and_false]
      · cases hv

/-- A step that finds a token finds its text. -/
theorem step_out {c : UInt8} {r : List UInt8} {t : Tok} {k : Nat} (h : step c r = .tok t k) : t.out = (c :: r).take k ∧ t.out.length = k ∧ k ≤ (c :: r).length ∧ t.pos = 0 := by
  cases h1 : space c
  case true => rw [step_space h1] at h; cases h
  cases h2 : comment (c :: r)
  case true => rw [step_comment h2] at h; cases h
  cases h3 : letter c
  case true =>
    rw [step_letter h3] at h
    split at h
    · injection h with h h'
      subst h; subst h'
      exact ⟨(take_tw part _).symm, rfl, tw_le part _, rfl⟩
    · cases h
  cases h4 : figure c
  case true =>
    rw [step_figure h4] at h
    split at h
    · rename_i n hn
      injection h with h h'
      subst h; subst h'
      obtain ⟨hv, _, hp⟩ := number_val hn
      have e : (⟨2, [], (n : Int), 0⟩ : Tok).out = (c :: r).takeWhile figure := by
        show Lib.decDigits (n : Int).toNat = _
        rw [Int.toNat_natCast, hv]
        exact (digits_eq_iff (tw_all figure _) (by rw [List.takeWhile_cons, if_pos h4]; simp)).2 hp
      rw [e]
      exact ⟨(take_tw figure _).symm, rfl, tw_le figure _, rfl⟩
    · cases h
  cases h5 : sign c
  case true =>
    rw [step_sign h5 h2] at h
    injection h with h h'
    subst h; subst h'
    exact ⟨rfl, rfl, by simp, rfl⟩
  rw [step_err h1 h3 h4 h5] at h
  cases h

theorem same1_pos (t : Tok) (p : Int) : same1 t { t with pos := p } = true := by simp [same1]

/-- The text of tokens is lexed as these tokens. -/
theorem lexAt_text : ∀ (l : List Tok), (∀ t ∈ l, valid t = true) → ∀ p, ∃ m, lexAt (joinSp (l.map Tok.out)) p = .ok m ∧ same l m = true
  | [], _, p => ⟨[], rfl, rfl⟩
  | [t], h, p => by
    have := lexAt_word (h t (by simp)) sep_nil p
    rw [List.append_nil] at this
    refine ⟨[{ t with pos := p }], ?_, ?_⟩
    · show lexAt t.out p = _
      rw [this, lexAt_nil]
      rfl
    · simp only [same, same1_pos, Bool.and_true]
  | t :: u :: l, h, p => by
    obtain ⟨m, hm, hs⟩ := lexAt_text (u :: l) (fun x hx => h x (List.mem_cons_of_mem _ hx)) (p + t.out.length + 1)
    refine ⟨{ t with pos := p } :: m, ?_, ?_⟩
    · show lexAt (t.out ++ 32 :: joinSp ((u :: l).map Tok.out)) p = _
      rw [lexAt_word (h t (by simp)) (sep_space rfl) p, lexAt_skip (k := 1) (step_space rfl), List.drop_one, List.tail_cons, hm]
      rfl
    · simp only [same, same1_pos, Bool.true_and]
      exact hs
theorem lex_text {l : List Tok} {s : List UInt8} (h : text l = some s) : ∃ m, lex s = .ok m ∧ same l m = true := by
  unfold text at h
  split at h
  · rename_i hv
    injection h with h
    subst h
    exact lexAt_text l (fun t ht => List.all_eq_true.1 hv t ht) 0
  · cases h

/-- How long the texts of the tokens of a source are. -/
theorem lexN_len : ∀ (f : Nat) (l : List UInt8) (p : Nat) (ts : List Tok), lexN f l p = .ok ts → (joinSp (ts.map Tok.out)).length + 1 ≤ 2 * l.length + 1 ∧ ts.length ≤ l.length
  | f, [], p, ts, h => by
    have : ts = [] := by cases f <;> (simp only [lexN] at h; injection h with h; exact h.symm)
    subst this; simp [joinSp]
  | 0, _ :: _, p, ts, h => by
    simp only [lexN] at h; injection h with h
    subst h; simp [joinSp]
  | f + 1, c :: r, p, ts, h => by
    simp only [lexN] at h
    cases hs : step c r with
    | skip k =>
      rw [hs] at h
      have := lexN_len f _ _ ts h
      rw [List.length_drop] at this
      exact ⟨by omega, by omega⟩
    | err => rw [hs] at h; cases h
    | tok t k =>
      rw [hs] at h
      simp only at h
      cases hr : lexN f ((c :: r).drop k) (p + k) with
      | err q => rw [hr] at h; cases h
      | ok ts' =>
        rw [hr] at h
        simp only [Res.cons] at h
        injection h with h
        subst h
        obtain ⟨h1, h1', h2, _⟩ := step_out hs
        have h3 := step_tok_pos hs
        have h4 := lexN_len f _ _ ts' hr
        rw [List.length_drop] at h4
        have e : ({ t with pos := (p : Int) } : Tok).out = t.out := rfl
        refine ⟨?_, by simp only [List.length_cons] at h4 h2 ⊢; omega⟩
        rw [List.map_cons, e]
        cases ts' with
        | nil => simp only [List.map_nil, joinSp]; omega
        | cons u us =>
          simp only [List.map_cons, joinSp, List.length_append, List.length_cons] at h4 h2 ⊢
          omega
theorem lex_len {l : List UInt8} {ts : List Tok} (h : lex l = .ok ts) : (joinSp (ts.map Tok.out)).length ≤ 2 * l.length ∧ ts.length ≤ l.length := by
  have := lexN_len _ _ _ _ h
  omega
theorem text_of_lex {l : List UInt8} {ts : List Tok} (h : lex l = .ok ts) : text ts = some (joinSp (ts.map Tok.out)) := by
  unfold text
  rw [if_pos (List.all_eq_true.2 fun t ht => (lex_texts h t ht).1)]
end Go.Proofs.YtocelmjncjompaaDoor.Lx
