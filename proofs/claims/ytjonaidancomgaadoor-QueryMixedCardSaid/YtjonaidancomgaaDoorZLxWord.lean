/- Parts of the proof, joined into one text: LxWord, LxDec, LxBack, LxText. -/
import Derived.Test.YtjonaidancomgaaDoorZQyMixA
import Derived.Test.YtjonaidancomgaaDoorZLxI
import Derived.Laws.IdiomStrings

namespace Go.Proofs.YtjonaidancomgaaDoor.Lx

theorem isName_part {s : List UInt8} (h : isName s = true) : ∃ c r, s = c :: r ∧ letter c = true ∧ s.all part = true ∧ s.length ≤ 32 := by
  match s, h with
  | c :: r, h =>
    simp only [isName, Bool.and_eq_true, decide_eq_true_eq] at h
    exact ⟨c, r, rfl, h.1.2, h.2, h.1.1⟩
theorem takeWhile_all {p : UInt8 → Bool} : ∀ {l : List UInt8}, l.all p = true → l.takeWhile p = l
  | [], _ => rfl
  | c :: r, h => by
    simp only [List.all_cons, Bool.and_eq_true] at h
    rw [List.takeWhile_cons, if_pos h.1, takeWhile_all h.2]
/-- What may follow a token's text. -/
def Sep (rest : List UInt8) : Prop := rest = [] ∨ ∃ d r, rest = d :: r ∧ part d = false ∧ d ≠ 47
theorem sep_nil : Sep [] := Or.inl rfl
theorem sep_space {d : UInt8} {r : List UInt8} (h : space d = true) : Sep (d :: r) := Or.inr ⟨d, r, rfl, ((facts d).space_ h).1, ((facts d).space_ h).2.1⟩
theorem Sep.stop {rest : List UInt8} (h : Sep rest) : rest.takeWhile part = [] ∧ rest.takeWhile figure = [] := by
  rcases h with rfl | ⟨d, r, rfl, h1, _⟩
  · exact ⟨rfl, rfl⟩
  · have h2 : figure d = false := by
      unfold part at h1
      cases hh : figure d
      · rfl
      · rw [hh] at h1; simp at h1
    exact ⟨by simp [h1], by simp [h2]⟩

theorem lexAt_word {t : Tok} (hv : valid t = true) {rest : List UInt8} (hr : Sep rest) (p : Nat) : lexAt (t.out ++ rest) p = (lexAt rest (p + t.out.length)).cons { t with pos := p } := by
  have key : ∀ c r, t.out ++ rest = c :: r → step c r = .tok { t with pos := 0 } t.out.length → lexAt (t.out ++ rest) p = (lexAt rest (p + t.out.length)).cons { t with pos := p } := by
    intro c r e hs
    rw [e, lexAt_tok hs, ← e, List.drop_left]
  obtain ⟨k, x, n, q⟩ := t
  unfold valid at hv
  split at hv
  · rename_i hk
    simp only at hk
    subst hk
    simp only [Bool.and_eq_true, decide_eq_true_eq] at hv
    obtain ⟨hn, rfl⟩ := hv
    obtain ⟨c, r, rfl, hl, ha, _⟩ := isName_part hn
    have hout : (⟨1, c :: r, 0, q⟩ : Tok).out = c :: r := rfl
    rw [hout] at key ⊢
    refine key c (r ++ rest) rfl ?_
    rw [step_letter hl]
    have e : (c :: (r ++ rest)).takeWhile part = c :: r := by
      have := tw_app (p := part) (a := c :: r) (b := rest) (Or.inr (Or.inl hr.stop.1))
      rw [takeWhile_all ha] at this
      exact this
    rw [e, if_pos hn]
  · split at hv
    · rename_i hk
      simp only at hk
      subst hk
      simp only [Bool.and_eq_true, decide_eq_true_eq, List.isEmpty_iff] at hv
      obtain ⟨⟨rfl, h0⟩, h1⟩ := hv
      obtain ⟨u, rfl⟩ := Int.eq_ofNat_of_zero_le h0
      have hout : (⟨2, [], (u : Int), q⟩ : Tok).out = Lib.decDigits u := rfl
      rw [hout] at key ⊢
      obtain ⟨c, r, hd⟩ : ∃ c r, Lib.decDigits u = c :: r := by
        cases h : Lib.decDigits u with
        | nil => exact absurd h (digits_ne u)
        | cons c r => exact ⟨c, r, rfl⟩
      have ha := digits_all u
      have hnum := number_digits u (by omega)
      rw [hd] at key ha hnum ⊢
      refine key c (r ++ rest) rfl ?_
      have hf : figure c = true := by simp only [List.all_cons, Bool.and_eq_true] at ha; exact ha.1
      rw [step_figure hf]
      have e : (c :: (r ++ rest)).takeWhile figure = c :: r := by
        have := tw_app (p := figure) (a := c :: r) (b := rest) (Or.inr (Or.inl hr.stop.2))
        rw [takeWhile_all ha] at this
        exact this
      rw [e, hnum]
    · split at hv
      · rename_i hk
        simp only at hk
        subst hk
        simp only [Bool.and_eq_true, decide_eq_true_eq] at hv
        obtain ⟨h1, rfl⟩ := hv
        match x, h1 with
        | [c], h1 =>
          have hout : (⟨3, [c], 0, q⟩ : Tok).out = [c] := rfl
          rw [hout] at key ⊢
          refine key c rest rfl (step_sign h1 ?_)
          rcases hr with rfl | ⟨d, r, rfl, _, h3⟩
          · simp [comment]
          · have : ((some d : Option UInt8) == some 47) = false := beq_eq_false_iff_ne.2 (fun h => h3 (by injection h))
            simp only [comment, List.head?_cons, this, Bool.and_false]
      · cases hv

/-- A step that finds a token finds its text. -/
theorem step_out {c : UInt8} {r : List UInt8} {t : Tok} {k : Nat} (h : step c r = .tok t k) : t.out = (c :: r).take k ∧ t.out.length = k ∧ k ≤ (c :: r).length ∧ t.pos = 0 := by
  cases h1 : space c
  case true => rw [step_space h1] at h; cases h
  cases h2 : comment (c :: r)
  case true => rw [step_comment h2] at h; cases h
  cases h3 : letter c
  case true =>
    rw [step_letter h3] at h
    split at h
    · injection h with h h'
      subst h; subst h'
      exact ⟨(take_tw part _).symm, rfl, tw_le part _, rfl⟩
    · cases h
  cases h4 : figure c
  case true =>
    rw [step_figure h4] at h
    split at h
    · rename_i n hn
      injection h with h h'
      subst h; subst h'
      obtain ⟨hv, _, hp⟩ := number_val hn
      have e : (⟨2, [], (n : Int), 0⟩ : Tok).out = (c :: r).takeWhile figure := by
        show Lib.decDigits (n : Int).toNat = _
        rw [Int.toNat_natCast, hv]
        exact (digits_eq_iff (tw_all figure _) (by rw [List.takeWhile_cons, if_pos h4]; simp)).2 hp
      rw [e]
      exact ⟨(take_tw figure _).symm, rfl, tw_le figure _, rfl⟩
    · cases h
  cases h5 : sign c
  case true =>
    rw [step_sign h5 h2] at h
    injection h with h h'
    subst h; subst h'
    exact ⟨rfl, rfl, by simp, rfl⟩
  rw [step_err h1 h3 h4 h5] at h
  cases h

theorem same1_pos (t : Tok) (p : Int) : same1 t { t with pos := p } = true := by simp [same1]

/-- The text of tokens is lexed as these tokens. -/
theorem lexAt_text : ∀ (l : List Tok), (∀ t ∈ l, valid t = true) → ∀ p, ∃ m, lexAt (joinSp (l.map Tok.out)) p = .ok m ∧ same l m = true
  | [], _, p => ⟨[], rfl, rfl⟩
  | [t], h, p => by
    have := lexAt_word (h t (by simp)) sep_nil p
    rw [List.append_nil] at this
    refine ⟨[{ t with pos := p }], ?_, ?_⟩
    · show lexAt t.out p = _
      rw [this, lexAt_nil]
      rfl
    · simp only [same, same1_pos, Bool.and_true]
  | t :: u :: l, h, p => by
    obtain ⟨m, hm, hs⟩ := lexAt_text (u :: l) (fun x hx => h x (List.mem_cons_of_mem _ hx)) (p + t.out.length + 1)
    refine ⟨{ t with pos := p } :: m, ?_, ?_⟩
    · show lexAt (t.out ++ 32 :: joinSp ((u :: l).map Tok.out)) p = _
      rw [lexAt_word (h t (by simp)) (sep_space rfl) p, lexAt_skip (k := 1) (step_space rfl), List.drop_one, List.tail_cons, hm]
      rfl
    · simp only [same, same1_pos, Bool.true_and]
      exact hs
theorem lex_text {l : List Tok} {s : List UInt8} (h : text l = some s) : ∃ m, lex s = .ok m ∧ same l m = true := by
  unfold text at h
  split at h
  · rename_i hv
    injection h with h
    subst h
    exact lexAt_text l (fun t ht => List.all_eq_true.1 hv t ht) 0
  · cases h

/-- How long the texts of the tokens of a source are. -/
theorem lexN_len : ∀ (f : Nat) (l : List UInt8) (p : Nat) (ts : List Tok), lexN f l p = .ok ts → (joinSp (ts.map Tok.out)).length + 1 ≤ 2 * l.length + 1 ∧ ts.length ≤ l.length
  | f, [], p, ts, h => by
    have : ts = [] := by cases f <;> (simp only [lexN] at h; injection h with h; exact h.symm)
    subst this; simp [joinSp]
  | 0, _ :: _, p, ts, h => by
    simp only [lexN] at h; injection h with h
    subst h; simp [joinSp]
  | f + 1, c :: r, p, ts, h => by
    simp only [lexN] at h
    cases hs : step c r with
    | skip k =>
      rw [hs] at h
      have := lexN_len f _ _ ts h
      rw [List.length_drop] at this
      exact ⟨by omega, by omega⟩
    | err => rw [hs] at h; cases h
    | tok t k =>
      rw [hs] at h
      simp only at h
      cases hr : lexN f ((c :: r).drop k) (p + k) with
      | err q => rw [hr] at h; cases h
      | ok ts' =>
        rw [hr] at h
        simp only [Res.cons] at h
        injection h with h
        subst h
        obtain ⟨h1, h1', h2, _⟩ := step_out hs
        have h3 := step_tok_pos hs
        have h4 := lexN_len f _ _ ts' hr
        rw [List.length_drop] at h4
        have e : ({ t with pos := (p : Int) } : Tok).out = t.out := rfl
        refine ⟨?_, by simp only [List.length_cons] at h4 h2 ⊢; omega⟩
        rw [List.map_cons, e]
        cases ts' with
        | nil => simp only [List.map_nil, joinSp]; omega
        | cons u us =>
          simp only [List.map_cons, joinSp, List.length_append, List.length_cons] at h4 h2 ⊢
          omega
theorem lex_len {l : List UInt8} {ts : List Tok} (h : lex l = .ok ts) : (joinSp (ts.map Tok.out)).length ≤ 2 * l.length ∧ ts.length ≤ l.length := by
  have := lexN_len _ _ _ _ h
  omega
theorem text_of_lex {l : List UInt8} {ts : List Tok} (h : lex l = .ok ts) : text ts = some (joinSp (ts.map Tok.out)) := by
  unfold text
  rw [if_pos (List.all_eq_true.2 fun t ht => (lex_texts h t ht).1)]
end Go.Proofs.YtjonaidancomgaaDoor.Lx

namespace Go.Proofs.YtjonaidancomgaaDoor
open Go.RowKit
open Lx (Tok)

/-- The string of a slice of one byte that was just built. -/
theorem one_byte (W : World) (x : Int) (h0 : 0 ≤ x) (hx : x < 256) : (convert 28 9 (.slice (some ⟨W.heap.size, 0, none⟩) 1 1)).run Tryd.prog (W.alloc (.cells #[.int .u8 x] 5)) = .ok (.string (Lx.bs [UInt8.ofNat x.toNat])) (W.alloc (.cells #[.int .u8 x] 5)) := by
  refine run_convert_bytes_back (P := Tryd.prog) _ 28 9 5 ⟨W.heap.size, 0, none⟩ 1 [UInt8.ofNat x.toNat] Tryd.underlying28 Tryd.underlying5 Tryd.underlying9 ?_
  intro j hj
  have : j = 0 := by simpa using hj
  subst this
  show (W.alloc _).cell? ⟨W.heap.size, 0, none⟩ = _
  rw [World.cell?_alloc_mark]
  simp
  omega

/-- The last digit of a number. -/
def Lx.dg (m : Nat) : UInt8 := UInt8.ofNat (48 + m % 10)
theorem Lx.digits_small {m : Nat} (h : m < 10) : Lib.decDigits m = [Lx.dg m] := by rw [Lib.decDigits, dif_pos h]; unfold Lx.dg; rw [Nat.mod_eq_of_lt h]
theorem Lx.digits_great {m : Nat} (h : ¬ m < 10) : Lib.decDigits m = Lib.decDigits (m / 10) ++ [Lx.dg m] := by rw [Lib.decDigits, dif_neg h]; rfl
theorem one_digit (W : World) (m : Nat) : (convert 28 9 (.slice (some ⟨W.heap.size, 0, none⟩) 1 1)).run Tryd.prog (W.alloc (.cells #[.int .u8 (48 + (m : Int) % 10)] 5)) = .ok (.string (Lx.bs [Lx.dg m])) (W.alloc (.cells #[.int .u8 (48 + (m : Int) % 10)] 5)) := by
  rw [one_byte W _ (by omega) (by omega)]
  have : ((48 : Int) + (m : Int) % 10).toNat = 48 + m % 10 := by omega
  rw [this]
  rfl
theorem one_digit2 (W : World) (m : Nat) : (convert 28 9 (.slice (some ⟨W.heap.size, 0, none⟩) 1 1)).run Tryd.prog (W.alloc (.cells #[.int .u8 (48 + (m : Int) / 10 % 10)] 5)) = .ok (.string (Lx.bs [Lx.dg (m / 10)])) (W.alloc (.cells #[.int .u8 (48 + (m : Int) / 10 % 10)] 5)) := by
  rw [one_byte W _ (by omega) (by omega)]
  have : ((48 : Int) + (m : Int) / 10 % 10).toNat = 48 + m / 10 % 10 := by omega
  rw [this]
  rfl
theorem Lx.bs_app (a b : List UInt8) : Lx.bs a ++ Lx.bs b = Lx.bs (a ++ b) := by
  apply ByteArray.ext
  simp [Lx.bs]

theorem Lx.bs_sp (a b : List UInt8) : Lx.bs a ++ (⟨#[32]⟩ : ByteArray) ++ Lx.bs b = Lx.bs (a ++ 32 :: b) := by
  show Lx.bs a ++ Lx.bs [32] ++ Lx.bs b = _
  rw [Lx.bs_app, Lx.bs_app, List.append_assoc]
  rfl

theorem Lx.joinSp_snoc : ∀ (xs : List (List UInt8)) (x : List UInt8), Lx.joinSp (xs ++ [x]) = if xs = [] then x else Lx.joinSp xs ++ 32 :: x
  | [], x => rfl
  | [y], x => rfl
  | y :: z :: r, x => by
    have := Lx.joinSp_snoc (z :: r) x
    rw [if_neg (by simp)] at this ⊢
    show y ++ 32 :: Lx.joinSp (z :: r ++ [x]) = _
    rw [this]
    simp [Lx.joinSp]

/-- What the reference's text of the first tokens is. -/
def Lx.pre (l : List Tok) (k : Nat) : List UInt8 := Lx.joinSp ((l.take k).map Tok.out)
theorem Lx.pre_zero (l : List Tok) : Lx.pre l 0 = [] := rfl
theorem Lx.pre_next {l : List Tok} {k : Nat} {t : Tok} (h : l[k]? = some t) : Lx.pre l (k + 1) = if k = 0 then t.out else Lx.pre l k ++ 32 :: t.out := by
  unfold Lx.pre
  rw [List.take_add_one, h]
  have : ((l.take k).map Tok.out = []) ↔ k = 0 := by
    have hk := (List.getElem?_eq_some_iff.1 h).1
    rw [List.map_eq_nil_iff]
    constructor
    · intro e
      have := congrArg List.length e
      rw [List.length_take] at this
      simp only [List.length_nil] at this
      omega
    · rintro rfl; rfl
  simp only [Option.toList_some, List.map_append, List.map_cons, List.map_nil, Lx.joinSp_snoc, this]
theorem Lx.pre_len {l : List Tok} {k : Nat} (h : ∀ (j : Nat) (t : Tok), j < k → l[j]? = some t → Lx.valid t = true) (hk : k ≤ l.length) : (Lx.pre l k).length ≤ 33 * l.length := by
  unfold Lx.pre
  have := Lx.joinSp_len ((l.take k).map Tok.out) (fun x hx => by
    obtain ⟨t, ht, rfl⟩ := List.mem_map.1 hx
    obtain ⟨j, hj⟩ := List.mem_iff_getElem?.1 ht
    have hjk : j < k := by
      have := (List.getElem?_eq_some_iff.1 hj).1
      rw [List.length_take] at this
      omega
    rw [List.getElem?_take_of_lt hjk] at hj
    exact Lx.valid_out (h j t hjk hj))
  rw [List.length_map, List.length_take] at this
  omega

end Go.Proofs.YtjonaidancomgaaDoor

namespace Go.Proofs.YtjonaidancomgaaDoor
open Go.RowKit
open Lx (Tok)

theorem Lx.few_len {l : List Tok} (h : Lx.few l = true) : l.length ≤ 200 := by
  unfold Lx.few at h
  simp only [Bool.and_eq_true, decide_eq_true_eq] at h
  omega
theorem Lx.text_len {l : List Tok} {s : List UInt8} (h : Lx.text l = some s) : s.length ≤ 33 * l.length := by
  unfold Lx.text at h
  split at h
  · rename_i hv
    injection h with h
    subst h
    have := Lx.joinSp_len (l.map Tok.out) (fun x hx => by
      obtain ⟨t, ht, rfl⟩ := List.mem_map.1 hx
      exact Lx.valid_out (List.all_eq_true.1 hv t ht))
    rwa [List.length_map] at this
  · cases h

end Go.Proofs.YtjonaidancomgaaDoor

namespace Go.Proofs.YtjonaidancomgaaDoor
open Go.RowKit
open Lx (Tok)

theorem Lx.same_self : ∀ l : List Tok, Lx.same l l = true
  | [] => rfl
  | t :: r => by
    rw [Lx.same, Lx.same_self r]
    simp [Lx.same1]
theorem lTextAny (A : Option Addr) (c : Nat) (l : List Tok) (x : ByteArray) (e0 : Int) (w : World) (he : Env w) (h : Toks w w.heap.size A l) (hl : l.length ≤ 65536) (hx : (x, e0) = match Lx.text l with | some s => (Lx.bs s, 0) | none => (⟨#[]⟩, 90)) :
    Calls Tryd.prog 28 #[.slice A l.length c] w fun e w' => e = .returned (.tuple #[.string x, .int .i64 e0]) ∧ Below w.heap.size w w' := by
  refine (lText A c l w he h hl).mono fun e w' ⟨hb, h⟩ => ?_
  cases ht : Lx.text l with
  | none => rw [ht] at h hx; injection hx with h1 h2; subst h1; subst h2; exact ⟨h, hb⟩
  | some s => rw [ht] at h hx; injection hx with h1 h2; subst h1; subst h2; exact ⟨h, hb⟩
end Go.Proofs.YtjonaidancomgaaDoor
