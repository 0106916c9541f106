/- Parts of the proof, joined into one text: LxWord, LxDec, LxBack, LxText. -/
import Derived.Test.YtocelmjncjompaaDoorZLxExt
import Derived.Test.YtocelmjncjompaaDoorZLxM
import Derived.Laws.IdiomStrings

namespace Go.Proofs.YtocelmjncjompaaDoor.Lx

theorem isName_part {s : List UInt8} (h : isName s = true) : ∃ c r, s = c :: r ∧ letter c = true ∧ s.all part = true ∧ s.length ≤ 32 := by
  match s, h with
  | c :: r, h =>
    simp only [isName, Bool.and_eq_true, decide_eq_true_eq] at h
    exact ⟨c, r, rfl, h.1.2, h.2, h.1.1⟩
theorem takeWhile_all {p : UInt8 → Bool} : ∀ {l : List UInt8}, l.all p = true → l.takeWhile p = l
  | [], _ => rfl
  | c :: r, h => by
    simp only [List.all_cons, Bool.and_eq_true] at h
    rw [List.takeWhile_cons, if_pos h.1, takeWhile_all h.2]
/-- What may follow a token's text. -/
def Sep (rest : List UInt8) : Prop := rest = [] ∨ ∃ d r, rest = d :: r ∧ part d = false ∧ d ≠ 47
theorem sep_nil : Sep [] := Or.inl rfl
theorem sep_space {d : UInt8} {r : List UInt8} (h : space d = true) : Sep (d :: r) := Or.inr ⟨d, r, rfl, ((facts d).space_ h).1, ((facts d).space_ h).2.1⟩
theorem Sep.stop {rest : List UInt8} (h : Sep rest) : rest.takeWhile part = [] ∧ rest.takeWhile figure = [] := by
  rcases h with rfl | ⟨d, r, rfl, h1, _⟩
  · exact ⟨rfl, rfl⟩
  · have h2 : figure d = false := by
      unfold part at h1
      cases hh : figure d
      · rfl
      · rw [hh] at h1; simp at h1
    exact ⟨by simp [h1], by simp [h2]⟩

theorem lexAt_word {t : Tok} (hv : valid t = true) {rest : List UInt8} (hr : Sep rest) (p : Nat) : lexAt (t.out ++ rest) p = (lexAt rest (p + t.out.length)).cons { t with pos := p } := by
  have key : ∀ c r, t.out ++ rest = c :: r → step c r = .tok { t with pos := 0 } t.out.length → lexAt (t.out ++ rest) p = (lexAt rest (p + t.out.length)).cons { t with pos := p } := by
    intro c r e hs
    rw [e, lexAt_tok hs, ← e, List.drop_left]
  obtain ⟨k, x, n, q⟩ := t
  unfold valid at hv
  split at hv
  · rename_i hk
    simp only at hk
    subst hk
    simp only [Bool.and_eq_true, decide_eq_true_eq] at hv
    obtain ⟨hn, rfl⟩ := hv
    obtain ⟨c, r, rfl, hl, ha, _⟩ := isName_part hn
    have hout : (⟨1, c :: r, 0, q⟩ : Tok).out = c :: r := rfl
    rw [hout] at key ⊢
    refine key c (r ++ rest) rfl ?_
    rw [step_letter hl]
    have e : (c :: (r ++ rest)).takeWhile part = c :: r := by
      have := tw_app (p := part) (a := c :: r) (b := rest) (Or.inr (Or.inl hr.stop.1))
      rw [takeWhile_all ha] at this
      exact this
    rw [e, if_pos hn]
  · split at hv
    · rename_i hk
      simp only at hk
      subst hk
      simp only [Bool.and_eq_true, decide_eq_true_eq, List.isEmpty_iff] at hv
      obtain ⟨⟨rfl, h0⟩, h1⟩ := hv
      obtain ⟨u, rfl⟩ := Int.eq_ofNat_of_zero_le h0
      have hout : (⟨2, [], (u : Int), q⟩ : Tok).out = Lib.decDigits u := rfl
      rw [hout] at key ⊢
      obtain ⟨c, r, hd⟩ : ∃ c r, Lib.decDigits u = c :: r := by
        cases h : Lib.decDigits u with
        | nil => exact absurd h (digits_ne u)
        | cons c r => exact ⟨c, r, rfl⟩
      have ha := digits_all u
      have hnum := number_digits u (by omega)
      rw [hd] at key ha hnum ⊢
      refine key c (r ++ rest) rfl ?_
      have hf : figure c = true := by simp only [List.all_cons, Bool.and_eq_true] at ha; exact ha.1
      rw [step_figure hf]
      have e : (c :: (r ++ rest)).takeWhile figure = c :: r := by
        have := tw_app (p := figure) (a := c :: r) (b := rest) (Or.inr (Or.inl hr.stop.2))
        rw [takeWhile_all ha] at this
        exact this
      rw [e, hnum]
    · split at hv
      · rename_i hk
        simp only at hk
        subst hk
        simp only [Bool.and_eq_true, decide_eq_true_eq] at hv
        obtain ⟨h1, rfl⟩ := hv
        match x, h1 with
        | [c], h1 =>
          have hout : (⟨3, [c], 0, q⟩ : Tok).out = [c] := rfl
          rw [hout] at key ⊢
          refine key c rest rfl (step_sign h1 ?_)
          rcases hr with rfl | ⟨d, r, rfl, _, h3⟩
          · simp [comment]
          · have : ((some d : Option UInt8) == some 47) = false := beq_eq_false_iff_ne.2 (fun h => h3 (by injection h))
            simp only [comment, List.head?_cons, this, Bool.and_false]
      · cases hv

/-- A step that finds a token finds its text. -/
theorem step_out {c : UInt8} {r : List UInt8} {t : Tok} {k : Nat} (h : step c r = .tok t k) : t.out = (c :: r).take k ∧ t.out.length = k ∧ k ≤ (c :: r).length ∧ t.pos = 0 := by
  cases h1 : space c
  case true => rw [step_space h1] at h; cases h
  cases h2 : comment (c :: r)
  case true => rw [step_comment h2] at h; cases h
  cases h3 : letter c
  case true =>
    rw [step_letter h3] at h
    split at h
    · injection h with h h'
      subst h; subst h'
      exact ⟨(take_tw part _).symm, rfl, tw_le part _, rfl⟩
    · cases h
  cases h4 : figure c
  case true =>
    rw [step_figure h4] at h
    split at h
    · rename_i n hn
      injection h with h h'
      subst h; subst h'
      obtain ⟨hv, _, hp⟩ := number_val hn
      have e : (⟨2, [], (n : Int), 0⟩ : Tok).out = (c :: r).takeWhile figure := by
        show Lib.decDigits (n : Int).toNat = _
        rw [Int.toNat_natCast, hv]
        exact (digits_eq_iff (tw_all figure _) (by rw [List.takeWhile_cons, if_pos h4]; simp)).2 hp
      rw [e]
      exact ⟨(take_tw figure _).symm, rfl, tw_le figure _, rfl⟩
    · cases h
  cases h5 : sign c
  case true =>
    rw [step_sign h5 h2] at h
    injection h with h h'
    subst h; subst h'
    exact ⟨rfl, rfl, by simp, rfl⟩
  rw [step_err h1 h3 h4 h5] at h
  cases h

theorem same1_pos (t : Tok) (p : Int) : same1 t { t with pos := p } = true := by simp [same1]

/-- The text of tokens is lexed as these tokens. -/
theorem lexAt_text : ∀ (l : List Tok), (∀ t ∈ l, valid t = true) → ∀ p, ∃ m, lexAt (joinSp (l.map Tok.out)) p = .ok m ∧ same l m = true
  | [], _, p => ⟨[], rfl, rfl⟩
  | [t], h, p => by
    have := lexAt_word (h t (by simp)) sep_nil p
    rw [List.append_nil] at this
    refine ⟨[{ t with pos := p }], ?_, ?_⟩
    · show lexAt t.out p = _
      rw [this, lexAt_nil]
      rfl
    · simp only [same, same1_pos, Bool.and_true]
  | t :: u :: l, h, p => by
    obtain ⟨m, hm, hs⟩ := lexAt_text (u :: l) (fun x hx => h x (List.mem_cons_of_mem _ hx)) (p + t.out.length + 1)
    refine ⟨{ t with pos := p } :: m, ?_, ?_⟩
    · show lexAt (t.out ++ 32 :: joinSp ((u :: l).map Tok.out)) p = _
      rw [lexAt_word (h t (by simp)) (sep_space rfl) p, lexAt_skip (k := 1) (step_space rfl), List.drop_one, List.tail_cons, hm]
      rfl
    · simp only [same, same1_pos, Bool.true_and]
      exact hs
theorem lex_text {l : List Tok} {s : List UInt8} (h : text l = some s) : ∃ m, lex s = .ok m ∧ same l m = true := by
  unfold text at h
  split at h
  · rename_i hv
    injection h with h
    subst h
    exact lexAt_text l (fun t ht => List.all_eq_true.1 hv t ht) 0
  · cases h

/-- How long the texts of the tokens of a source are. -/
theorem lexN_len : ∀ (f : Nat) (l : List UInt8) (p : Nat) (ts : List Tok), lexN f l p = .ok ts → (joinSp (ts.map Tok.out)).length + 1 ≤ 2 * l.length + 1 ∧ ts.length ≤ l.length
  | f, [], p, ts, h => by
    have : ts = [] := by cases f <;> (simp only [lexN] at h; injection h with h; exact h.symm)
    subst this; simp [joinSp]
  | 0, _ :: _, p, ts, h => by
    simp only [lexN] at h; injection h with h
    subst h; simp [joinSp]
  | f + 1, c :: r, p, ts, h => by
    simp only [lexN] at h
    cases hs : step c r with
    | skip k =>
      rw [hs] at h
      have := lexN_len f _ _ ts h
      rw [List.length_drop] at this
      exact ⟨by omega, by omega⟩
    | err => rw [hs] at h; cases h
    | tok t k =>
      rw [hs] at h
      simp only at h
      cases hr : lexN f ((c :: r).drop k) (p + k) with
      | err q => rw [hr] at h; cases h
      | ok ts' =>
        rw [hr] at h
        simp only [Res.cons] at h
        injection h with h
        subst h
        obtain ⟨h1, h1', h2, _⟩ := step_out hs
        have h3 := step_tok_pos hs
        have h4 := lexN_len f _ _ ts' hr
        rw [List.length_drop] at h4
        have e : ({ t with pos := (p : Int) } : Tok).out = t.out := rfl
        refine ⟨?_, by simp only [List.length_cons] at h4 h2 ⊢; omega⟩
        rw [List.map_cons, e]
        cases ts' with
        | nil => simp only [List.map_nil, joinSp]; omega
        | cons u us =>
          simp only [List.map_cons, joinSp, List.length_append, List.length_cons] at h4 h2 ⊢
          omega
theorem lex_len {l : List UInt8} {ts : List Tok} (h : lex l = .ok ts) : (joinSp (ts.map Tok.out)).length ≤ 2 * l.length ∧ ts.length ≤ l.length := by
  have := lexN_len _ _ _ _ h
  omega
theorem text_of_lex {l : List UInt8} {ts : List Tok} (h : lex l = .ok ts) : text ts = some (joinSp (ts.map Tok.out)) := by
  unfold text
  rw [if_pos (List.all_eq_true.2 fun t ht => (lex_texts h t ht).1)]
end Go.Proofs.YtocelmjncjompaaDoor.Lx

namespace Go.Proofs.YtocelmjncjompaaDoor
open Go.RowKit
open Lx (Tok)

/-- The string of a slice of one byte that was just built. -/
theorem one_byte (W : World) (x : Int) (h0 : 0 ≤ x) (hx : x < 256) : (convert 38 9 (.slice (some ⟨W.heap.size, 0, none⟩) 1 1)).run Tryd.prog (W.alloc (.cells #[.int .u8 x] 5)) = .ok (.string (Lx.bs [UInt8.ofNat x.toNat])) (W.alloc (.cells #[.int .u8 x] 5)) := by
  refine run_convert_bytes_back (P := Tryd.prog) _ 38 9 5 ⟨W.heap.size, 0, none⟩ 1 [UInt8.ofNat x.toNat] Tryd.underlying38 Tryd.underlying5 Tryd.underlying9 ?_
  intro j hj
  have : j = 0 := by simpa using hj
  subst this
  show (W.alloc _).cell? ⟨W.heap.size, 0, none⟩ = _
  rw [World.cell?_alloc_mark]
  simp
  omega

/-- The last digit of a number. -/
def Lx.dg (m : Nat) : UInt8 := UInt8.ofNat (48 + m % 10)
theorem Lx.digits_small {m : Nat} (h : m < 10) : Lib.decDigits m = [Lx.dg m] := by rw [Lib.decDigits, dif_pos h]; unfold Lx.dg; rw [Nat.mod_eq_of_lt h]
theorem Lx.digits_great {m : Nat} (h : ¬ m < 10) : Lib.decDigits m = Lib.decDigits (m / 10) ++ [Lx.dg m] := by rw [Lib.decDigits, dif_neg h]; rfl
theorem one_digit (W : World) (m : Nat) : (convert 38 9 (.slice (some ⟨W.heap.size, 0, none⟩) 1 1)).run Tryd.prog (W.alloc (.cells #[.int .u8 (48 + (m : Int) % 10)] 5)) = .ok (.string (Lx.bs [Lx.dg m])) (W.alloc (.cells #[.int .u8 (48 + (m : Int) % 10)] 5)) := by
  rw [one_byte W _ (by omega) (by omega)]
  have : ((48 : Int) + (m : Int) % 10).toNat = 48 + m % 10 := by omega
  rw [this]
  rfl
theorem one_digit2 (W : World) (m : Nat) : (convert 38 9 (.slice (some ⟨W.heap.size, 0, none⟩) 1 1)).run Tryd.prog (W.alloc (.cells #[.int .u8 (48 + (m : Int) / 10 % 10)] 5)) = .ok (.string (Lx.bs [Lx.dg (m / 10)])) (W.alloc (.cells #[.int .u8 (48 + (m : Int) / 10 % 10)] 5)) := by
  rw [one_byte W _ (by omega) (by omega)]
  have : ((48 : Int) + (m : Int) / 10 % 10).toNat = 48 + m / 10 % 10 := by omega
  rw [this]
  rfl
theorem Lx.bs_app (a b : List UInt8) : Lx.bs a ++ Lx.bs b = Lx.bs (a ++ b) := by
  apply ByteArray.ext
  simp [Lx.bs]

theorem Lx.bs_sp (a b : List UInt8) : Lx.bs a ++ (⟨#[32]⟩ : ByteArray) ++ Lx.bs b = Lx.bs (a ++ 32 :: b) := by
  show Lx.bs a ++ Lx.bs [32] ++ Lx.bs b = _
  rw [Lx.bs_app, Lx.bs_app, List.append_assoc]
  rfl

set_option maxRecDepth 20000 in
theorem rDecimal (n : Nat) (w : World) (hn : n ≤ 1099511627776) :
    Calls Tryd.prog 50 #[.int .i64 n] w fun e w' => e = .returned (.string (Lx.bs (Lib.decDigits n))) ∧ Below w.heap.size w w' := by
  have hdl := Lx.digits_len n hn
  have HN := Lib.hid hn; have HD := Lib.hid hdl; clear hn hdl
  go_enter Tryd.func50, Tryd.ntmps50
  go_wp2
  rw [one_digit]
  go_wp2
  go_loopw [0, 3] (fun i s wr => ∃ (m : Nat) (x : List UInt8), m ≤ n ∧ i = .int .i64 m ∧ s = .string (Lx.bs (Lx.dg m :: x)) ∧ (Lib.decDigits n = if m < 10 then Lx.dg m :: x else Lib.decDigits (m / 10) ++ Lx.dg m :: x) ∧ Below w.heap.size w wr)
    (fun i _ _ => (intOf i).toNat)
  case atStart =>
    refine ⟨n, [], Nat.le_refl _, rfl, rfl, ?_, (Below.refl _ _).alloc (Nat.le_refl _) _⟩
    split
    · rename_i h; rw [Lx.digits_small h]
    · rename_i h; rw [Lx.digits_great h]
  case round =>
    obtain ⟨m, x, hm, rfl, rfl, hx, hbel⟩ := hrel
    have hwr := hbel.size
    have Hbel := Lib.hid hbel; clear hbel
    have hmb : m ≤ 1099511627776 := Nat.le_trans hm HN.out
    have hxl : x.length ≤ 13 := by
      have := HD.out
      rw [hx] at this
      split at this <;> simp at this <;> omega
    have hsz : (Lx.bs (Lx.dg m :: x)).size = x.length + 1 := by rw [Lx.bs_size]; rfl
    obtain ⟨S, hS⟩ : ∃ S, S = Lx.bs (Lx.dg m :: x) := ⟨_, rfl⟩
    rw [← hS] at hsz ⊢
    have HX := Lib.hid hx; have HS := Lib.hid hS
    clear hx hS
    by_cases h10 : m < 10
    · go_wp2
      go_ret
      have := HX.out
      rw [if_pos h10] at this
      refine ⟨?_, Hbel.out⟩
      rw [HS.out, this]
      rfl
    · have hdl := Lx.bs_size [Lx.dg (m / 10)]
      go_wp2
      rw [one_digit2]
      go_wp2
      go_roundw
      case rel =>
        refine ⟨m / 10, Lx.dg m :: x, by omega, by go_num, ?_, ?_, ?_⟩
        · rw [HS.out, Lx.bs_app]; rfl
        · rw [HX.out, if_neg h10]
          split
          · rename_i h; rw [Lx.digits_small h]; rfl
          · rename_i h; rw [Lx.digits_great h, List.append_assoc]; rfl
        · exact Hbel.out.trans ((Below.refl _ _).alloc hwr _)
      case measure => simp [intOf]; omega

theorem Lx.joinSp_snoc : ∀ (xs : List (List UInt8)) (x : List UInt8), Lx.joinSp (xs ++ [x]) = if xs = [] then x else Lx.joinSp xs ++ 32 :: x
  | [], x => rfl
  | [y], x => rfl
  | y :: z :: r, x => by
    have := Lx.joinSp_snoc (z :: r) x
    rw [if_neg (by simp)] at this ⊢
    show y ++ 32 :: Lx.joinSp (z :: r ++ [x]) = _
    rw [this]
    simp [Lx.joinSp]

/-- What the reference's text of the first tokens is. -/
def Lx.pre (l : List Tok) (k : Nat) : List UInt8 := Lx.joinSp ((l.take k).map Tok.out)
theorem Lx.pre_zero (l : List Tok) : Lx.pre l 0 = [] := rfl
theorem Lx.pre_next {l : List Tok} {k : Nat} {t : Tok} (h : l[k]? = some t) : Lx.pre l (k + 1) = if k = 0 then t.out else Lx.pre l k ++ 32 :: t.out := by
  unfold Lx.pre
  rw [List.take_add_one, h]
  have : ((l.take k).map Tok.out = []) ↔ k = 0 := by
    have hk := (List.getElem?_eq_some_iff.1 h).1
    rw [List.map_eq_nil_iff]
    constructor
    · intro e
      have := congrArg List.length e
      rw [List.length_take] at this
      simp only [List.length_nil] at this
      omega
    · rintro rfl; rfl
  simp only [Option.toList_some, List.map_append, List.map_cons, List.map_nil, Lx.joinSp_snoc, this]
theorem Lx.pre_len {l : List Tok} {k : Nat} (h : ∀ (j : Nat) (t : Tok), j < k → l[j]? = some t → Lx.valid t = true) (hk : k ≤ l.length) : (Lx.pre l k).length ≤ 33 * l.length := by
  unfold Lx.pre
  have := Lx.joinSp_len ((l.take k).map Tok.out) (fun x hx => by
    obtain ⟨t, ht, rfl⟩ := List.mem_map.1 hx
    obtain ⟨j, hj⟩ := List.mem_iff_getElem?.1 ht
    have hjk : j < k := by
      have := (List.getElem?_eq_some_iff.1 hj).1
      rw [List.length_take] at this
      omega
    rw [List.getElem?_take_of_lt hjk] at hj
    exact Lx.valid_out (h j t hjk hj))
  rw [List.length_map, List.length_take] at this
  omega

set_option maxHeartbeats 1000000 in
set_option maxRecDepth 20000 in
theorem rText (A : Option Addr) (c : Nat) (l : List Tok) (w : World) (h : Toks w w.heap.size A l) (hl : l.length ≤ 65536) :
    Calls Tryd.prog 20 #[.slice A l.length c] w (TextPost l w) := by
  go_enter Tryd.func20, Tryd.ntmps20
  go_wp2
  go_loopw [4, 5] (fun s i wr => ∃ (k : Nat), k ≤ l.length ∧ i = .int .i64 k ∧ s = .string (Lx.bs (Lx.pre l k)) ∧ (∀ (j : Nat) (t : Tok), j < k → l[j]? = some t → Lx.valid t = true) ∧ Below w.heap.size w wr)
    (fun _ i _ => l.length - (intOf i).toNat)
  case atStart => exact ⟨0, by omega, rfl, rfl, fun j t hj => absurd hj (by omega), Below.refl _ _⟩
  case round =>
    obtain ⟨k, hk, rfl, rfl, hh, hbel⟩ := hrel
    have H := h.below hbel (Nat.le_refl _)
    have hwr := hbel.size
    have hpl := Lx.pre_len hh hk
    have hps := Lx.bs_size (Lx.pre l k)
    obtain ⟨S, hS⟩ : ∃ S, S = Lx.bs (Lx.pre l k) := ⟨_, rfl⟩
    rw [← hS] at hps ⊢
    have Hh := Lib.hid hh; have Hbel := Lib.hid hbel; have HS := Lib.hid hS
    clear hh hbel hS
    by_cases hlt : k < l.length
    · obtain ⟨x, hx⟩ : ∃ x, l[k]? = some x := ⟨_, List.getElem?_eq_getElem (by omega)⟩
      obtain ⟨b, o, rfl, hb, h4⟩ := H.at_ k x hx
      have hxl := h.texts x (List.mem_of_getElem? hx)
      obtain ⟨p1, p2, p3, p4⟩ := h4
      have hval := fun W => rValid x.kind x.n x.pos (Lx.bs x.text) W (by rw [Lx.bs_size]; unfold maxLen; omega)
      rw [Lx.bs_list] at hval
      have Hx := Lib.hid hx; have HH := Lib.hid H
      clear hx H
      cases hs : Lx.valid x
      · rw [hs] at hval
        have Hval := Lib.hid hval
        have Hs := Lib.hid hs
        clear hval hs
        go_wp2_with fail
        refine (Hval.out _).mono ?_
        rintro e w1 ⟨rfl, hb1⟩
        have Hb1 := Lib.hid hb1; clear hb1
        go_wp2_with fail
        go_ret2
        refine ⟨Hbel.out.trans (Hb1.out.mono (by omega)), ?_⟩
        rw [Lx.text_none Hx.out Hs.out]
        rfl
      · rw [hs] at hval
        have hol := Lx.valid_out hs
        have hnext := Lx.pre_next Hx.out
        have hh2 : ∀ (j : Nat) (t : Tok), j < k + 1 → l[j]? = some t → Lx.valid t = true := fun j t hj ht => by
          by_cases e : j = k
          · subst e
            rw [Hx.out] at ht
            injection ht with ht
            rw [← ht]; exact hs
          · exact Hh.out j t (by omega) ht
        have Hval := Lib.hid hval; have Hs := Lib.hid hs; have Hn := Lib.hid hnext; have Hh2 := Lib.hid hh2
        clear hval hs hnext hh2
        go_wp2_with fail
        refine (Hval.out _).mono ?_
        rintro e w1 ⟨rfl, hb1⟩
        have q1 := hb1.cell (p := ⟨b, o + k * 4, none⟩) (show b < wr.heap.size by omega)
        have q2 := hb1.cell (p := ⟨b, o + k * 4 + 1, none⟩) (show b < wr.heap.size by omega)
        have q3 := hb1.cell (p := ⟨b, o + k * 4 + 2, none⟩) (show b < wr.heap.size by omega)
        rw [p1] at q1; rw [p2] at q2; rw [p3] at q3
        have hw1 := hb1.size
        have Hb1 := Lib.hid hb1; clear hb1 p1 p2 p3 p4
        by_cases h2 : x.kind = 2
        · obtain ⟨hn0, hn1⟩ := Lx.valid_num Hs.out h2
          have h2' : (x.kind == 2) = true := beq_iff_eq.2 h2
          obtain ⟨u, hu⟩ := Int.eq_ofNat_of_zero_le hn0
          have hdec := fun W => rDecimal u W (by omega)
          have hout : x.out = Lib.decDigits u := by unfold Tok.out; rw [if_pos h2, hu]; rfl
          rw [← hout] at hdec
          have hu' : ((u : Nat) : Int) = x.n := hu.symm
          rw [hu'] at hdec
          have hos := Lx.bs_size x.out
          have Hdec := Lib.hid hdec
          clear hdec hout hu hu' h2
          by_cases hk0 : k = 0
          · have hk0' : k < 1 := by omega
            have Hn2 := Lib.hid (Hn.out.trans (if_pos hk0))
            have H0 := Lib.hid hk0; clear hk0
            go_wp2_with fail
            refine (Hdec.out _).mono ?_
            rintro e w2 ⟨rfl, hb2⟩
            have Hb2 := Lib.hid hb2; clear hb2
            go_wp2_with fail
            go_roundw
            case rel => exact ⟨k + 1, by omega, by go_num, by rw [Hn2.out, HS.out, H0.out, Lx.bs_app]; rfl, Hh2.out, (Hbel.out.trans (Hb1.out.mono hwr)).trans (Hb2.out.mono (Nat.le_trans hwr hw1))⟩
            case measure => simp [intOf]; omega
          · have hk0' : 0 < k := by omega
            have Hn2 := Lib.hid (Hn.out.trans (if_neg hk0))
            have H0 := Lib.hid hk0; clear hk0
            go_wp2_with fail
            refine (Hdec.out _).mono ?_
            rintro e w2 ⟨rfl, hb2⟩
            have Hb2 := Lib.hid hb2; clear hb2
            go_wp2_with fail
            go_roundw
            case rel => exact ⟨k + 1, by omega, by go_num, by rw [Hn2.out, HS.out, Lx.bs_sp], Hh2.out, (Hbel.out.trans (Hb1.out.mono hwr)).trans (Hb2.out.mono (Nat.le_trans hwr hw1))⟩
            case measure => simp [intOf]; omega
        · have h2' : (x.kind == 2) = false := beq_eq_false_iff_ne.2 h2
          have hout : x.out = x.text := by unfold Tok.out; rw [if_neg h2]
          have hos := Lx.bs_size x.text
          rw [hout] at hol
          have Hout := Lib.hid hout
          clear hout h2
          by_cases hk0 : k = 0
          · have hk0' : k < 1 := by omega
            have Hn2 := Lib.hid (Hn.out.trans (if_pos hk0))
            have H0 := Lib.hid hk0; clear hk0
            go_wp2_with fail
            go_roundw
            case rel => exact ⟨k + 1, by omega, by go_num, by rw [Hn2.out, HS.out, H0.out, Hout.out, Lx.bs_app]; rfl, Hh2.out, Hbel.out.trans (Hb1.out.mono hwr)⟩
            case measure => simp [intOf]; omega
          · have hk0' : 0 < k := by omega
            have Hn2 := Lib.hid (Hn.out.trans (if_neg hk0))
            have H0 := Lib.hid hk0; clear hk0
            go_wp2_with fail
            go_roundw
            case rel => exact ⟨k + 1, by omega, by go_num, by rw [Hn2.out, HS.out, Hout.out, Lx.bs_sp], Hh2.out, Hbel.out.trans (Hb1.out.mono hwr)⟩
            case measure => simp [intOf]; omega
    · obtain rfl : k = l.length := by omega
      have htx := Lx.text_some fun j t hj => Hh.out j t (List.getElem?_eq_some_iff.1 hj).1 hj
      have hpre : Lx.pre l l.length = Lx.joinSp (l.map Tok.out) := by unfold Lx.pre; rw [List.take_length]
      have Htx := Lib.hid htx; have Hpre := Lib.hid hpre
      clear htx hpre
      go_wp2_with fail
      go_ret2
      refine ⟨Hbel.out, ?_⟩
      rw [Htx.out, HS.out, Hpre.out]
      rfl
end Go.Proofs.YtocelmjncjompaaDoor

namespace Go.Proofs.YtocelmjncjompaaDoor
open Go.RowKit
open Lx (Tok)

theorem Lx.few_len {l : List Tok} (h : Lx.few l = true) : l.length ≤ 200 := by
  unfold Lx.few at h
  simp only [Bool.and_eq_true, decide_eq_true_eq] at h
  omega
theorem Lx.text_len {l : List Tok} {s : List UInt8} (h : Lx.text l = some s) : s.length ≤ 33 * l.length := by
  unfold Lx.text at h
  split at h
  · rename_i hv
    injection h with h
    subst h
    have := Lx.joinSp_len (l.map Tok.out) (fun x hx => by
      obtain ⟨t, ht, rfl⟩ := List.mem_map.1 hx
      exact Lx.valid_out (List.all_eq_true.1 hv t ht))
    rwa [List.length_map] at this
  · cases h

set_option maxHeartbeats 2000000 in
theorem lawBack (A : Option Addr) (c : Nat) (l : List Tok) (s : ByteArray) (w : World) (hT : Toks w w.heap.size A l) (hs : s.size ≤ 140737488355327) (he : Env w) :
    Calls Tryd.prog 5 #[.slice A l.length c, .string s] w fun e w' => e = .returned (.bool true) ∧ Below w.heap.size w w' := by
  have hsane := lSane w he
  have Hsane := Lib.hid hsane; have HE := Lib.hid he; have HT := Lib.hid hT
  clear hsane he hT
  cases hfew : Lx.few l
  · go_enter Tryd.func5, Tryd.ntmps5
    go_wp2_with fail
    refine (Hsane.out).mono ?_
    rintro e w1 ⟨rfl, hb1⟩
    have HB1 := Lib.hid hb1; clear hb1
    have hf := rFew A c l w1 ((HT.out.below HB1.out (Nat.le_refl _)).mono HB1.out.size)
    rw [hfew] at hf
    have HF := Lib.hid hf; clear hf
    go_wp2_with fail
    refine (HF.out).mono ?_
    rintro e w2 ⟨rfl, rfl⟩
    go_wp2_with fail
    go_ret
    exact ⟨rfl, HB1.out⟩
  by_cases hlen : 3000 < s.size
  · go_enter Tryd.func5, Tryd.ntmps5
    go_wp2_with fail
    refine (Hsane.out).mono ?_
    rintro e w1 ⟨rfl, hb1⟩
    have HB1 := Lib.hid hb1; clear hb1
    have hf := rFew A c l w1 ((HT.out.below HB1.out (Nat.le_refl _)).mono HB1.out.size)
    rw [hfew] at hf
    have HF := Lib.hid hf; clear hf
    go_wp2_with fail
    refine (HF.out).mono ?_
    rintro e w2 ⟨rfl, rfl⟩
    go_wp2_with fail
    go_ret
    exact ⟨rfl, HB1.out⟩
  have hlen' : s.size ≤ 3000 := by omega
  clear hlen
  have hl := Lx.few_len hfew
  cases hX : Lx.text l with
  | none =>
    have HX := Lib.hid hX; clear hX
    cases hL : Lx.lex s.data.toList with
    | err p =>
      have HL := Lib.hid hL; clear hL
      go_enter Tryd.func5, Tryd.ntmps5
      go_wp2_with fail
      refine (Hsane.out).mono ?_
      rintro e w1 ⟨rfl, hb1⟩
      have HB1 := Lib.hid hb1; clear hb1
      have ht1 := (HT.out.below HB1.out (Nat.le_refl _)).mono HB1.out.size
      have hf := rFew A c l w1 ht1
      rw [hfew] at hf
      have HF := Lib.hid hf; have HT1 := Lib.hid ht1; clear hf ht1
      go_wp2_with fail
      refine (HF.out).mono ?_
      rintro e w2 ⟨rfl, rfl⟩
      go_wp2_with fail
      refine (lTextErr A c l w1 (HE.out.next HB1.out) HT1.out (by omega) HX.out).mono ?_
      rintro e w2 ⟨rfl, hb2, he2⟩
      have HB2 := Lib.hid (HB1.out.trans (hb2.mono HB1.out.size)); have HE2 := Lib.hid he2
      clear hb2 he2
      go_wp2_with fail
      refine (lLexErr s p w2 HE2.out (by omega) HL.out).mono ?_
      rintro e w5 ⟨rfl, hb5, _⟩
      have HB5 := Lib.hid hb5; clear hb5
      go_wp2_with fail
      go_ret
      exact ⟨rfl, HB2.out.trans (HB5.out.mono HB2.out.size)⟩
    | ok ts =>
      have hY := Lx.text_of_lex hL
      obtain ⟨y, hy, hsy⟩ := Lx.lex_text hY
      have hlen2 := Lx.lex_len hL
      rw [Lx.ba_len] at hlen2
      have htl : ts.length ≤ 65536 := by omega
      obtain ⟨z, hz⟩ : ∃ z, z = Lx.joinSp (ts.map Tok.out) := ⟨_, rfl⟩
      rw [← hz] at hY hy hlen2
      have zy : (Lx.bs z).size ≤ 65536 := by rw [Lx.bs_size]; omega
      have HY := Lib.hid hY; have HL := Lib.hid hL
      have HN := Lib.hid (show Lx.lex (Lx.bs z).data.toList = .ok y by rw [Lx.bs_list]; exact hy)
      clear hY hL hy hz hlen2
      go_enter Tryd.func5, Tryd.ntmps5
      go_wp2_with fail
      refine (Hsane.out).mono ?_
      rintro e w1 ⟨rfl, hb1⟩
      have HB1 := Lib.hid hb1; clear hb1
      have ht1 := (HT.out.below HB1.out (Nat.le_refl _)).mono HB1.out.size
      have hf := rFew A c l w1 ht1
      rw [hfew] at hf
      have HF := Lib.hid hf; have HT1 := Lib.hid ht1; clear hf ht1
      go_wp2_with fail
      refine (HF.out).mono ?_
      rintro e w2 ⟨rfl, rfl⟩
      go_wp2_with fail
      refine (lTextErr A c l w1 (HE.out.next HB1.out) HT1.out (by omega) HX.out).mono ?_
      rintro e w2 ⟨rfl, hb2, he2⟩
      have HB2 := Lib.hid (HB1.out.trans (hb2.mono HB1.out.size)); have HE2 := Lib.hid he2
      clear hb2 he2
      go_wp2_with fail
      refine (lLexOk s ts w2 HE2.out (by omega) HL.out).mono ?_
      rintro e w5 ⟨A5, c5, rfl, hT5, hb5, he5⟩
      have HB5 := Lib.hid hb5; have HE5 := Lib.hid he5; have HT5 := Lib.hid hT5; clear hb5 he5 hT5
      go_wp2_with fail
      refine (lTextOk A5 c5 ts _ w5 HE5.out HT5.out (by omega) HY.out).mono ?_
      rintro e w6 ⟨rfl, hb6, he6⟩
      have HB6 := Lib.hid hb6; have HE6 := Lib.hid he6; clear hb6 he6
      go_wp2_with fail
      refine (lLexOk _ _ w6 HE6.out zy HN.out).mono ?_
      rintro e w7 ⟨A7, c7, rfl, hT7, hb7, he7⟩
      have HB7 := Lib.hid hb7
      have hs7 := lSame A5 A7 c5 c7 ts y w7 ((HT5.out.below (HB6.out.trans (hb7.mono HB6.out.size)) (Nat.le_refl _)).mono (Nat.le_trans HB6.out.size hb7.size)) hT7
      rw [hsy] at hs7
      have HS7 := Lib.hid hs7
      clear hb7 he7 hT7 hs7
      go_wp2_with fail
      refine (HS7.out).mono ?_
      rintro e w8 ⟨rfl, hb8⟩
      have HB8 := Lib.hid hb8; clear hb8
      go_wp2_with fail
      go_ret
      exact ⟨ret_bool (by simp), HB2.out.trans ((HB5.out.trans ((HB6.out.trans ((HB7.out.trans (HB8.out.mono HB7.out.size)).mono HB6.out.size)).mono HB5.out.size)).mono HB2.out.size)⟩
  | some x =>
    obtain ⟨m, hm, hsm⟩ := Lx.lex_text hX
    have hxl := Lx.text_len hX
    have zx : (Lx.bs x).size ≤ 65536 := by rw [Lx.bs_size]; omega
    have HM := Lib.hid (show Lx.lex (Lx.bs x).data.toList = .ok m by rw [Lx.bs_list]; exact hm)
    clear hm hxl
    have HX := Lib.hid hX; clear hX
    cases hL : Lx.lex s.data.toList with
    | err p =>
      have HL := Lib.hid hL; clear hL
      go_enter Tryd.func5, Tryd.ntmps5
      go_wp2_with fail
      refine (Hsane.out).mono ?_
      rintro e w1 ⟨rfl, hb1⟩
      have HB1 := Lib.hid hb1; clear hb1
      have ht1 := (HT.out.below HB1.out (Nat.le_refl _)).mono HB1.out.size
      have hf := rFew A c l w1 ht1
      rw [hfew] at hf
      have HF := Lib.hid hf; have HT1 := Lib.hid ht1; clear hf ht1
      go_wp2_with fail
      refine (HF.out).mono ?_
      rintro e w2 ⟨rfl, rfl⟩
      go_wp2_with fail
      refine (lTextOk A c l x w1 (HE.out.next HB1.out) HT1.out (by omega) HX.out).mono ?_
      rintro e w2 ⟨rfl, hb2, he2⟩
      have HBa := Lib.hid hb2; have HE2 := Lib.hid he2
      clear hb2 he2
      go_wp2_with fail
      refine (lLexOk _ _ w2 HE2.out zx HM.out).mono ?_
      rintro e w3 ⟨Am, cm, rfl, hTm, hbm, hem⟩
      have HBm := Lib.hid hbm; have HEm := Lib.hid hem
      have hs3 := lSame A Am c cm l m w3 ((HT1.out.below (HBa.out.trans (hbm.mono HBa.out.size)) (Nat.le_refl _)).mono (Nat.le_trans HBa.out.size hbm.size)) hTm
      rw [hsm] at hs3
      have HS3 := Lib.hid hs3
      clear hbm hem hTm hs3
      go_wp2_with fail
      refine (HS3.out).mono ?_
      rintro e w4 ⟨rfl, hb4⟩
      have HB2 := Lib.hid ((HB1.out.trans (HBa.out.mono HB1.out.size)).trans ((HBm.out.trans (hb4.mono HBm.out.size)).mono (Nat.le_trans HB1.out.size HBa.out.size)))
      have HE2 := Lib.hid (HEm.out.next hb4)
      clear hb4
      go_wp2_with fail
      refine (lLexErr s p w4 HE2.out (by omega) HL.out).mono ?_
      rintro e w5 ⟨rfl, hb5, _⟩
      have HB5 := Lib.hid hb5; clear hb5
      go_wp2_with fail
      go_ret
      exact ⟨rfl, HB2.out.trans (HB5.out.mono HB2.out.size)⟩
    | ok ts =>
      have hY := Lx.text_of_lex hL
      obtain ⟨y, hy, hsy⟩ := Lx.lex_text hY
      have hlen2 := Lx.lex_len hL
      rw [Lx.ba_len] at hlen2
      have htl : ts.length ≤ 65536 := by omega
      obtain ⟨z, hz⟩ : ∃ z, z = Lx.joinSp (ts.map Tok.out) := ⟨_, rfl⟩
      rw [← hz] at hY hy hlen2
      have zy : (Lx.bs z).size ≤ 65536 := by rw [Lx.bs_size]; omega
      have HY := Lib.hid hY; have HL := Lib.hid hL
      have HN := Lib.hid (show Lx.lex (Lx.bs z).data.toList = .ok y by rw [Lx.bs_list]; exact hy)
      clear hY hL hy hz hlen2
      go_enter Tryd.func5, Tryd.ntmps5
      go_wp2_with fail
      refine (Hsane.out).mono ?_
      rintro e w1 ⟨rfl, hb1⟩
      have HB1 := Lib.hid hb1; clear hb1
      have ht1 := (HT.out.below HB1.out (Nat.le_refl _)).mono HB1.out.size
      have hf := rFew A c l w1 ht1
      rw [hfew] at hf
      have HF := Lib.hid hf; have HT1 := Lib.hid ht1; clear hf ht1
      go_wp2_with fail
      refine (HF.out).mono ?_
      rintro e w2 ⟨rfl, rfl⟩
      go_wp2_with fail
      refine (lTextOk A c l x w1 (HE.out.next HB1.out) HT1.out (by omega) HX.out).mono ?_
      rintro e w2 ⟨rfl, hb2, he2⟩
      have HBa := Lib.hid hb2; have HE2 := Lib.hid he2
      clear hb2 he2
      go_wp2_with fail
      refine (lLexOk _ _ w2 HE2.out zx HM.out).mono ?_
      rintro e w3 ⟨Am, cm, rfl, hTm, hbm, hem⟩
      have HBm := Lib.hid hbm; have HEm := Lib.hid hem
      have hs3 := lSame A Am c cm l m w3 ((HT1.out.below (HBa.out.trans (hbm.mono HBa.out.size)) (Nat.le_refl _)).mono (Nat.le_trans HBa.out.size hbm.size)) hTm
      rw [hsm] at hs3
      have HS3 := Lib.hid hs3
      clear hbm hem hTm hs3
      go_wp2_with fail
      refine (HS3.out).mono ?_
      rintro e w4 ⟨rfl, hb4⟩
      have HB2 := Lib.hid ((HB1.out.trans (HBa.out.mono HB1.out.size)).trans ((HBm.out.trans (hb4.mono HBm.out.size)).mono (Nat.le_trans HB1.out.size HBa.out.size)))
      have HE2 := Lib.hid (HEm.out.next hb4)
      clear hb4
      go_wp2_with fail
      refine (lLexOk s ts w4 HE2.out (by omega) HL.out).mono ?_
      rintro e w5 ⟨A5, c5, rfl, hT5, hb5, he5⟩
      have HB5 := Lib.hid hb5; have HE5 := Lib.hid he5; have HT5 := Lib.hid hT5; clear hb5 he5 hT5
      go_wp2_with fail
      refine (lTextOk A5 c5 ts _ w5 HE5.out HT5.out (by omega) HY.out).mono ?_
      rintro e w6 ⟨rfl, hb6, he6⟩
      have HB6 := Lib.hid hb6; have HE6 := Lib.hid he6; clear hb6 he6
      go_wp2_with fail
      refine (lLexOk _ _ w6 HE6.out zy HN.out).mono ?_
      rintro e w7 ⟨A7, c7, rfl, hT7, hb7, he7⟩
      have HB7 := Lib.hid hb7
      have hs7 := lSame A5 A7 c5 c7 ts y w7 ((HT5.out.below (HB6.out.trans (hb7.mono HB6.out.size)) (Nat.le_refl _)).mono (Nat.le_trans HB6.out.size hb7.size)) hT7
      rw [hsy] at hs7
      have HS7 := Lib.hid hs7
      clear hb7 he7 hT7 hs7
      go_wp2_with fail
      refine (HS7.out).mono ?_
      rintro e w8 ⟨rfl, hb8⟩
      have HB8 := Lib.hid hb8; clear hb8
      go_wp2_with fail
      go_ret
      exact ⟨ret_bool (by simp), HB2.out.trans ((HB5.out.trans ((HB6.out.trans ((HB7.out.trans (HB8.out.mono HB7.out.size)).mono HB6.out.size)).mono HB5.out.size)).mono HB2.out.size)⟩
end Go.Proofs.YtocelmjncjompaaDoor

namespace Go.Proofs.YtocelmjncjompaaDoor
open Go.RowKit
open Lx (Tok)

theorem Lx.same_self : ∀ l : List Tok, Lx.same l l = true
  | [] => rfl
  | t :: r => by
    rw [Lx.same, Lx.same_self r]
    simp [Lx.same1]
theorem lTextAny (A : Option Addr) (c : Nat) (l : List Tok) (x : ByteArray) (e0 : Int) (w : World) (he : Env w) (h : Toks w w.heap.size A l) (hl : l.length ≤ 65536) (hx : (x, e0) = match Lx.text l with | some s => (Lx.bs s, 0) | none => (⟨#[]⟩, 90)) :
    Calls Tryd.prog 19 #[.slice A l.length c] w fun e w' => e = .returned (.tuple #[.string x, .int .i64 e0]) ∧ Below w.heap.size w w' := by
  refine (lText A c l w he h hl).mono fun e w' ⟨hb, h⟩ => ?_
  cases ht : Lx.text l with
  | none => rw [ht] at h hx; injection hx with h1 h2; subst h1; subst h2; exact ⟨h, hb⟩
  | some s => rw [ht] at h hx; injection hx with h1 h2; subst h1; subst h2; exact ⟨h, hb⟩
theorem rTextAny (A : Option Addr) (c : Nat) (l : List Tok) (x : ByteArray) (e0 : Int) (w : World) (h : Toks w w.heap.size A l) (hl : l.length ≤ 65536) (hx : (x, e0) = match Lx.text l with | some s => (Lx.bs s, 0) | none => (⟨#[]⟩, 90)) :
    Calls Tryd.prog 20 #[.slice A l.length c] w fun e w' => e = .returned (.tuple #[.string x, .int .i64 e0]) ∧ Below w.heap.size w w' := by
  refine (rText A c l w h hl).mono fun e w' ⟨hb, h⟩ => ?_
  cases ht : Lx.text l with
  | none => rw [ht] at h hx; injection hx with h1 h2; subst h1; subst h2; exact ⟨h, hb⟩
  | some s => rw [ht] at h hx; injection hx with h1 h2; subst h1; subst h2; exact ⟨h, hb⟩

set_option maxHeartbeats 2000000 in
theorem lawTextSpec (A : Option Addr) (c : Nat) (l : List Tok) (A' : Option Addr) (c' : Nat) (l' : List Tok) (s : ByteArray) (w : World) (hT : Toks w w.heap.size A l) (hT' : Toks w w.heap.size A' l') (hs : s.size ≤ 140737488355327) (he : Env w) :
    Calls Tryd.prog 4 #[.slice A l.length c, .slice A' l'.length c', .string s] w fun e w' => e = .returned (.bool true) ∧ Below w.heap.size w w' := by
  have hsane := lSane w he
  have Hsane := Lib.hid hsane; have HE := Lib.hid he; have HT := Lib.hid hT; have HT' := Lib.hid hT'
  clear hsane he hT hT'
  cases hfew : Lx.few l
  · go_enter Tryd.func4, Tryd.ntmps4
    go_wp2_with fail
    refine (Hsane.out).mono ?_
    rintro e w1 ⟨rfl, hb1⟩
    have ht1 := (HT.out.below hb1 (Nat.le_refl _)).mono hb1.size
    have ht2 := (HT'.out.below hb1 (Nat.le_refl _)).mono hb1.size
    have hf := rFew A c l w1 ht1
    have hf2 := rFew A' c' l' w1 ht2
    rw [hfew] at hf
    have HF := Lib.hid hf; have HT1 := Lib.hid ht1; have HT2 := Lib.hid ht2; have HB1 := Lib.hid hb1; clear hf hf2 ht1 ht2 hb1
    go_wp2_with fail
    refine (HF.out).mono ?_
    rintro e w2 ⟨rfl, rfl⟩
    go_wp2_with fail
    go_ret
    exact ⟨rfl, HB1.out⟩
  cases hfew2 : Lx.few l'
  · go_enter Tryd.func4, Tryd.ntmps4
    go_wp2_with fail
    refine (Hsane.out).mono ?_
    rintro e w1 ⟨rfl, hb1⟩
    have ht1 := (HT.out.below hb1 (Nat.le_refl _)).mono hb1.size
    have ht2 := (HT'.out.below hb1 (Nat.le_refl _)).mono hb1.size
    have hf := rFew A c l w1 ht1
    have hf2 := rFew A' c' l' w1 ht2
    rw [hfew] at hf
    rw [hfew2] at hf2
    have HF := Lib.hid hf; have HF2 := Lib.hid hf2; have HT1 := Lib.hid ht1; have HT2 := Lib.hid ht2; have HB1 := Lib.hid hb1; clear hf hf2 ht1 ht2 hb1
    go_wp2_with fail
    refine (HF.out).mono ?_
    rintro e w2 ⟨rfl, rfl⟩
    go_wp2_with fail
    refine (HF2.out).mono ?_
    rintro e w2 ⟨rfl, rfl⟩
    go_wp2_with fail
    go_ret
    exact ⟨rfl, HB1.out⟩
  by_cases hlen : 1000 < s.size
  · go_enter Tryd.func4, Tryd.ntmps4
    go_wp2_with fail
    refine (Hsane.out).mono ?_
    rintro e w1 ⟨rfl, hb1⟩
    have ht1 := (HT.out.below hb1 (Nat.le_refl _)).mono hb1.size
    have ht2 := (HT'.out.below hb1 (Nat.le_refl _)).mono hb1.size
    have hf := rFew A c l w1 ht1
    have hf2 := rFew A' c' l' w1 ht2
    rw [hfew] at hf
    rw [hfew2] at hf2
    have HF := Lib.hid hf; have HF2 := Lib.hid hf2; have HT1 := Lib.hid ht1; have HT2 := Lib.hid ht2; have HB1 := Lib.hid hb1; clear hf hf2 ht1 ht2 hb1
    go_wp2_with fail
    refine (HF.out).mono ?_
    rintro e w2 ⟨rfl, rfl⟩
    go_wp2_with fail
    refine (HF2.out).mono ?_
    rintro e w2 ⟨rfl, rfl⟩
    go_wp2_with fail
    go_ret
    exact ⟨rfl, HB1.out⟩
  have hlen' : s.size ≤ 1000 := by omega
  clear hlen
  have hl := Lx.few_len hfew
  obtain ⟨x, e0, hx⟩ : ∃ (x : ByteArray) (e0 : Int), (x, e0) = match Lx.text l with | some s => (Lx.bs s, 0) | none => (⟨#[]⟩, 90) := ⟨_, _, rfl⟩
  obtain ⟨q, hq⟩ : ∃ q, Lx.same l l' = q := ⟨_, rfl⟩
  obtain ⟨nm, hnm⟩ : ∃ nm, Lx.isName s.data.toList = nm := ⟨_, rfl⟩
  have HX := Lib.hid hx; have HQ := Lib.hid hq; have HN := Lib.hid hnm
  clear hx hq hnm
  go_enter Tryd.func4, Tryd.ntmps4
  go_wp2_with fail
  refine (Hsane.out).mono ?_
  rintro e w1 ⟨rfl, hb1⟩
  have ht1 := (HT.out.below hb1 (Nat.le_refl _)).mono hb1.size
  have ht2 := (HT'.out.below hb1 (Nat.le_refl _)).mono hb1.size
  have hf := rFew A c l w1 ht1
  have hf2 := rFew A' c' l' w1 ht2
  rw [hfew] at hf
  rw [hfew2] at hf2
  have HF := Lib.hid hf; have HF2 := Lib.hid hf2; have HT1 := Lib.hid ht1; have HT2 := Lib.hid ht2; have HB1 := Lib.hid hb1; clear hf hf2 ht1 ht2 hb1
  go_wp2_with fail
  refine (HF.out).mono ?_
  rintro e w2 ⟨rfl, rfl⟩
  go_wp2_with fail
  refine (HF2.out).mono ?_
  rintro e w2 ⟨rfl, rfl⟩
  go_wp2_with fail
  refine (lTextAny A c l x e0 w1 (HE.out.next HB1.out) HT1.out (by omega) HX.out).mono ?_
  rintro e w3 ⟨rfl, hb3⟩
  have ht3 := (HT1.out.below hb3 (Nat.le_refl _)).mono hb3.size
  have HT3 := Lib.hid ht3; have HB3 := Lib.hid hb3; clear ht3 hb3
  go_wp2_with fail
  refine (rTextAny A c l x e0 w3 HT3.out (by omega) HX.out).mono ?_
  rintro e w4 ⟨rfl, hb4⟩
  have ht4 := (HT3.out.below hb4 (Nat.le_refl _)).mono hb4.size
  have ht4' := (HT2.out.below (HB3.out.trans (hb4.mono HB3.out.size)) (Nat.le_refl _)).mono (Nat.le_trans HB3.out.size hb4.size)
  have hs5 := lSame A A' c c' l l' w4 ht4 ht4'
  rw [HQ.out] at hs5
  have HS5 := Lib.hid hs5
  have HT4 := Lib.hid ht4; have HT4' := Lib.hid ht4'; have HB4 := Lib.hid hb4; clear ht4 ht4' hb4 hs5
  go_wp2_with fail
  refine (HS5.out).mono ?_
  rintro e w5 ⟨rfl, hb5⟩
  have ht5 := (HT4.out.below hb5 (Nat.le_refl _)).mono hb5.size
  have ht5' := (HT4'.out.below hb5 (Nat.le_refl _)).mono hb5.size
  have hs6 := rSame A A' c c' l l' w5 ht5 ht5'
  rw [HQ.out] at hs6
  have HS6 := Lib.hid hs6
  have HT5 := Lib.hid ht5; have HB5 := Lib.hid hb5; clear ht5 ht5' hb5 hs6
  go_wp2_with fail
  refine (HS6.out).mono ?_
  rintro e w6 ⟨rfl, n6, rfl⟩
  have hs7 := lSame A A c c l l (w5.drewN n6) (HT5.out.drewN n6) (HT5.out.drewN n6)
  rw [Lx.same_self] at hs7
  have HS7 := Lib.hid hs7; clear hs7
  go_wp2_with fail
  refine (HS7.out).mono ?_
  rintro e w7 ⟨rfl, hb7⟩
  have HB7 := Lib.hid hb7; clear hb7
  have hn8 := lName s w7 (by unfold maxLen; omega)
  have hn9 := rName s w7 (by unfold maxLen; omega)
  rw [HN.out] at hn8 hn9
  have HN8 := Lib.hid hn8; have HN9 := Lib.hid hn9; clear hn8 hn9
  go_wp2_with fail
  refine (HN8.out).mono ?_
  rintro e w8 ⟨rfl, rfl⟩
  go_wp2_with fail
  refine (HN9.out).mono ?_
  rintro e w9 ⟨rfl, rfl⟩
  go_wp2_with fail
  go_ret
  exact ⟨ret_bool (by simp), HB1.out.trans ((HB3.out.trans ((HB4.out.trans ((bel_drewN HB5.out n6).trans (HB7.out.mono HB5.out.size) |>.mono (Nat.le_refl _) |>.mono HB4.out.size)).mono HB3.out.size)).mono HB1.out.size)⟩
end Go.Proofs.YtocelmjncjompaaDoor
