/- Parts of the proof, joined into one text: LxStep, SxLen, SxCut. -/
import Derived.Test.YtjonaidancomgaaGreatDoorYLxPlain

namespace Go.Proofs.YtjonaidancomgaaGreatDoor.Lx

theorem all_bytes (P : UInt8 → Bool) (h : (List.range 256).all (fun n => P (UInt8.ofNat n)) = true) (c : UInt8) : P c = true := by
 have := List.all_eq_true.1 h c.toNat (List.mem_range.2 c.toNat_lt)
 simpa using this

def byteFacts (c : UInt8) : Bool := (cls c == 1) == space c && (cls c == 2) == letter c && (cls c == 3) == figure c && (cls c == 4) == sign c &&
  (!(letter c) || (!(space c) && !(figure c) && !(sign c) && c != 47)) && (!(figure c) || (!(space c) && !(letter c) && !(sign c) && c != 47)) && (!(sign c) || (!(space c) && !(letter c) && !(figure c) && !(part c))) && (!(space c) || (!(part c) && c != 47 && !(sign c))) &&
  (c != 47 || sign c) && (c != 32 || space c) && (c != 10 || space c)
theorem byte_facts (c : UInt8) : byteFacts c = true := all_bytes byteFacts (by decide +kernel) c

theorem cls_range (c : UInt8) : cls c = 0 ∨ cls c = 1 ∨ cls c = 2 ∨ cls c = 3 ∨ cls c = 4 ∨ cls c = 5 := by
 unfold cls; repeat' split
 all_goals simp

structure Facts (c : UInt8) : Prop where
 c1 : (cls c == 1) = space c
 c2 : (cls c == 2) = letter c
 c3 : (cls c == 3) = figure c
 c4 : (cls c == 4) = sign c
 letter_ : letter c = true → space c = false ∧ figure c = false ∧ sign c = false ∧ c ≠ 47
 figure_ : figure c = true → space c = false ∧ letter c = false ∧ sign c = false ∧ c ≠ 47
 sign_ : sign c = true → space c = false ∧ letter c = false ∧ figure c = false ∧ part c = false
 space_ : space c = true → part c = false ∧ c ≠ 47 ∧ sign c = false
 slash : c = 47 → sign c = true
theorem facts (c : UInt8) : Facts c := by
 have h := byte_facts c
 unfold byteFacts at h
 simp only [Bool.and_eq_true, beq_iff_eq] at h
 obtain ⟨⟨⟨⟨⟨⟨⟨⟨⟨⟨h1, h2⟩, h3⟩, h4⟩, h5⟩, h6⟩, h7⟩, h8⟩, h9⟩, _⟩, _⟩ := h
 refine ⟨h1, h2, h3, h4, fun h => ?_, fun h => ?_, fun h => ?_, fun h => ?_, fun h => ?_⟩
 ·rw [h] at h5; simp at h5; exact ⟨h5.1.1.1, h5.1.1.2, h5.1.2, h5.2⟩
 ·rw [h] at h6; simp at h6; exact ⟨h6.1.1.1, h6.1.1.2, h6.1.2, h6.2⟩
 ·rw [h] at h7; simp at h7; exact ⟨h7.1.1.1, h7.1.1.2, h7.1.2, h7.2⟩
 ·rw [h] at h8; simp at h8; exact ⟨h8.1.1, h8.1.2, h8.2⟩
 ·subst h; rfl

def comment (l : List UInt8) : Bool := match l with | c :: r => c == 47 && r.head? == some 47 | [] => false

theorem step_space {c : UInt8} {r : List UInt8} (h : space c = true) : step c r = .skip 1 := by unfold step; rw [h]; rfl
theorem step_comment {c : UInt8} {r : List UInt8} (h : comment (c :: r) = true) : step c r = .skip ((c :: r).takeWhile (· != 10)).length := by
 have h' : (c == 47 && r.head? == some 47) = true := h
 have hc : c = 47 := by simp at h'; exact h'.1
 have hs : space c = false := by rw [hc]; rfl
 unfold step
 rw [hs, h']; rfl
theorem not_comment {c : UInt8} {r : List UInt8} (h : c ≠ 47) : (c == 47 && r.head? == some 47) = false := by
 rw [show (c == 47) = false from beq_eq_false_iff_ne.2 h]; rfl
theorem step_letter {c : UInt8} {r : List UInt8} (h : letter c = true) :
  step c r = if isName ((c :: r).takeWhile part) then .tok ⟨1, (c :: r).takeWhile part, 0, 0⟩ ((c :: r).takeWhile part).length else .err := by
 obtain ⟨h1, _, _, h4⟩ := (facts c).letter_ h
 unfold step
 rw [h1, not_comment h4, h]; rfl
theorem step_figure {c : UInt8} {r : List UInt8} (h : figure c = true) :
  step c r = match number ((c :: r).takeWhile figure) with
   | some n => .tok ⟨2, [], n, 0⟩ ((c :: r).takeWhile figure).length
   | none => .err := by
 obtain ⟨h1, h2, _, h4⟩ := (facts c).figure_ h
 unfold step
 rw [h1, not_comment h4, h2, h]; rfl
theorem step_sign {c : UInt8} {r : List UInt8} (h : sign c = true) (hc : comment (c :: r) = false) : step c r = .tok ⟨3, [c], 0, 0⟩ 1 := by
 obtain ⟨h1, h2, h3, _⟩ := (facts c).sign_ h
 have h' : (c == 47 && r.head? == some 47) = false := hc
 unfold step
 rw [h1, h', h2, h3, h]; rfl
theorem step_err {c : UInt8} {r : List UInt8} (h1 : space c = false) (h2 : letter c = false) (h3 : figure c = false) (h4 : sign c = false) : step c r = .err := by
 have h5 : c ≠ 47 := fun e => by have := (facts c).slash e; rw [h4] at this; cases this
 unfold step
 rw [h1, not_comment h5, h2, h3, h4]; rfl

theorem lexAt_spaces : ∀ (l : List UInt8) (p : Nat), lexAt l p = lexAt (l.drop (l.takeWhile space).length) (p + (l.takeWhile space).length)
 | [], p => rfl
 | c :: r, p => by
  cases h : space c
  ·simp [h]
  ·rw [lexAt_cons, step_space h]
   simp only [List.takeWhile_cons, h, if_true, List.length_cons, List.drop_succ_cons, List.drop_zero]
   rw [lexAt_spaces r (p + 1), Nat.add_assoc, Nat.add_comm 1]
theorem lexAt_skip {c : UInt8} {r : List UInt8} {k : Nat} (h : step c r = .skip k) (p : Nat) : lexAt (c :: r) p = lexAt ((c :: r).drop k) (p + k) := by
 rw [lexAt_cons, h]
theorem lexAt_tok {c : UInt8} {r : List UInt8} {t : Tok} {k : Nat} (h : step c r = .tok t k) (p : Nat) : lexAt (c :: r) p = (lexAt ((c :: r).drop k) (p + k)).cons { t with pos := p } := by
 rw [lexAt_cons, h]
theorem lexAt_err {c : UInt8} {r : List UInt8} (h : step c r = .err) (p : Nat) : lexAt (c :: r) p = .err p := by
 rw [lexAt_cons, h]

theorem step_valid {c : UInt8} {r : List UInt8} {t : Tok} {k : Nat} (h : step c r = .tok t k) : valid t = true ∧ k ≤ (c :: r).length ∧ t.text.length ≤ 32 := by
 have hf := facts c
 cases h1 : space c
 case true => rw [step_space h1] at h; cases h
 cases h2 : comment (c :: r)
 case true => rw [step_comment h2] at h; cases h
 have twl : ∀ p : UInt8 → Bool, ((c :: r).takeWhile p).length ≤ (c :: r).length := fun p => (List.takeWhile_prefix p).length_le
 cases h3 : letter c
 case true =>
  rw [step_letter h3] at h
  split at h
  ·rename_i hn
   injection h with h h'
   subst h; subst h'
   refine ⟨(show (isName _ && decide ((0 : Int) = 0)) = true by rw [hn]; rfl), twl _, ?_⟩
   have hn2 := hn
   unfold isName at hn2
   split at hn2
   ·cases hn2
   ·rename_i e
    simp only [Bool.and_eq_true, decide_eq_true_eq] at hn2
    simp only
    exact hn2.1.1
  ·cases h
 cases h4 : figure c
 case true =>
  rw [step_figure h4] at h
  split at h
  ·rename_i n hn
   injection h with h h'
   subst h; subst h'
   obtain ⟨_, hb, _⟩ := number_val hn
   exact ⟨(show (([] : List UInt8).isEmpty && decide (0 ≤ (n : Int)) && decide ((n : Int) ≤ 1099511627776)) = true by simp; omega), twl _, by simp⟩
  ·cases h
 cases h5 : sign c
 case true =>
  rw [step_sign h5 h2] at h
  injection h with h h'
  subst h; subst h'
  exact ⟨(show (sign c && decide ((0 : Int) = 0)) = true by rw [h5]; rfl), by simp, by simp⟩
 rw [step_err h1 h3 h4 h5] at h
 cases h

theorem lexN_texts : ∀ (f : Nat) (l : List UInt8) (p : Nat) (ts : List Tok), lexN f l p = .ok ts → ∀ t ∈ ts, valid t = true ∧ t.text.length ≤ 32
 | _, [], p, ts, h => by
  have : ts = [] := by cases ‹Nat› <;> (simp only [lexN] at h; injection h with h; exact h.symm)
  subst this; intro t ht; simp at ht
 | 0, _ :: _, p, ts, h => by
  simp only [lexN] at h; injection h with h
  subst h; intro t ht; simp at ht
 | f + 1, c :: r, p, ts, h => by
  simp only [lexN] at h
  cases hs : step c r with
  | skip k => rw [hs] at h; exact lexN_texts f _ _ ts h
  | err => rw [hs] at h; cases h
  | tok t k =>
   rw [hs] at h
   simp only at h
   cases hr : lexN f ((c :: r).drop k) (p + k) with
   | err q => rw [hr] at h; cases h
   | ok ts' =>
    rw [hr] at h
    simp only [Res.cons] at h
    injection h with h
    subst h
    intro u hu
    rcases List.mem_cons.1 hu with rfl | hu
    ·obtain ⟨h1, _, h3⟩ := step_valid hs
     exact ⟨h1, h3⟩
    ·exact lexN_texts f _ _ ts' hr u hu
theorem lex_texts {l : List UInt8} {ts : List Tok} (h : lex l = .ok ts) : ∀ t ∈ ts, valid t = true ∧ t.text.length ≤ 32 := lexN_texts _ _ _ _ h

theorem tok_lex {D r : List UInt8} {c : UInt8} {a k : Nat} {t : Tok} (l : List Tok) (hd : D.drop a = c :: r) (h : step c r = .tok t k) : (lexAt (D.drop (a + k)) (a + k)).app (l ++ [{ t with pos := a }]) = (lexAt (D.drop a) a).app l := by
 rw [hd, lexAt_tok h, Res.app_cons, ← hd, List.drop_drop]
theorem skip_lex {D r : List UInt8} {c : UInt8} {a k : Nat} (l : List Tok) (hd : D.drop a = c :: r) (h : step c r = .skip k) : (lexAt (D.drop (a + k)) (a + k)).app l = (lexAt (D.drop a) a).app l := by
 rw [hd, lexAt_skip h, ← hd, List.drop_drop]
theorem spaces_lex {D : List UInt8} {a : Nat} (l : List Tok) : (lexAt (D.drop (a + ((D.drop a).takeWhile space).length)) (a + ((D.drop a).takeWhile space).length)).app l = (lexAt (D.drop a) a).app l := by
 rw [lexAt_spaces (D.drop a) a, List.drop_drop]
theorem err_lex {D r : List UInt8} {c : UInt8} {a : Nat} (l : List Tok) (hd : D.drop a = c :: r) (h : step c r = .err) : (lexAt (D.drop a) a).app l = .err a := by
 rw [hd, lexAt_err h]; rfl
end Go.Proofs.YtjonaidancomgaaGreatDoor.Lx

namespace Go.Proofs.YtjonaidancomgaaGreatDoor.Sx
open Lx (Tok)

def Eats {α : Type} (k : Nat) (l : List Tok) (r : R α) : Prop := ∀ a r', r = .ok a r' → r'.length + k ≤ l.length
theorem Eats.bind {α β : Type} {k j : Nat} {l : List Tok} {r : R α} {f : α → List Tok → R β} (h : Eats k l r) (hf : ∀ a l', Eats j l' (f a l')) : Eats (k + j) l (r.bind f) := by
 intro b r' e
 cases hr : r with
 | bad p x => rw [hr] at e; cases e
 | ok a l' =>
  rw [hr] at e
  have h1 := h a l' hr
  have h2 := hf a l' b r' e
  omega
theorem Eats.mono {α : Type} {k j : Nat} {l : List Tok} {r : R α} (h : Eats k l r) (hj : j ≤ k) : Eats j l r := fun a r' e => by have := h a r' e; omega
theorem Eats.ok {α : Type} (a : α) (l : List Tok) : Eats 0 l (R.ok a l) := fun b r' e => by injection e with _ e; subst e; omega
theorem Eats.fail {α : Type} (last : Int) (l0 : List Tok) (e : Int) (k : Nat) (l : List Tok) : Eats k l (Sx.fail last l0 e : R α) := fun a r' h => by unfold Sx.fail at h; cases h
section
variable (last : Int)
theorem hit_tail {k : Int} {x : List UInt8} {l : List Tok} (h : hit k x l = true) : l.tail.length + 1 = l.length := by
 cases l with
 | nil => cases h
 | cons t r => simp
theorem eats_need (k : Int) (x : List UInt8) (l : List Tok) : Eats 1 l (need last k x l) := by
 unfold need
 split
 ·rename_i h
  intro a r' e
  injection e with _ e
  subst e
  have := hit_tail h
  omega
 ·exact .fail _ _ _ _ _
theorem eats_name (l : List Tok) : Eats 1 l (name last l) := by
 unfold name
 split
 ·split
  ·intro a r' e
   injection e with _ e
   subst e
   simp
  ·exact .fail _ _ _ _ _
 ·exact .fail _ _ _ _ _
theorem eats_number (lo hi : Int) (l : List Tok) : Eats 1 l (number last lo hi l) := by
 unfold number
 split
 ·split
  ·intro a r' e
   injection e with _ e
   subst e
   simp
  ·exact .fail _ _ _ _ _
 ·exact .fail _ _ _ _ _
theorem eats_ratio (l : List Tok) : Eats 3 l (ratio last l) := (eats_number last _ _ l).bind (j := 2) fun _ l => (eats_need last _ _ l).bind (j := 1) fun _ l => (eats_number last _ _ l).bind (j := 0) fun _ l => .ok _ l
theorem eats_tail {α : Type} {k : Int} {x : List UInt8} {l : List Tok} {r : R α} {j : Nat} (h : hit k x l = true) (hr : Eats j l.tail r) : Eats (j + 1) l r := fun a r' e => by
 have h1 := hit_tail h
 have h2 := hr a r' e
 omega
theorem eats_ref (l : List Tok) : Eats 1 l (ref last l) := by
 unfold ref
 split
 ·rename_i h
  exact (eats_tail h ((eats_number last _ _ _).bind (j := 0) fun _ l => .ok _ l)).mono (by omega)
 ·exact (eats_name last l).bind (j := 0) fun _ l => .ok _ l
theorem find_tail {ws : List (List UInt8)} {l : List Tok} {i : Nat} (h : find ws l = some i) : l.tail.length + 1 = l.length := by
 unfold find at h
 obtain ⟨hlt, hh, _⟩ := List.findIdx?_eq_some_iff_getElem.1 h
 exact hit_tail hh
theorem eats_oneOf (ws : List (List UInt8)) (l : List Tok) : Eats 1 l (oneOf last ws l) := by
 unfold oneOf
 split
 ·rename_i i h
  intro a r' e
  injection e with _ e
  subst e
  have := find_tail h
  omega
 ·exact .fail _ _ _ _ _
theorem eats_kids {f : Nat → List Tok → R Rule} (hf : ∀ b l, Eats 1 l (f b l)) : ∀ (fuel : Nat) (ks : List Rule) (l : List Tok), Eats 0 l (kids last f fuel ks l)
 | 0, ks, l => .ok _ _
 | fuel + 1, ks, l => by
  unfold kids
  split
  ·rename_i h
   exact (eats_tail h (.ok _ _)).mono (by omega)
  ·exact ((hf _ l).bind (j := 1) fun _ l => (eats_need last _ _ l).bind (j := 0) fun _ l => eats_kids hf fuel _ l).mono (by omega)
theorem eats_body {f : Nat → List Tok → R Rule} (hf : ∀ b l, Eats 1 l (f b l)) (op : Int) (l : List Tok) : Eats 0 l (ruleBody last f op l) := by
 unfold ruleBody
 split
 ·exact ((hf 0 l).bind (j := 0) fun _ l => .ok _ l).mono (by omega)
 split
 ·exact ((eats_ref last l).bind (j := 1) fun _ l => (eats_number last _ _ l).bind (j := 0) fun _ l => .ok _ l).mono (by omega)
 split
 ·exact ((eats_ref last l).bind (j := 1) fun _ l => (eats_number last _ _ l).bind (j := 0) fun _ l => .ok _ l).mono (by omega)
 split
 ·exact ((eats_number last _ _ l).bind (j := 0) fun _ l => .ok _ l).mono (by omega)
 split
 ·exact ((eats_ratio last l).bind (j := 0) fun _ l => .ok _ l).mono (by omega)
 split
 ·exact ((eats_ref last l).bind (j := 0) fun _ l => .ok _ l).mono (by omega)
 split
 ·exact ((eats_number last _ _ l).bind (j := 1) fun _ l => (eats_need last _ _ l).bind (j := 0) fun _ l => (eats_kids last hf _ _ l).bind (j := 0) fun _ l => .ok _ l).mono (by omega)
 ·exact ((eats_need last _ _ l).bind (j := 0) fun _ l => (eats_kids last hf _ _ l).bind (j := 0) fun _ l => .ok _ l).mono (by omega)
theorem eats_rule : ∀ (k b : Nat) (l : List Tok), Eats 1 l (rule last k b l)
 | 0, b, l => by
  unfold rule
  exact (eats_oneOf last _ l).bind (j := 0) fun _ _ => .fail _ _ _ _ _
 | k + 1, b, l => by
  unfold rule
  refine (eats_oneOf last _ l).bind (j := 0) fun i r => ?_
  split
  ·exact .fail _ _ _ _ _
  ·exact eats_body last (eats_rule k) _ r
end
end Go.Proofs.YtjonaidancomgaaGreatDoor.Sx

namespace Go.Proofs.YtjonaidancomgaaGreatDoor.Sx
open Lx (Tok)

def Ends {α : Type} (last : Int) (r : R α) : Prop := r = .bad last 100 ∨ ∃ x, r = .ok x []
structure Cuts {α : Type} (F : Int → List Tok → R α) : Prop where
 ok : ∀ last l x r, F last l = .ok x r → ∃ a, l = a ++ r ∧ ∀ last' d b, r = d ++ b → F last' (a ++ d) = .ok x d
 bad : ∀ last l p e, F last l = .bad p e → ∃ a b, l = a ++ b ∧ p = front last b ∧ (e = 100 ∨ e = 2 ∧ b ≠ []) ∧ ∀ last', Ends last' (F last' a)
 nil : ∀ last, Ends last (F last [])
theorem Cuts.bind {α β : Type} {F : Int → List Tok → R α} {G : Int → α → List Tok → R β} (hF : Cuts F) (hG : ∀ x, Cuts fun last l => G last x l) : Cuts fun last l => (F last l).bind (G last) where
 ok := fun last l x r h => by
  cases hr : F last l with
  | bad p e => rw [hr] at h; cases h
  | ok y r2 =>
   rw [hr] at h
   obtain ⟨a1, e1, k1⟩ := hF.ok last l y r2 hr
   obtain ⟨a2, e2, k2⟩ := (hG y).ok last r2 x r h
   refine ⟨a1 ++ a2, by rw [e1, e2, List.append_assoc], fun last' d b hd => ?_⟩
   have h1 := k1 last' (a2 ++ d) b (by rw [e2, hd, List.append_assoc])
   show (F last' (a1 ++ a2 ++ d)).bind (G last') = _
   rw [List.append_assoc, h1]
   exact k2 last' d b hd
 bad := fun last l p e h => by
  cases hr : F last l with
  | bad p' e' =>
   rw [hr] at h
   have h' : (R.bad p' e' : R β) = .bad p e := h
   injection h' with h1 h2
   subst h1; subst h2
   obtain ⟨a, b, k1, k2, k3, k4⟩ := hF.bad last l _ _ hr
   refine ⟨a, b, k1, k2, k3, fun last' => ?_⟩
   show Ends last' ((F last' a).bind (G last'))
   rcases k4 last' with h5 | ⟨x, h5⟩
   ·rw [h5]; exact .inl rfl
   ·rw [h5]; exact (hG x).nil last'
  | ok y r2 =>
   rw [hr] at h
   obtain ⟨a1, e1, k1⟩ := hF.ok last l y r2 hr
   obtain ⟨a, b, k2, k3, k4, k5⟩ := (hG y).bad last r2 p e h
   refine ⟨a1 ++ a, b, by rw [e1, k2, List.append_assoc], k3, k4, fun last' => ?_⟩
   show Ends last' ((F last' (a1 ++ a)).bind (G last'))
   rw [k1 last' a b k2]
   exact k5 last'
 nil := fun last => by
  show Ends last ((F last []).bind (G last))
  rcases hF.nil last with h5 | ⟨x, h5⟩
  ·rw [h5]; exact .inl rfl
  ·rw [h5]; exact (hG x).nil last
theorem Cuts.pure {α : Type} (x : α) : Cuts fun _ l => R.ok x l where
 ok := fun last l y r h => by
  injection h with h1 h2
  subst h1; subst h2
  exact ⟨[], rfl, fun last' d b hd => rfl⟩
 bad := fun last l p e h => by cases h
 nil := fun last => .inr ⟨x, rfl⟩
theorem Cuts.limit {α β : Type} (f : Tok → Option α) (P : α → Bool) (G : Int → α → List Tok → R β) (H : Int → List Tok → R β) (h0 : ∀ last, H last [] = .bad last 100)
  (h1 : ∀ last t r, f t = none → H last (t :: r) = .bad t.pos 100) (h2 : ∀ last t r i, f t = some i → P i = true → H last (t :: r) = .bad t.pos 2) (h3 : ∀ last t r i, f t = some i → P i = false → H last (t :: r) = G last i r)
  (hG : ∀ i, Cuts fun last l => G last i l) : Cuts H where
 ok := fun last l y r h => by
  cases l with
  | nil => rw [h0] at h; cases h
  | cons t l =>
   cases hf : f t with
   | none => rw [h1 _ _ _ hf] at h; cases h
   | some i =>
    cases hP : P i with
    | true => rw [h2 _ _ _ i hf hP] at h; cases h
    | false =>
     rw [h3 _ _ _ i hf hP] at h
     obtain ⟨a, k1, k2⟩ := (hG i).ok last l y r h
     refine ⟨t :: a, by rw [k1]; rfl, fun last' d b hd => ?_⟩
     show H last' (t :: (a ++ d)) = _
     rw [h3 _ _ _ i hf hP]
     exact k2 last' d b hd
 bad := fun last l p e h => by
  cases l with
  | nil =>
   rw [h0] at h
   injection h with ha hb
   subst ha; subst hb
   exact ⟨[], [], rfl, rfl, .inl rfl, fun last' => .inl (h0 last')⟩
  | cons t l =>
   cases hf : f t with
   | none =>
    rw [h1 _ _ _ hf] at h
    injection h with ha hb
    subst ha; subst hb
    exact ⟨[], t :: l, rfl, rfl, .inl rfl, fun last' => .inl (h0 last')⟩
   | some i =>
    cases hP : P i with
    | true =>
     rw [h2 _ _ _ i hf hP] at h
     injection h with ha hb
     subst ha; subst hb
     exact ⟨[], t :: l, rfl, rfl, .inr ⟨rfl, by simp⟩, fun last' => .inl (h0 last')⟩
    | false =>
     rw [h3 _ _ _ i hf hP] at h
     obtain ⟨a, b, k1, k2, k3, k4⟩ := (hG i).bad last l p e h
     refine ⟨t :: a, b, by rw [k1]; rfl, k2, k3, fun last' => ?_⟩
     rw [h3 _ _ _ i hf hP]
     exact k4 last'
 nil := fun last => .inl (h0 last)
theorem Cuts.one {α : Type} (f : Tok → Option α) (F : Int → List Tok → R α) (h0 : ∀ last, F last [] = .bad last 100) (h1 : ∀ last t r, f t = none → F last (t :: r) = .bad t.pos 100) (h3 : ∀ last t r i, f t = some i → F last (t :: r) = .ok i r) : Cuts F :=
 Cuts.limit f (fun _ => false) (fun _ i l => .ok i l) F h0 h1 (fun _ _ _ _ _ h => by cases h) (fun last t r i h _ => h3 last t r i h) (fun i => Cuts.pure i)
theorem hit_pre {k : Int} {x : List UInt8} {l m b : List Tok} (h : l = m ++ b) (hh : hit k x l = false) : hit k x m = false := by
 cases m with
 | nil => rfl
 | cons t m => subst h; exact hh
theorem Cuts.hit {α : Type} (k : Int) (x : List UInt8) {F G : Int → List Tok → R α} (hF : Cuts F) (hG : Cuts G) : Cuts fun last l => if hit k x l = true then F last l.tail else G last l where
 ok := fun last l y r h => by
  cases hh : Sx.hit k x l with
  | false =>
   rw [hh, if_neg (by simp)] at h
   obtain ⟨a, k1, k2⟩ := hG.ok last l y r h
   refine ⟨a, k1, fun last' d b hd => ?_⟩
   show (if Sx.hit k x (a ++ d) = true then _ else _) = _
   rw [hit_pre (b := b) (by rw [k1, hd, List.append_assoc]) hh, if_neg (by simp)]
   exact k2 last' d b hd
  | true =>
   rw [hh, if_pos rfl] at h
   cases l with
   | nil => cases hh
   | cons t l =>
    obtain ⟨a, k1, k2⟩ := hF.ok last l y r h
    refine ⟨t :: a, by rw [k1]; rfl, fun last' d b hd => ?_⟩
    show (if Sx.hit k x (t :: (a ++ d)) = true then F last' (a ++ d) else _) = _
    rw [if_pos (show Sx.hit k x (t :: (a ++ d)) = true from hh)]
    exact k2 last' d b hd
 bad := fun last l p e h => by
  cases hh : Sx.hit k x l with
  | false =>
   rw [hh, if_neg (by simp)] at h
   obtain ⟨a, b, k1, k2, k3, k4⟩ := hG.bad last l p e h
   refine ⟨a, b, k1, k2, k3, fun last' => ?_⟩
   show Ends last' (if Sx.hit k x a = true then _ else _)
   rw [hit_pre k1 hh, if_neg (by simp)]
   exact k4 last'
  | true =>
   rw [hh, if_pos rfl] at h
   cases l with
   | nil => cases hh
   | cons t l =>
    obtain ⟨a, b, k1, k2, k3, k4⟩ := hF.bad last l p e h
    refine ⟨t :: a, b, by rw [k1]; rfl, k2, k3, fun last' => ?_⟩
    show Ends last' (if Sx.hit k x (t :: a) = true then F last' a else _)
    rw [if_pos (show Sx.hit k x (t :: a) = true from hh)]
    exact k4 last'
 nil := fun last => hG.nil last
theorem Cuts.ite {α : Type} (p : Prop) [Decidable p] {F G : Int → List Tok → R α} (hF : Cuts F) (hG : Cuts G) : Cuts fun last l => if p then F last l else G last l := by
 by_cases h : p
 ·simp only [if_pos h]; exact hF
 ·simp only [if_neg h]; exact hG
theorem cuts_full {α : Type} (k : Int) (x : List UInt8) (q : α) : Cuts fun last l => if hit k x l = true then (fail last l 2 : R α) else .ok q l where
 ok := fun last l y r h => by
  cases hh : Sx.hit k x l with
  | true => rw [hh, if_pos rfl] at h; unfold fail at h; cases h
  | false =>
   rw [hh, if_neg (by simp)] at h
   injection h with h1 h2
   subst h1; subst h2
   refine ⟨[], rfl, fun last' d b hd => ?_⟩
   show (if Sx.hit k x d = true then _ else _) = _
   rw [hit_pre hd hh, if_neg (by simp)]
   rfl
 bad := fun last l p e h => by
  cases hh : Sx.hit k x l with
  | true =>
   rw [hh, if_pos rfl] at h
   unfold fail at h
   injection h with h1 h2
   subst h1; subst h2
   exact ⟨[], l, rfl, rfl, .inr ⟨rfl, fun e => by rw [e] at hh; cases hh⟩, fun last' => .inr ⟨q, rfl⟩⟩
  | false => rw [hh, if_neg (by simp)] at h; cases h
 nil := fun last => .inr ⟨q, rfl⟩
theorem Cuts.fuel {α : Type} (c : Nat) {F : Int → Nat → List Tok → R α} (hF : ∀ f, Cuts fun last l => F last f l)
  (hf : ∀ last f g l, l.length + c ≤ f → l.length + c ≤ g → F last f l = F last g l) : Cuts fun last l => F last (l.length + c) l where
 ok := fun last l x r h => by
  obtain ⟨a, k1, k2⟩ := (hF _).ok last l x r h
  refine ⟨a, k1, fun last' d b hd => ?_⟩
  show F last' ((a ++ d).length + c) (a ++ d) = _
  rw [hf last' ((a ++ d).length + c) (l.length + c) (a ++ d) (Nat.le_refl _) (by rw [k1, hd]; simp)]
  exact k2 last' d b hd
 bad := fun last l p e h => by
  obtain ⟨a, b, k1, k2, k3, k4⟩ := (hF _).bad last l p e h
  refine ⟨a, b, k1, k2, k3, fun last' => ?_⟩
  show Ends last' (F last' (a.length + c) a)
  rw [hf last' (a.length + c) (l.length + c) a (Nat.le_refl _) (by rw [k1]; simp)]
  exact k4 last'
 nil := fun last => (hF _).nil last
theorem cuts_need (k : Int) (x : List UInt8) : Cuts fun last l => need last k x l :=
 Cuts.one (fun t => if t.kind == k && t.text == x then some () else none) _ (fun last => rfl)
  (fun last t r h => by
   have : (t.kind == k && t.text == x) = false := by
    cases hc : (t.kind == k && t.text == x) with
    | false => rfl
    | true => simp [hc] at h
   unfold need Sx.hit
   simp only [this]
   rfl)
  (fun last t r i h => by
   have : (t.kind == k && t.text == x) = true := by
    cases hc : (t.kind == k && t.text == x) with
    | true => rfl
    | false => simp [hc] at h
   unfold need Sx.hit
   simp only [this]
   rfl)
theorem cuts_word (x : List UInt8) : Cuts fun last l => word last x l := cuts_need 1 x
theorem cuts_sign (c : UInt8) : Cuts fun last l => sign last c l := cuts_need 3 [c]
theorem cuts_name : Cuts fun last l => name last l :=
 Cuts.one (fun t => if t.kind = 1 then some t.text else none) _ (fun last => rfl)
  (fun last t r h => by
   have : ¬ t.kind = 1 := fun e => by simp [e] at h
   simp only [name, if_neg this]; rfl)
  (fun last t r i h => by
   by_cases hc : t.kind = 1
   ·simp only [if_pos hc, Option.some.injEq] at h; subst h; simp only [name, if_pos hc]
   ·simp [hc] at h)
theorem cuts_number (lo hi : Int) : Cuts fun last l => number last lo hi l :=
 Cuts.one (fun t => if t.kind = 2 ∧ lo ≤ t.n ∧ t.n ≤ hi then some t.n else none) _ (fun last => rfl)
  (fun last t r h => by
   have : ¬ (t.kind = 2 ∧ lo ≤ t.n ∧ t.n ≤ hi) := fun e => by simp [e] at h
   simp only [number, if_neg this]; rfl)
  (fun last t r i h => by
   by_cases hc : t.kind = 2 ∧ lo ≤ t.n ∧ t.n ≤ hi
   ·simp only [if_pos hc, Option.some.injEq] at h; subst h; simp only [number, if_pos hc]
   ·simp [hc] at h)
theorem cuts_ratio : Cuts fun last l => ratio last l :=
 Cuts.bind (cuts_number _ _) fun _n => Cuts.bind (cuts_sign _) fun _ => Cuts.bind (cuts_number _ _) fun _d => Cuts.pure _
theorem cuts_ref : Cuts fun last l => ref last l :=
 Cuts.hit 3 [35] (Cuts.bind (G := fun _ n l => .ok (([] : List UInt8), n) l) (cuts_number _ _) fun _n => Cuts.pure _) (Cuts.bind (G := fun _ s l => .ok (s, (0 : Int)) l) cuts_name fun _s => Cuts.pure _)
def findT (ws : List (List UInt8)) (t : Tok) : Option Nat := ws.findIdx? fun w => t.kind == 1 && t.text == w
theorem find_cons (ws : List (List UInt8)) (t : Tok) (r : List Tok) : find ws (t :: r) = findT ws t := rfl
theorem find_nil (ws : List (List UInt8)) : find ws [] = none := by
 unfold find
 rw [List.findIdx?_eq_none_iff]
 intro x _
 rfl
theorem cuts_oneOf (ws : List (List UInt8)) : Cuts fun last l => oneOf last ws l :=
 Cuts.one (fun t => (findT ws t).map fun i => (i : Int)) _ (fun last => by unfold oneOf; rw [find_nil]; rfl)
  (fun last t r h => by
   unfold oneOf
   rw [find_cons]
   cases hf : findT ws t with
   | none => rfl
   | some i => rw [hf] at h; cases h)
  (fun last t r i h => by
   unfold oneOf
   rw [find_cons]
   cases hf : findT ws t with
   | none => rw [hf] at h; cases h
   | some j => rw [hf] at h; simp at h; subst h; rfl)
theorem cuts_opt {α : Type} (w : List UInt8) {f : Int → List Tok → R α} (d : α) (hf : Cuts f) : Cuts fun last l => opt last w (f last) d l :=
 Cuts.hit 1 w (Cuts.bind (G := fun last a l => (sign last 59 l).bind fun _ l => .ok a l) hf fun a => Cuts.bind (cuts_sign _) fun _ => Cuts.pure a) (Cuts.pure d)
theorem cuts_kidsF {f : Int → Nat → List Tok → R Rule} (hf : ∀ b, Cuts fun last l => f last b l) : ∀ (n : Nat) (ks : List Rule), Cuts fun last l => kids last (f last) n ks l
 | 0, ks => Cuts.pure ks
 | n + 1, ks => Cuts.hit 3 [125] (Cuts.pure ks) (Cuts.bind (G := fun last k l => (sign last 59 l).bind fun _ l => kids last (f last) n (ks ++ [k]) l) (hf ks.length) fun k => Cuts.bind (cuts_sign _) fun _ => cuts_kidsF hf n (ks ++ [k]))
theorem kids_fuel {last : Int} {f : Nat → List Tok → R Rule} (hf : ∀ b l, Eats 1 l (f b l)) : ∀ (n m : Nat) (ks : List Rule) (l : List Tok), l.length + 1 ≤ n → l.length + 1 ≤ m → kids last f n ks l = kids last f m ks l
 | 0, _, _, l, h, _ => by omega
 | n + 1, 0, _, l, _, h => by omega
 | n + 1, m + 1, ks, l, hn, hm => by
  unfold kids
  cases hh : Sx.hit 3 [125] l with
  | true => rfl
  | false =>
   rw [if_neg (by simp), if_neg (by simp)]
   cases h1 : f ks.length l with
   | bad p e => rfl
   | ok k l1 =>
    have e1 := hf _ _ _ _ h1
    simp only [R.bind]
    cases h2 : sign last 59 l1 with
    | bad p e => rfl
    | ok u l2 =>
     have e2 := eats_need last _ _ _ _ _ h2
     simp only
     exact kids_fuel hf n m _ l2 (by omega) (by omega)
theorem cuts_kids {f : Int → Nat → List Tok → R Rule} (hf : ∀ b, Cuts fun last l => f last b l) (he : ∀ last b l, Eats 1 l (f last b l)) : Cuts fun last l => kids last (f last) l.length.succ [] l :=
 Cuts.fuel 1 (F := fun last n l => kids last (f last) n [] l) (fun n => cuts_kidsF hf n []) (fun last n m l h1 h2 => kids_fuel (he last) n m [] l h1 h2)
theorem cuts_body {f : Int → Nat → List Tok → R Rule} (hf : ∀ b, Cuts fun last l => f last b l) (he : ∀ last b l, Eats 1 l (f last b l)) (op : Int) : Cuts fun last l => ruleBody last (f last) op l := by
 refine Cuts.ite _ (Cuts.bind (hf 0) fun k => Cuts.pure _) ?_
 refine Cuts.ite _ (Cuts.bind (G := fun last s l => (number last 0 12 l).bind fun n l => .ok (Rule.mk 5 s.2 s.1 n 0 []) l) cuts_ref fun s => Cuts.bind (cuts_number _ _) fun n => Cuts.pure _) ?_
 refine Cuts.ite _ (Cuts.bind (G := fun last s l => (number last 1 100 l).bind fun n l => .ok (Rule.mk 6 s.2 s.1 n 0 []) l) cuts_ref fun s => Cuts.bind (cuts_number _ _) fun n => Cuts.pure _) ?_
 refine Cuts.ite _ (Cuts.bind (cuts_number _ _) fun n => Cuts.pure _) ?_
 refine Cuts.ite _ (Cuts.bind cuts_ratio fun n => Cuts.pure _) ?_
 refine Cuts.ite _ (Cuts.bind cuts_ref fun n => Cuts.pure _) ?_
 refine Cuts.ite _ (Cuts.bind (G := fun last n l => (sign last 123 l).bind fun _ l => (kids last (f last) l.length.succ [] l).bind fun ks l => .ok (Rule.mk 3 0 [] n 0 ks) l) (cuts_number _ _) fun n => Cuts.bind (G := fun last _ l => (kids last (f last) l.length.succ [] l).bind fun ks l => .ok (Rule.mk 3 0 [] n 0 ks) l) (cuts_sign _) fun _ => Cuts.bind (cuts_kids hf he) fun ks => Cuts.pure _) ?_
 exact Cuts.bind (G := fun last _ l => (kids last (f last) l.length.succ [] l).bind fun ks l => .ok (Rule.mk op 0 [] 0 0 ks) l) (cuts_sign _) fun _ => Cuts.bind (cuts_kids hf he) fun ks => Cuts.pure _
theorem cuts_rule : ∀ (k b : Nat), Cuts fun last l => rule last k b l
 | 0, b => by
  refine Cuts.limit (findT ruleWords) (fun _ => true) (fun _ _ l => .ok Rule.zero l) _ (fun last => ?_) (fun last t r h => ?_) (fun last t r i h _ => ?_) (fun last t r i h hP => by cases hP) (fun i => Cuts.pure _)
  ·unfold rule oneOf; rw [find_nil]; rfl
  ·unfold rule oneOf; rw [find_cons, h]; rfl
  ·unfold rule oneOf; rw [find_cons, h]; rfl
 | k + 1, b => by
  refine Cuts.limit (findT ruleWords) (fun i => decide (b = 200 ∨ ((i : Int) + 1 = 4 ∧ k = 0))) (fun last i l => ruleBody last (rule last k) ((i : Int) + 1) l) _ (fun last => ?_) (fun last t r h => ?_) (fun last t r i h hP => ?_) (fun last t r i h hP => ?_) (fun i => cuts_body (fun b => cuts_rule k b) (fun last b l => eats_rule last k b l) _)
  ·unfold rule oneOf; rw [find_nil]; rfl
  ·unfold rule oneOf; rw [find_cons, h]; rfl
  ·unfold rule oneOf; rw [find_cons, h]; simp only [R.bind]; rw [if_pos (by simpa using hP)]; rfl
  ·unfold rule oneOf; rw [find_cons, h]; simp only [R.bind]; rw [if_neg (by simpa using hP)]; rfl
end Go.Proofs.YtjonaidancomgaaGreatDoor.Sx
