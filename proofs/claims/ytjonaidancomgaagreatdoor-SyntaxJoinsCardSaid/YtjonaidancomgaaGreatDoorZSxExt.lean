/- Parts of the proof, joined into one text: SxExt. -/
import Derived.Test.YtjonaidancomgaaGreatDoorZSxCutB

namespace Go.Proofs.YtjonaidancomgaaGreatDoor.Sx
open Lx (Tok)

def core (t : Tok) : Int × List UInt8 × Int := (t.kind, t.text, t.n)
/-- The same tokens, at whatever places. -/
def Sim (l m : List Tok) : Prop := l.map core = m.map core
theorem Sim.refl (l : List Tok) : Sim l l := rfl
theorem Sim.symm {l m : List Tok} (h : Sim l m) : Sim m l := Eq.symm h
theorem Sim.trans {l m n : List Tok} (h : Sim l m) (k : Sim m n) : Sim l n := Eq.trans h k
theorem Sim.length {l m : List Tok} (h : Sim l m) : l.length = m.length := by have := congrArg List.length h; simpa using this
theorem Sim.app {l m l' m' : List Tok} (h : Sim l m) (k : Sim l' m') : Sim (l ++ l') (m ++ m') := by unfold Sim at *; simp [h, k]
theorem Sim.nil {l : List Tok} (h : Sim l []) : l = [] := List.eq_nil_of_length_eq_zero h.length
theorem Sim.cons {l r : List Tok} {t : Tok} (h : Sim l (t :: r)) : ∃ u s, l = u :: s ∧ u.kind = t.kind ∧ u.text = t.text ∧ u.n = t.n ∧ Sim s r := by
  cases l with
  | nil => cases h
  | cons u s =>
    unfold Sim core at h
    simp only [List.map_cons, List.cons.injEq, Prod.mk.injEq] at h
    exact ⟨u, s, rfl, h.1.1, h.1.2.1, h.1.2.2, h.2⟩
/-- What is read stays read when more stands behind. -/
def Mov {α : Type} (F : Int → List Tok → R α) : Prop := ∀ last l x r, F last l = .ok x r → ∀ last' l' m, Sim l' (l ++ m) → ∃ r', F last' l' = .ok x r' ∧ Sim r' (r ++ m)
/-- The same, if something was left. -/
def MovW {α : Type} (F : Int → List Tok → R α) : Prop := ∀ last l x r, F last l = .ok x r → r ≠ [] → ∀ last' l' m, Sim l' (l ++ m) → ∃ r', F last' l' = .ok x r' ∧ Sim r' (r ++ m)
/-- At the end nothing can be read. -/
def Wants {α : Type} (F : Int → List Tok → R α) : Prop := ∀ last x r, F last [] ≠ .ok x r
theorem Mov.weak {α : Type} {F : Int → List Tok → R α} (h : Mov F) : MovW F := fun last l x r e _ => h last l x r e
theorem Mov.pure {α : Type} (x : α) : Mov fun _ l => R.ok x l := fun last l y r h last' l' m hm => by
  injection h with h1 h2
  subst h1; subst h2
  exact ⟨l', rfl, hm⟩
theorem bind_ok {α β : Type} {r : R α} {f : α → List Tok → R β} {x : β} {l : List Tok} (h : r.bind f = .ok x l) : ∃ y l1, r = .ok y l1 ∧ f y l1 = .ok x l := by
  cases r with
  | bad p e => cases h
  | ok y l1 => exact ⟨y, l1, rfl, h⟩
theorem Mov.bind {α β : Type} {F : Int → List Tok → R α} {G : Int → α → List Tok → R β} (hF : Mov F) (hG : ∀ x, Mov fun last l => G last x l) : Mov fun last l => (F last l).bind (G last) := fun last l x r h last' l' m hm => by
  obtain ⟨y, l1, h1, h2⟩ := bind_ok h
  obtain ⟨r1, k1, k2⟩ := hF last l y l1 h1 last' l' m hm
  obtain ⟨r2, k3, k4⟩ := hG y last l1 x r h2 last' r1 m k2
  exact ⟨r2, by show (F last' l').bind (G last') = _; rw [k1]; exact k3, k4⟩
theorem MovW.bind {α β : Type} {F : Int → List Tok → R α} {G : Int → α → List Tok → R β} (hF : MovW F) (hG : ∀ x, MovW fun last l => G last x l) (hn : ∀ x, Cuts fun last l => G last x l) : MovW fun last l => (F last l).bind (G last) := fun last l x r h hr last' l' m hm => by
  obtain ⟨y, l1, h1, h2⟩ := bind_ok h
  have hl1 : l1 ≠ [] := fun e => by
    subst e
    have : r.length ≤ ([] : List Tok).length := (hn y).shrinks h2
    exact hr (List.eq_nil_of_length_eq_zero (Nat.le_zero.1 this))
  obtain ⟨r1, k1, k2⟩ := hF last l y l1 h1 hl1 last' l' m hm
  obtain ⟨r2, k3, k4⟩ := hG y last l1 x r h2 hr last' r1 m k2
  exact ⟨r2, by show (F last' l').bind (G last') = _; rw [k1]; exact k3, k4⟩
/-- A step that wants a token makes the one ahead of it firm. -/
theorem MovW.then {α β : Type} {F : Int → List Tok → R α} {G : Int → α → List Tok → R β} (hF : MovW F) (hG : ∀ x, Mov fun last l => G last x l) (hn : ∀ x, Wants fun last l => G last x l) : Mov fun last l => (F last l).bind (G last) := fun last l x r h last' l' m hm => by
  obtain ⟨y, l1, h1, h2⟩ := bind_ok h
  have hl1 : l1 ≠ [] := fun e => by subst e; exact hn y last x r h2
  obtain ⟨r1, k1, k2⟩ := hF last l y l1 h1 hl1 last' l' m hm
  obtain ⟨r2, k3, k4⟩ := hG y last l1 x r h2 last' r1 m k2
  exact ⟨r2, by show (F last' l').bind (G last') = _; rw [k1]; exact k3, k4⟩
theorem Wants.bind {α β : Type} {F : Int → List Tok → R α} (G : Int → α → List Tok → R β) (h : Wants F) : Wants fun last l => (F last l).bind (G last) := fun last x r e => by
  obtain ⟨y, l1, h1, _⟩ := bind_ok e
  exact h last y l1 h1
theorem hit_sim {k : Int} {x : List UInt8} {l l' : List Tok} (h : Sim l' l) : hit k x l' = hit k x l := by
  cases l with
  | nil => rw [h.nil]
  | cons t r =>
    obtain ⟨u, s, rfl, h1, h2, _, _⟩ := h.cons
    show (u.kind == k && u.text == x) = (t.kind == k && t.text == x)
    rw [h1, h2]
theorem hit_app {k : Int} {x : List UInt8} {l m : List Tok} (hl : l ≠ []) : hit k x (l ++ m) = hit k x l := by
  cases l with
  | nil => exact absurd rfl hl
  | cons t r => rfl
theorem Sim.tail {l l' : List Tok} (h : Sim l' l) : Sim l'.tail l.tail := by
  cases l with
  | nil => rw [h.nil]; rfl
  | cons t r => obtain ⟨u, s, rfl, _, _, _, h4⟩ := h.cons; exact h4
theorem Mov.hit {α : Type} (k : Int) (x : List UInt8) {F G : Int → List Tok → R α} (hF : Mov F) (hG : Mov G) (hn : Wants G) : Mov fun last l => if hit k x l = true then F last l.tail else G last l := fun last l y r h last' l' m hm => by
  have hl : l ≠ [] := fun e => by subst e; exact hn last y r h
  have hh : Sx.hit k x l' = Sx.hit k x l := (hit_sim hm).trans (hit_app hl)
  show ∃ r', (if Sx.hit k x l' = true then F last' l'.tail else G last' l') = .ok y r' ∧ _
  replace h : (if Sx.hit k x l = true then F last l.tail else G last l) = .ok y r := h
  rw [hh]
  cases hc : Sx.hit k x l with
  | true =>
    rw [hc, if_pos rfl] at h
    rw [if_pos rfl]
    refine hF last l.tail y r h last' l'.tail m ?_
    have := hm.tail
    cases l with
    | nil => exact absurd rfl hl
    | cons t l => exact this
  | false =>
    rw [hc, if_neg (by simp)] at h
    rw [if_neg (by simp)]
    exact hG last l y r h last' l' m hm
theorem MovW.hit {α : Type} (k : Int) (x : List UInt8) {F G : Int → List Tok → R α} (hF : MovW F) (hG : MovW G) (hn : Cuts G) : MovW fun last l => if hit k x l = true then F last l.tail else G last l := fun last l y r h hr last' l' m hm => by
  have hl : l ≠ [] := fun e => by
    subst e
    have : r.length ≤ ([] : List Tok).length := hn.shrinks h
    exact hr (List.eq_nil_of_length_eq_zero (Nat.le_zero.1 this))
  have hh : Sx.hit k x l' = Sx.hit k x l := (hit_sim hm).trans (hit_app hl)
  show ∃ r', (if Sx.hit k x l' = true then F last' l'.tail else G last' l') = .ok y r' ∧ _
  replace h : (if Sx.hit k x l = true then F last l.tail else G last l) = .ok y r := h
  rw [hh]
  cases hc : Sx.hit k x l with
  | true =>
    rw [hc, if_pos rfl] at h
    rw [if_pos rfl]
    refine hF last l.tail y r h hr last' l'.tail m ?_
    have := hm.tail
    cases l with
    | nil => exact absurd rfl hl
    | cons t l => exact this
  | false =>
    rw [hc, if_neg (by simp)] at h
    rw [if_neg (by simp)]
    exact hG last l y r h hr last' l' m hm
theorem Mov.ite {α : Type} (p : Prop) [Decidable p] {F G : Int → List Tok → R α} (hF : Mov F) (hG : Mov G) : Mov fun last l => if p then F last l else G last l := by
  by_cases h : p
  · simp only [if_pos h]; exact hF
  · simp only [if_neg h]; exact hG
theorem need_wants (k : Int) (x : List UInt8) : Wants fun last l => need last k x l := fun last y r h => by cases h
theorem name_wants : Wants fun last l => name last l := fun last y r h => by cases h
theorem number_wants (lo hi : Int) : Wants fun last l => number last lo hi l := fun last y r h => by cases h
theorem mov_need (k : Int) (x : List UInt8) : Mov fun last l => need last k x l := fun last l y r h last' l' m hm => by
  simp only [need] at h ⊢
  split at h
  · rename_i hh
    injection h with h1 h2
    subst h2
    have hl : l ≠ [] := fun e => by subst e; cases hh
    rw [if_pos (((hit_sim hm).trans (hit_app hl)).trans hh)]
    refine ⟨_, rfl, ?_⟩
    have := hm.tail
    cases l with
    | nil => exact absurd rfl hl
    | cons t l => exact this
  · unfold fail at h; cases h
theorem mov_name : Mov fun last l => name last l := fun last l y r h last' l' m hm => by
  cases l with
  | nil => cases h
  | cons t l =>
    obtain ⟨u, s, rfl, h1, h2, h3, h4⟩ := hm.cons
    simp only [name] at h ⊢
    split at h
    · rename_i hk
      injection h with ha hb
      subst ha; subst hb
      exact ⟨s, by rw [if_pos (h1.trans hk), h2], h4⟩
    · unfold fail at h; cases h
theorem mov_number (lo hi : Int) : Mov fun last l => number last lo hi l := fun last l y r h last' l' m hm => by
  cases l with
  | nil => cases h
  | cons t l =>
    obtain ⟨u, s, rfl, h1, h2, h3, h4⟩ := hm.cons
    simp only [number] at h ⊢
    split at h
    · rename_i hk
      injection h with ha hb
      subst ha; subst hb
      exact ⟨s, by rw [if_pos (by rw [h1, h3]; exact hk), h3], h4⟩
    · unfold fail at h; cases h
theorem mov_sign (c : UInt8) : Mov fun last l => sign last c l := mov_need 3 [c]
theorem mov_word (x : List UInt8) : Mov fun last l => word last x l := mov_need 1 x
theorem sign_wants (c : UInt8) : Wants fun last l => sign last c l := need_wants 3 [c]
theorem word_wants (x : List UInt8) : Wants fun last l => word last x l := need_wants 1 x
theorem mov_ratio : Mov fun last l => ratio last l := Mov.bind (mov_number _ _) fun _n => Mov.bind (mov_sign _) fun _ => Mov.bind (mov_number _ _) fun _d => Mov.pure _
theorem mov_ref : Mov fun last l => ref last l :=
  Mov.hit 3 [35] (F := fun last l => (number last 0 4095 l).bind fun n l => .ok (([] : List UInt8), n) l) (Mov.bind (mov_number _ _) fun _n => Mov.pure _) (Mov.bind (G := fun _ s l => .ok (s, (0 : Int)) l) mov_name fun _s => Mov.pure _) (Wants.bind (fun _ s l => .ok (s, (0 : Int)) l) name_wants)
theorem findT_sim (ws : List (List UInt8)) {u t : Tok} (h1 : u.kind = t.kind) (h2 : u.text = t.text) : findT ws u = findT ws t := by unfold findT; rw [h1, h2]
theorem mov_oneOf (ws : List (List UInt8)) : Mov fun last l => oneOf last ws l := fun last l y r h last' l' m hm => by
  cases l with
  | nil => simp only [oneOf, find_nil] at h; cases h
  | cons t l =>
    obtain ⟨u, s, rfl, h1, h2, h3, h4⟩ := hm.cons
    simp only [oneOf, find_cons, findT_sim ws h1 h2] at h ⊢
    split at h
    · rename_i i hi
      injection h with ha hb
      subst ha; subst hb
      exact ⟨s, rfl, h4⟩
    · unfold fail at h; cases h
theorem mov_found {α : Type} (ws : List (List UInt8)) {G : Int → Int → List Tok → R α} (hG : ∀ i, Mov fun last l => G last i l) (hn : Wants fun last l => G last 0 l) : Mov fun last l => match find ws l with | some i => G last (i : Int) l.tail | none => G last 0 l := fun last l y r h last' l' m hm => by
  cases l with
  | nil => simp only [find_nil] at h; exact absurd h (hn last y r)
  | cons t l =>
    obtain ⟨u, s, rfl, h1, h2, h3, h4⟩ := hm.cons
    simp only [find_cons, findT_sim ws h1 h2] at h ⊢
    split at h
    · rename_i i hi
      exact hG i last l y r h last' s m h4
    · rename_i hi
      exact hG 0 last (t :: l) y r h last' (u :: s) m hm
theorem movw_opt {α : Type} (w : List UInt8) {f : Int → List Tok → R α} (d : α) (hf : Mov f) : MovW fun last l => opt last w (f last) d l :=
  MovW.hit 1 w (F := fun last l => (f last l).bind fun a l => (sign last 59 l).bind fun _ l => .ok a l) (Mov.bind hf fun a => Mov.bind (mov_sign _) fun _ => Mov.pure a).weak (Mov.pure d).weak (Cuts.pure d)
theorem rule_wants (k b : Nat) : Wants fun last l => rule last k b l := fun last x r h => by
  have := eats_rule last k b [] x r h
  simp at this
theorem mov_kidsF {f : Int → Nat → List Tok → R Rule} (hf : ∀ b, Mov fun last l => f last b l) (he : ∀ last b l, Eats 1 l (f last b l)) : ∀ (n : Nat) (ks : List Rule) (last : Int) (l : List Tok) (x : List Rule) (r : List Tok), l.length + 1 ≤ n → kids last (f last) n ks l = .ok x r → ∀ (n' : Nat) last' l' m, Sim l' (l ++ m) → l'.length + 1 ≤ n' → ∃ r', kids last' (f last') n' ks l' = .ok x r' ∧ Sim r' (r ++ m)
  | 0, _, _, l, _, _, h, _, _, _, _, _, _, _ => by omega
  | n + 1, ks, last, l, x, r, hl, h, 0, last', l', m, hm, hn' => by omega
  | n + 1, ks, last, l, x, r, hl, h, n' + 1, last', l', m, hm, hn' => by
    rw [kids] at h ⊢
    have hl0 : l ≠ [] := fun e => by
      subst e
      rw [if_neg (by simp [Sx.hit])] at h
      obtain ⟨y, l1, h1, _⟩ := bind_ok h
      have := he last _ _ _ _ h1
      simp at this
    rw [(hit_sim hm).trans (hit_app hl0)]
    cases hc : Sx.hit 3 [125] l with
    | true =>
      rw [hc, if_pos rfl] at h
      injection h with h1 h2
      subst h1; subst h2
      rw [if_pos rfl]
      refine ⟨_, rfl, ?_⟩
      have := hm.tail
      cases l with
      | nil => exact absurd rfl hl0
      | cons t l => exact this
    | false =>
      rw [hc, if_neg (by simp)] at h
      rw [if_neg (by simp)]
      obtain ⟨y, l1, h1, h2⟩ := bind_ok h
      obtain ⟨u, l2, h3, h4⟩ := bind_ok h2
      obtain ⟨s1, k1, k2⟩ := hf _ last l y l1 h1 last' l' m hm
      obtain ⟨s2, k3, k4⟩ := mov_sign 59 last l1 u l2 h3 last' s1 m k2
      have e2 := eats_need last _ _ _ _ _ h3
      have e4 := eats_need last' _ _ _ _ _ k3
      have e1 := he last _ _ _ _ h1
      obtain ⟨s3, k5, k6⟩ := mov_kidsF hf he n (ks ++ [y]) last l2 x r (by omega) h4 n' last' s2 m k4 (by have a1 := k2.length; have a2 := hm.length; simp at a1 a2; omega)
      have k1' : f last' ks.length l' = .ok y s1 := k1
      have k3' : sign last' 59 s1 = .ok u s2 := k3
      exact ⟨s3, by rw [k1']; simp only [R.bind]; rw [k3']; exact k5, k6⟩
theorem mov_kids {f : Int → Nat → List Tok → R Rule} (hf : ∀ b, Mov fun last l => f last b l) (he : ∀ last b l, Eats 1 l (f last b l)) : Mov fun last l => kids last (f last) l.length.succ [] l := fun last l x r h last' l' m hm =>
  mov_kidsF hf he _ [] last l x r (Nat.le_refl _) h _ last' l' m hm (Nat.le_refl _)
theorem mov_body {f : Int → Nat → List Tok → R Rule} (hf : ∀ b, Mov fun last l => f last b l) (he : ∀ last b l, Eats 1 l (f last b l)) (op : Int) : Mov fun last l => ruleBody last (f last) op l := by
  refine Mov.ite _ (Mov.bind (hf 0) fun k => Mov.pure _) ?_
  refine Mov.ite _ (Mov.bind (G := fun last s l => (number last 0 12 l).bind fun n l => .ok (Rule.mk 5 s.2 s.1 n 0 []) l) mov_ref fun s => Mov.bind (mov_number _ _) fun n => Mov.pure _) ?_
  refine Mov.ite _ (Mov.bind (G := fun last s l => (number last 1 100 l).bind fun n l => .ok (Rule.mk 6 s.2 s.1 n 0 []) l) mov_ref fun s => Mov.bind (mov_number _ _) fun n => Mov.pure _) ?_
  refine Mov.ite _ (Mov.bind (mov_number _ _) fun n => Mov.pure _) ?_
  refine Mov.ite _ (Mov.bind mov_ratio fun n => Mov.pure _) ?_
  refine Mov.ite _ (Mov.bind mov_ref fun n => Mov.pure _) ?_
  refine Mov.ite _ (Mov.bind (G := fun last n l => (sign last 123 l).bind fun _ l => (kids last (f last) l.length.succ [] l).bind fun ks l => .ok (Rule.mk 3 0 [] n 0 ks) l) (mov_number _ _) fun n => Mov.bind (G := fun last _ l => (kids last (f last) l.length.succ [] l).bind fun ks l => .ok (Rule.mk 3 0 [] n 0 ks) l) (mov_sign _) fun _ => Mov.bind (mov_kids hf he) fun ks => Mov.pure _) ?_
  exact Mov.bind (G := fun last _ l => (kids last (f last) l.length.succ [] l).bind fun ks l => .ok (Rule.mk op 0 [] 0 0 ks) l) (mov_sign _) fun _ => Mov.bind (mov_kids hf he) fun ks => Mov.pure _
theorem mov_rule : ∀ (k b : Nat), Mov fun last l => rule last k b l
  | 0, b => fun last l x r h => by
    unfold rule at h
    obtain ⟨y, l1, h1, h2⟩ := bind_ok h
    unfold fail at h2; cases h2
  | k + 1, b => fun last l x r h last' l' m hm => by
    replace h : rule last (k + 1) b l = .ok x r := h
    show ∃ r', rule last' (k + 1) b l' = .ok x r' ∧ _
    rw [rule] at h ⊢
    obtain ⟨i, l1, h1, h2⟩ := bind_ok h
    obtain ⟨s1, k1, k2⟩ := mov_oneOf ruleWords last l i l1 h1 last' l' m hm
    rw [show oneOf last' ruleWords l' = .ok i s1 from k1]
    simp only [R.bind]
    by_cases hc : b = 200 ∨ (i + 1 = 4 ∧ k = 0)
    · rw [if_pos hc] at h2; unfold fail at h2; cases h2
    · rw [if_neg hc] at h2 ⊢
      exact mov_body (fun b => mov_rule k b) (fun last b l => eats_rule last k b l) (i + 1) last l1 x r h2 last' s1 m k2
theorem mov_course : Mov fun last l => course last l := by
  have h : (fun (last : Int) (l : List Tok) => course last l) = fun last l => (number last 0 4095 l).bind fun no l => (name last l).bind fun nm l => (number last 1 60 l).bind fun cr l =>
      match find repeatWords l with
      | some i => (sign last 123 l.tail).bind fun _ l => (opt last wNeed (rule last 16 0) (Rule.mk 1 0 [] 0 0 []) l).bind fun nd l => (opt last wBar (rule last 16 0) (Rule.mk 2 0 [] 0 0 []) l).bind fun br l => (sign last 125 l).bind fun _ l => .ok (Course.mk nm no cr (i : Int) nd br) l
      | none => (sign last 123 l).bind fun _ l => (opt last wNeed (rule last 16 0) (Rule.mk 1 0 [] 0 0 []) l).bind fun nd l => (opt last wBar (rule last 16 0) (Rule.mk 2 0 [] 0 0 []) l).bind fun br l => (sign last 125 l).bind fun _ l => .ok (Course.mk nm no cr 0 nd br) l := by
    funext last l
    unfold course
    congr 1; funext no l
    congr 1; funext nm l
    congr 1; funext cr l
    cases find repeatWords l <;> rfl
  rw [h]
  refine Mov.bind (G := fun last no l => (name last l).bind fun nm l => (number last 1 60 l).bind fun cr l =>
      match find repeatWords l with
      | some i => (sign last 123 l.tail).bind fun _ l => (opt last wNeed (rule last 16 0) (Rule.mk 1 0 [] 0 0 []) l).bind fun nd l => (opt last wBar (rule last 16 0) (Rule.mk 2 0 [] 0 0 []) l).bind fun br l => (sign last 125 l).bind fun _ l => .ok (Course.mk nm no cr (i : Int) nd br) l
      | none => (sign last 123 l).bind fun _ l => (opt last wNeed (rule last 16 0) (Rule.mk 1 0 [] 0 0 []) l).bind fun nd l => (opt last wBar (rule last 16 0) (Rule.mk 2 0 [] 0 0 []) l).bind fun br l => (sign last 125 l).bind fun _ l => .ok (Course.mk nm no cr 0 nd br) l) (mov_number _ _) fun no => ?_
  refine Mov.bind (G := fun last nm l => (number last 1 60 l).bind fun cr l =>
      match find repeatWords l with
      | some i => (sign last 123 l.tail).bind fun _ l => (opt last wNeed (rule last 16 0) (Rule.mk 1 0 [] 0 0 []) l).bind fun nd l => (opt last wBar (rule last 16 0) (Rule.mk 2 0 [] 0 0 []) l).bind fun br l => (sign last 125 l).bind fun _ l => .ok (Course.mk nm no cr (i : Int) nd br) l
      | none => (sign last 123 l).bind fun _ l => (opt last wNeed (rule last 16 0) (Rule.mk 1 0 [] 0 0 []) l).bind fun nd l => (opt last wBar (rule last 16 0) (Rule.mk 2 0 [] 0 0 []) l).bind fun br l => (sign last 125 l).bind fun _ l => .ok (Course.mk nm no cr 0 nd br) l) mov_name fun nm => ?_
  refine Mov.bind (G := fun last cr l =>
      match find repeatWords l with
      | some i => (sign last 123 l.tail).bind fun _ l => (opt last wNeed (rule last 16 0) (Rule.mk 1 0 [] 0 0 []) l).bind fun nd l => (opt last wBar (rule last 16 0) (Rule.mk 2 0 [] 0 0 []) l).bind fun br l => (sign last 125 l).bind fun _ l => .ok (Course.mk nm no cr (i : Int) nd br) l
      | none => (sign last 123 l).bind fun _ l => (opt last wNeed (rule last 16 0) (Rule.mk 1 0 [] 0 0 []) l).bind fun nd l => (opt last wBar (rule last 16 0) (Rule.mk 2 0 [] 0 0 []) l).bind fun br l => (sign last 125 l).bind fun _ l => .ok (Course.mk nm no cr 0 nd br) l) (mov_number _ _) fun cr => ?_
  have hw2 : ∀ (i : Int) (nd : Rule × Rule), Wants fun last l => (sign last 125 l).bind fun _ l => (R.ok (⟨nm, no, cr, i, nd.1, nd.2⟩ : Course) l) := fun i nd => Wants.bind (fun _ _ l => .ok (⟨nm, no, cr, i, nd.1, nd.2⟩ : Course) l) (sign_wants _)
  exact mov_found repeatWords (G := fun last i l => (sign last 123 l).bind fun _ l => (opt last wNeed (rule last 16 0) (Rule.mk 1 0 [] 0 0 []) l).bind fun nd l => (opt last wBar (rule last 16 0) (Rule.mk 2 0 [] 0 0 []) l).bind fun br l => (sign last 125 l).bind fun _ l => .ok (Course.mk nm no cr i nd br) l) (fun i =>
    Mov.bind (G := fun last _ l => (opt last wNeed (rule last 16 0) (Rule.mk 1 0 [] 0 0 []) l).bind fun nd l => (opt last wBar (rule last 16 0) (Rule.mk 2 0 [] 0 0 []) l).bind fun br l => (sign last 125 l).bind fun _ l => .ok (Course.mk nm no cr i nd br) l) (mov_sign _) fun _ =>
    MovW.then (G := fun last nd l => (opt last wBar (rule last 16 0) (Rule.mk 2 0 [] 0 0 []) l).bind fun br l => (sign last 125 l).bind fun _ l => .ok (Course.mk nm no cr i nd br) l) (movw_opt wNeed _ (mov_rule 16 0)) (fun nd =>
    MovW.then (G := fun last br l => (sign last 125 l).bind fun _ l => .ok (Course.mk nm no cr i nd br) l) (movw_opt wBar _ (mov_rule 16 0)) (fun br =>
    Mov.bind (G := fun _ _ l => .ok (Course.mk nm no cr i nd br) l) (mov_sign _) fun _ => Mov.pure _) (fun br => hw2 i (nd, br))) (fun nd last x r h => by
      obtain ⟨br, l1, h1, h2⟩ := bind_ok h
      have e : opt last wBar (rule last 16 0) (Rule.mk 2 0 [] 0 0 []) [] = .ok (Rule.mk 2 0 [] 0 0 []) [] := rfl
      rw [e] at h1
      injection h1 with ha hb
      subst hb
      cases h2)) (Wants.bind (fun last _ l => (opt last wNeed (rule last 16 0) (Rule.mk 1 0 [] 0 0 []) l).bind fun nd l => (opt last wBar (rule last 16 0) (Rule.mk 2 0 [] 0 0 []) l).bind fun br l => (sign last 125 l).bind fun _ l => .ok (Course.mk nm no cr 0 nd br) l) (sign_wants _))
theorem mov_same : Mov fun last l => same last l :=
  Mov.bind (G := fun last (a : List UInt8 × Int) l => (sign last 61 l).bind fun _ l => (ref last l).bind fun b l => (sign last 59 l).bind fun _ l => .ok (⟨a.1, b.1, a.2, b.2⟩ : Pair) l) mov_ref fun a =>
  Mov.bind (G := fun last _ l => (ref last l).bind fun b l => (sign last 59 l).bind fun _ l => .ok (⟨a.1, b.1, a.2, b.2⟩ : Pair) l) (mov_sign _) fun _ =>
  Mov.bind (G := fun last (b : List UInt8 × Int) l => (sign last 59 l).bind fun _ l => .ok (⟨a.1, b.1, a.2, b.2⟩ : Pair) l) mov_ref fun _b => Mov.bind (mov_sign _) fun _ => Mov.pure _
theorem mov_standing : Mov fun last l => standing last l :=
  Mov.bind (G := fun last nm l => (number last 0 10000 l).bind fun ea l => (word last wMean l).bind fun _ l => (ratio last l).bind fun me l => (sign last 59 l).bind fun _ l => .ok (⟨nm, ea, me⟩ : Cls) l) mov_name fun nm =>
  Mov.bind (G := fun last ea l => (word last wMean l).bind fun _ l => (ratio last l).bind fun me l => (sign last 59 l).bind fun _ l => .ok (⟨nm, ea, me⟩ : Cls) l) (mov_number _ _) fun ea =>
  Mov.bind (G := fun last _ l => (ratio last l).bind fun me l => (sign last 59 l).bind fun _ l => .ok (⟨nm, ea, me⟩ : Cls) l) (mov_word _) fun _ =>
  Mov.bind (G := fun last me l => (sign last 59 l).bind fun _ l => .ok (⟨nm, ea, me⟩ : Cls) l) mov_ratio fun _me => Mov.bind (mov_sign _) fun _ => Mov.pure _
theorem mov_fee : Mov fun last l => fee last l :=
  Mov.bind (G := fun last nm l => (number last 0 10000 l).bind fun cr l => (sign last 59 l).bind fun _ l => .ok (⟨nm, cr⟩ : Fee) l) mov_name fun nm =>
  Mov.bind (G := fun last cr l => (sign last 59 l).bind fun _ l => .ok (⟨nm, cr⟩ : Fee) l) (mov_number _ _) fun _cr => Mov.bind (mov_sign _) fun _ => Mov.pure _
theorem mov_clause : Mov fun last l => clause last l :=
  Mov.bind (G := fun last k l => (oneOf last whenWords l).bind fun w l => (oneOf last actionWords l).bind fun a l => (word last wUntil l).bind fun _ l => (number last 0 12 l).bind fun u l => (sign last 59 l).bind fun _ l => .ok (⟨k + 1, w, a + 1, u⟩ : Clause) l) (mov_oneOf _) fun k =>
  Mov.bind (G := fun last w l => (oneOf last actionWords l).bind fun a l => (word last wUntil l).bind fun _ l => (number last 0 12 l).bind fun u l => (sign last 59 l).bind fun _ l => .ok (⟨k + 1, w, a + 1, u⟩ : Clause) l) (mov_oneOf _) fun w =>
  Mov.bind (G := fun last a l => (word last wUntil l).bind fun _ l => (number last 0 12 l).bind fun u l => (sign last 59 l).bind fun _ l => .ok (⟨k + 1, w, a + 1, u⟩ : Clause) l) (mov_oneOf _) fun a =>
  Mov.bind (G := fun last _ l => (number last 0 12 l).bind fun u l => (sign last 59 l).bind fun _ l => .ok (⟨k + 1, w, a + 1, u⟩ : Clause) l) (mov_word _) fun _ =>
  Mov.bind (G := fun last u l => (sign last 59 l).bind fun _ l => .ok (⟨k + 1, w, a + 1, u⟩ : Clause) l) (mov_number _ _) fun _u => Mov.bind (mov_sign _) fun _ => Mov.pure _
theorem movw_refsF : ∀ (n : Nat) (rs : List (List UInt8 × Int)) (last : Int) (l : List Tok) (x : List (List UInt8 × Int)) (r : List Tok), l.length + 1 ≤ n → refs last n rs l = .ok x r → r ≠ [] → ∀ (n' : Nat) last' l' m, Sim l' (l ++ m) → l'.length + 1 ≤ n' → ∃ r', refs last' n' rs l' = .ok x r' ∧ Sim r' (r ++ m)
  | 0, _, _, l, _, _, h, _, _, _, _, _, _, _, _ => by omega
  | n + 1, rs, last, l, x, r, hl, h, hr, 0, last', l', m, hm, hn' => by omega
  | n + 1, rs, last, l, x, r, hl, h, hr, n' + 1, last', l', m, hm, hn' => by
    rw [refs] at h ⊢
    obtain ⟨y, l1, h1, h2⟩ := bind_ok h
    have hl1 : l1 ≠ [] := fun e => by
      subst e
      rw [if_neg (by simp [Sx.hit])] at h2
      injection h2 with _ h3
      exact hr h3.symm
    obtain ⟨s1, k1, k2⟩ := mov_ref last l y l1 h1 last' l' m hm
    rw [show ref last' l' = .ok y s1 from k1]
    simp only [R.bind]
    rw [(hit_sim k2).trans (hit_app hl1)]
    have e1 := eats_ref last _ _ _ h1
    have e2 := eats_ref last' _ _ _ k1
    cases hc : Sx.hit 3 [44] l1 with
    | true =>
      rw [hc, if_pos rfl] at h2
      rw [if_pos rfl]
      have e3 := hit_tail hc
      have k3 : Sim s1.tail (l1.tail ++ m) := by
        have := k2.tail
        cases l1 with
        | nil => exact absurd rfl hl1
        | cons t l1 => exact this
      exact movw_refsF n (rs ++ [y]) last l1.tail x r (by omega) h2 hr n' last' s1.tail m k3 (by simp; omega)
    | false =>
      rw [hc, if_neg (by simp)] at h2
      rw [if_neg (by simp)]
      injection h2 with ha hb
      subst ha; subst hb
      exact ⟨s1, rfl, k2⟩
theorem movw_refs : MovW fun last l => refs last l.length.succ [] l := fun last l x r h hr last' l' m hm =>
  movw_refsF _ [] last l x r (Nat.le_refl _) h hr _ last' l' m hm (Nat.le_refl _)
theorem mov_take : Mov fun last l => take last l := by
  have h : (fun (last : Int) (l : List Tok) => take last l) = fun last l => (name last l).bind fun nm l => (number last 1 10000 l).bind fun cr l => (word last wFrom l).bind fun _ l => (refs last l.length.succ [] l).bind fun rs l =>
      (if hit 1 wAt l = true then number last 0 12 l.tail else .ok 1 l).bind fun g l => if hit 1 wHome l = true then (sign last 59 l.tail).bind fun _ l => .ok (⟨nm, cr, g, true, rs.map (·.1), rs.map (·.2)⟩ : Req) l else (sign last 59 l).bind fun _ l => .ok (⟨nm, cr, g, false, rs.map (·.1), rs.map (·.2)⟩ : Req) l := by
    funext last l
    unfold take
    congr 1; funext nm l
    congr 1; funext cr l
    congr 1; funext _ l
    congr 1; funext rs l
    congr 1; funext g l
    cases Sx.hit 1 wHome l <;> rfl
  rw [h]
  exact Mov.bind (G := fun last nm l => (number last 1 10000 l).bind fun cr l => (word last wFrom l).bind fun _ l => (refs last l.length.succ [] l).bind fun rs l =>
      (if hit 1 wAt l = true then number last 0 12 l.tail else .ok 1 l).bind fun g l => if hit 1 wHome l = true then (sign last 59 l.tail).bind fun _ l => .ok (⟨nm, cr, g, true, rs.map (·.1), rs.map (·.2)⟩ : Req) l else (sign last 59 l).bind fun _ l => .ok (⟨nm, cr, g, false, rs.map (·.1), rs.map (·.2)⟩ : Req) l) mov_name fun nm =>
    Mov.bind (G := fun last cr l => (word last wFrom l).bind fun _ l => (refs last l.length.succ [] l).bind fun rs l =>
      (if hit 1 wAt l = true then number last 0 12 l.tail else .ok 1 l).bind fun g l => if hit 1 wHome l = true then (sign last 59 l.tail).bind fun _ l => .ok (⟨nm, cr, g, true, rs.map (·.1), rs.map (·.2)⟩ : Req) l else (sign last 59 l).bind fun _ l => .ok (⟨nm, cr, g, false, rs.map (·.1), rs.map (·.2)⟩ : Req) l) (mov_number _ _) fun cr =>
    Mov.bind (G := fun last _ l => (refs last l.length.succ [] l).bind fun rs l =>
      (if hit 1 wAt l = true then number last 0 12 l.tail else .ok 1 l).bind fun g l => if hit 1 wHome l = true then (sign last 59 l.tail).bind fun _ l => .ok (⟨nm, cr, g, true, rs.map (·.1), rs.map (·.2)⟩ : Req) l else (sign last 59 l).bind fun _ l => .ok (⟨nm, cr, g, false, rs.map (·.1), rs.map (·.2)⟩ : Req) l) (mov_word _) fun _ =>
    MovW.then (G := fun last rs l => (if hit 1 wAt l = true then number last 0 12 l.tail else .ok 1 l).bind fun g l => if hit 1 wHome l = true then (sign last 59 l.tail).bind fun _ l => .ok (⟨nm, cr, g, true, rs.map (·.1), rs.map (·.2)⟩ : Req) l else (sign last 59 l).bind fun _ l => .ok (⟨nm, cr, g, false, rs.map (·.1), rs.map (·.2)⟩ : Req) l) movw_refs (fun rs =>
    MovW.then (G := fun last g l => if hit 1 wHome l = true then (sign last 59 l.tail).bind fun _ l => .ok (⟨nm, cr, g, true, rs.map (·.1), rs.map (·.2)⟩ : Req) l else (sign last 59 l).bind fun _ l => .ok (⟨nm, cr, g, false, rs.map (·.1), rs.map (·.2)⟩ : Req) l) (MovW.hit 1 wAt (F := fun last l => number last 0 12 l) (mov_number _ _).weak (Mov.pure 1).weak (Cuts.pure 1)) (fun g =>
    Mov.hit 1 wHome (F := fun last l => (sign last 59 l).bind fun _ l => .ok (⟨nm, cr, g, true, rs.map (·.1), rs.map (·.2)⟩ : Req) l) (Mov.bind (mov_sign _) fun _ => Mov.pure _) (Mov.bind (G := fun _ _ l => .ok (⟨nm, cr, g, false, rs.map (·.1), rs.map (·.2)⟩ : Req) l) (mov_sign _) fun _ => Mov.pure _) (Wants.bind (fun _ _ l => .ok (⟨nm, cr, g, false, rs.map (·.1), rs.map (·.2)⟩ : Req) l) (sign_wants 59))) (fun g last x r h => by cases h)) (fun rs last x r h => by cases h)
theorem movw_takesF : ∀ (n : Nat) (qs : List Req) (last : Int) (l : List Tok) (x : List Req) (r : List Tok), l.length + 1 ≤ n → takes last n qs l = .ok x r → r ≠ [] → ∀ (n' : Nat) last' l' m, Sim l' (l ++ m) → l'.length + 1 ≤ n' → ∃ r', takes last' n' qs l' = .ok x r' ∧ Sim r' (r ++ m)
  | 0, _, _, l, _, _, h, _, _, _, _, _, _, _, _ => by omega
  | n + 1, qs, last, l, x, r, hl, h, hr, 0, last', l', m, hm, hn' => by omega
  | n + 1, qs, last, l, x, r, hl, h, hr, n' + 1, last', l', m, hm, hn' => by
    rw [takes] at h ⊢
    have hl1 : l ≠ [] := fun e => by
      subst e
      rw [if_neg (by simp [Sx.hit])] at h
      injection h with _ h3
      exact hr h3.symm
    rw [(hit_sim hm).trans (hit_app hl1)]
    cases hc : Sx.hit 1 wTake l with
    | true =>
      rw [hc, if_pos rfl] at h
      rw [if_pos rfl]
      by_cases h64 : qs.length = 64
      · rw [if_pos h64] at h; unfold fail at h; cases h
      rw [if_neg h64] at h ⊢
      obtain ⟨y, l1, h1, h2⟩ := bind_ok h
      have e3 := hit_tail hc
      have k3 : Sim l'.tail (l.tail ++ m) := by
        have := hm.tail
        cases l with
        | nil => exact absurd rfl hl1
        | cons t l => exact this
      obtain ⟨s1, k1, k2⟩ := mov_take last l.tail y l1 h1 last' l'.tail m k3
      have e1 := cuts_take.shrinks h1
      have e2 := cuts_take.shrinks k1
      rw [show take last' l'.tail = .ok y s1 from k1]
      simp only [R.bind]
      have e4 := hm.length
      simp at e2 e4
      exact movw_takesF n (qs ++ [y]) last l1 x r (by omega) h2 hr n' last' s1 m k2 (by omega)
    | false =>
      rw [hc, if_neg (by simp)] at h
      rw [if_neg (by simp)]
      injection h with ha hb
      subst ha; subst hb
      exact ⟨l', rfl, hm⟩
theorem movw_takes : MovW fun last l => takes last l.length.succ [] l := fun last l x r h hr last' l' m hm =>
  movw_takesF _ [] last l x r (Nat.le_refl _) h hr _ last' l' m hm (Nat.le_refl _)
theorem mov_programme : Mov fun last l => programme last l :=
  Mov.bind (G := fun last no l => (name last l).bind fun nm l => (sign last 123 l).bind fun _ l => (opt last wUses (number last 1 4) 1 l).bind fun us l => (opt last wEarn (number last 0 10000) 0 l).bind fun ea l => (opt last wMean (ratio last) ⟨0, 1⟩ l).bind fun me l => (takes last l.length.succ [] l).bind fun qs l => (sign last 125 l).bind fun _ l => .ok (⟨nm, no, us, ea, me, qs⟩ : Prog) l) (mov_number _ _) fun no =>
  Mov.bind (G := fun last nm l => (sign last 123 l).bind fun _ l => (opt last wUses (number last 1 4) 1 l).bind fun us l => (opt last wEarn (number last 0 10000) 0 l).bind fun ea l => (opt last wMean (ratio last) ⟨0, 1⟩ l).bind fun me l => (takes last l.length.succ [] l).bind fun qs l => (sign last 125 l).bind fun _ l => .ok (⟨nm, no, us, ea, me, qs⟩ : Prog) l) mov_name fun nm =>
  Mov.bind (G := fun last _ l => (opt last wUses (number last 1 4) 1 l).bind fun us l => (opt last wEarn (number last 0 10000) 0 l).bind fun ea l => (opt last wMean (ratio last) ⟨0, 1⟩ l).bind fun me l => (takes last l.length.succ [] l).bind fun qs l => (sign last 125 l).bind fun _ l => .ok (⟨nm, no, us, ea, me, qs⟩ : Prog) l) (mov_sign _) fun _ =>
  MovW.then (G := fun last us l => (opt last wEarn (number last 0 10000) 0 l).bind fun ea l => (opt last wMean (ratio last) ⟨0, 1⟩ l).bind fun me l => (takes last l.length.succ [] l).bind fun qs l => (sign last 125 l).bind fun _ l => .ok (⟨nm, no, us, ea, me, qs⟩ : Prog) l) (movw_opt wUses _ (mov_number _ _)) (fun us =>
  MovW.then (G := fun last ea l => (opt last wMean (ratio last) ⟨0, 1⟩ l).bind fun me l => (takes last l.length.succ [] l).bind fun qs l => (sign last 125 l).bind fun _ l => .ok (⟨nm, no, us, ea, me, qs⟩ : Prog) l) (movw_opt wEarn _ (mov_number _ _)) (fun ea =>
  MovW.then (G := fun last me l => (takes last l.length.succ [] l).bind fun qs l => (sign last 125 l).bind fun _ l => .ok (⟨nm, no, us, ea, me, qs⟩ : Prog) l) (movw_opt wMean _ mov_ratio) (fun me =>
  MovW.then (G := fun last qs l => (sign last 125 l).bind fun _ l => .ok (⟨nm, no, us, ea, me, qs⟩ : Prog) l) movw_takes (fun qs => Mov.bind (mov_sign _) fun _ => Mov.pure _) (fun qs => Wants.bind (fun _ _ l => .ok (⟨nm, no, us, ea, me, qs⟩ : Prog) l) (sign_wants _))) (fun me last x r h => by cases h)) (fun ea last x r h => by cases h)) (fun us last x r h => by cases h)
theorem mov_define (w : List UInt8) (c : Cat) : Mov fun last l => defineR last w c l := by
  refine Mov.ite _ (Mov.bind mov_course fun _ => Mov.pure _) ?_
  refine Mov.ite _ (Mov.bind mov_same fun _ => Mov.pure _) ?_
  refine Mov.ite _ (Mov.bind mov_programme fun _ => Mov.pure _) ?_
  refine Mov.ite _ (Mov.bind mov_standing fun _ => Mov.pure _) ?_
  refine Mov.ite _ (Mov.bind mov_standing fun _ => Mov.pure _) ?_
  refine Mov.ite _ (Mov.bind mov_fee fun _ => Mov.pure _) ?_
  exact Mov.bind mov_clause fun _ => Mov.pure _
theorem defT_sim {u t : Tok} (h1 : u.kind = t.kind) (h2 : u.text = t.text) : defT u = defT t := by unfold defT; rw [h1, h2]
theorem defs_join : ∀ (n : Nat) (last : Int) (c : Cat) (l : List Tok) (x : Cat) (r : List Tok), l.length ≤ n → defs last n c l = .ok x r → ∀ (n' : Nat) (last' : Int) (l' m : List Tok), l'.length ≤ n' → Sim l' (l ++ m) →
    ∃ m' n'', m'.length ≤ n'' ∧ Sim m' m ∧ defs last' n' c l' = defs last' n'' x m'
  | 0, last, c, l, x, r, hl, h, n', last', l', m, hn', hm => by
    have : l = [] := List.eq_nil_of_length_eq_zero (by omega)
    subst this
    simp only [defs, R.ok.injEq] at h
    obtain ⟨rfl, rfl⟩ := h
    exact ⟨l', n', hn', hm, rfl⟩
  | n + 1, last, c, [], x, r, hl, h, n', last', l', m, hn', hm => by
    simp only [defs, R.ok.injEq] at h
    obtain ⟨rfl, rfl⟩ := h
    exact ⟨l', n', hn', hm, rfl⟩
  | n + 1, last, c, t :: l, x, r, hl, h, n', last', l', m, hn', hm => by
    obtain ⟨u, s, rfl, h1, h2, h3, h4⟩ := hm.cons
    cases n' with
    | zero => simp at hn'
    | succ n' =>
      cases hf : defT t with
      | none => rw [defs_none hf] at h; cases h
      | some w =>
        rw [defs_some hf] at h
        rw [defs_some ((defT_sim h1 h2).trans hf)]
        obtain ⟨c1, l1, k1, k2⟩ := bind_ok h
        obtain ⟨s1, k3, k4⟩ := mov_define w c last l c1 l1 k1 last' s m h4
        have e1 := (cuts_define w c).shrinks k1
        have e2 := (cuts_define w c).shrinks k3
        rw [show defineR last' w c s = .ok c1 s1 from k3]
        simp only [R.bind]
        simp at hl hn' e1 e2
        exact defs_join n last c1 l1 x r (by omega) k2 n' last' s1 m (by omega) k4
def Cat.app (a b : Cat) : Cat := ⟨a.courses ++ b.courses, a.same ++ b.same, a.progs ++ b.progs, a.classes ++ b.classes, a.fees ++ b.fees, a.honours ++ b.honours, a.clauses ++ b.clauses⟩
theorem Cat.app_none (a : Cat) : a.app Cat.none = a := by simp [Cat.app, Cat.none]
def R.map {α β : Type} (f : α → β) (r : R α) : R β := r.bind fun a l => .ok (f a) l
theorem define_app (last : Int) (w : List UInt8) (c0 c : Cat) (l : List Tok) : defineR last w (c0.app c) l = (defineR last w c l).map c0.app := by
  have hb : ∀ {α : Type} (r : R α) (f g : α → List Tok → R Cat), (∀ a l, f a l = (g a l).map c0.app) → r.bind f = (r.bind g).map c0.app := fun r f g h => by
    cases r with
    | bad p e => rfl
    | ok a l => exact h a l
  unfold defineR
  split
  · exact hb _ _ _ fun a l => by simp [R.map, R.bind, Cat.app]
  split
  · exact hb _ _ _ fun a l => by simp [R.map, R.bind, Cat.app]
  split
  · exact hb _ _ _ fun a l => by simp [R.map, R.bind, Cat.app]
  split
  · exact hb _ _ _ fun a l => by simp [R.map, R.bind, Cat.app]
  split
  · exact hb _ _ _ fun a l => by simp [R.map, R.bind, Cat.app]
  split
  · exact hb _ _ _ fun a l => by simp [R.map, R.bind, Cat.app]
  · exact hb _ _ _ fun a l => by simp [R.map, R.bind, Cat.app]
theorem defs_app (last : Int) (c0 : Cat) : ∀ (n : Nat) (c : Cat) (l : List Tok), defs last n (c0.app c) l = (defs last n c l).map c0.app
  | 0, c, l => rfl
  | n + 1, c, [] => by simp [defs, R.map, R.bind]
  | n + 1, c, t :: l => by
    cases hf : defT t with
    | none => rw [defs_none hf, defs_none hf]; rfl
    | some w =>
      rw [defs_some hf, defs_some hf, define_app]
      cases hd : defineR last w c l with
      | bad p e => rfl
      | ok c1 l1 => exact defs_app last c0 n c1 l1
/-- Two sources' tokens, one behind the other. -/
theorem catalogue_join {last1 last2 last : Int} {l m l' : List Tok} {x y : Cat} {r1 r2 : List Tok} (h1 : catalogue last1 l = .ok x r1) (h2 : catalogue last2 m = .ok y r2) (hm : Sim l' (l ++ m)) : catalogue last l' = .ok (x.app y) [] := by
  unfold catalogue at h1 h2 ⊢
  obtain ⟨m', n'', k1, k2, k3⟩ := defs_join _ last1 Cat.none l x r1 (Nat.le_refl _) h1 l'.length last l' m (Nat.le_refl _) hm
  have h3 := defs_app last x n'' Cat.none m'
  rw [Cat.app_none] at h3
  rw [k3, h3]
  obtain ⟨m2, n2, k4, k5, k6⟩ := defs_join _ last2 Cat.none m y r2 (Nat.le_refl _) h2 n'' last m' [] k1 (by rw [List.append_nil]; exact k2)
  rw [k6, k5.nil]
  cases n2 with
  | zero => rfl
  | succ n2 => simp [defs, R.map, R.bind]
end Go.Proofs.YtjonaidancomgaaGreatDoor.Sx
