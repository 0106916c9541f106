/- Parts of the proof, joined into one text: SxRd, SxPrI, SxCel. -/
import Derived.Test.YtjonaidancomgaaGreatDoorZSxPut
import Derived.Test.YtjonaidancomgaaGreatDoorZLxStep
import Derived.Deep.LoopGhost
import Derived.Test.YtjonaidancomgaaGreatDoorZLxC

namespace Go.Proofs.YtjonaidancomgaaGreatDoor.Sx
open Lx (Tok)
variable {last : Int} {l m : List Tok}

theorem Sim.cons2 {l r : List Tok} {t : Tok} (h : Sim l (t :: r)) : ∃ u s, l = u :: s ∧ (u.kind = t.kind ∧ u.text = t.text ∧ u.n = t.n) ∧ Sim s r := by
  obtain ⟨u, s, h1, h2, h3, h4, h5⟩ := h.cons
  exact ⟨u, s, h1, ⟨h2, h3, h4⟩, h5⟩
theorem Sim.name2 {l r : List Tok} {x : List UInt8} (h : Sim l (nameT x :: r)) : ∃ u s, l = u :: s ∧ (u.kind = 1 ∧ u.text = x ∧ u.n = 0) ∧ Sim s r := h.cons2
theorem Sim.num2 {l r : List Tok} {n : Int} (h : Sim l (numT n :: r)) : ∃ u s, l = u :: s ∧ (u.kind = 2 ∧ u.text = [] ∧ u.n = n) ∧ Sim s r := h.cons2
theorem Sim.sg2 {l r : List Tok} {c : UInt8} (h : Sim l (sgT c :: r)) : ∃ u s, l = u :: s ∧ (u.kind = 3 ∧ u.text = [c] ∧ u.n = 0) ∧ Sim s r := h.cons2
theorem rd_need {k : Int} {x : List UInt8} {t : Tok} (h1 : t.kind = k) (h2 : t.text = x) (h : Sim l (t :: m)) : ∃ r, need last k x l = .ok () r ∧ Sim r m := by
  obtain ⟨u, s, rfl, ⟨a1, a2, _⟩, hs⟩ := h.cons2
  exact ⟨s, by unfold need; rw [if_pos (hit_of (a1.trans h1) (a2.trans h2))]; rfl, hs⟩
theorem rd_sign {c : UInt8} (h : Sim l (sgT c :: m)) : ∃ r, sign last c l = .ok () r ∧ Sim r m := rd_need rfl rfl h
theorem rd_word {x : List UInt8} (h : Sim l (nameT x :: m)) : ∃ r, word last x l = .ok () r ∧ Sim r m := rd_need rfl rfl h
theorem rd_name {x : List UInt8} (h : Sim l (nameT x :: m)) : ∃ r, name last l = .ok x r ∧ Sim r m := by
  obtain ⟨u, s, rfl, ⟨a1, a2, _⟩, hs⟩ := h.name2
  exact ⟨s, by unfold name; simp [a1, a2], hs⟩
theorem rd_number {lo hi n : Int} (h1 : lo ≤ n) (h2 : n ≤ hi) (h : Sim l (numT n :: m)) : ∃ r, number last lo hi l = .ok n r ∧ Sim r m := by
  obtain ⟨u, s, rfl, ⟨a1, _, a3⟩, hs⟩ := h.num2
  exact ⟨s, by unfold number; simp [a1, a3, h1, h2], hs⟩
theorem inB_iff {n a b : Int} : inB n a b = true ↔ a ≤ n ∧ n ≤ b := by unfold inB; simp
theorem hit_kind {k j : Int} {x : List UInt8} {t : Tok} {r : List Tok} (h1 : t.kind = j) (hne : j ≠ k) : hit k x (t :: r) = false := by
  show (t.kind == k && t.text == x) = false
  have : (t.kind == k) = false := by rw [h1]; simpa using hne
  rw [this]; rfl
theorem hit_text {k : Int} {x y : List UInt8} {t : Tok} {r : List Tok} (h1 : t.text = y) (hne : y ≠ x) : hit k x (t :: r) = false := by
  show (t.kind == k && t.text == x) = false
  have : (t.text == x) = false := by rw [h1]; simpa using hne
  rw [this, Bool.and_false]
theorem rd_ref {s : List UInt8} {n : Int} (hk : refOk s n = true) (h : Sim l (refT s n ++ m)) : ∃ r, ref last l = .ok (s, unref s n) r ∧ Sim r m := by
  unfold refOk at hk
  rw [Bool.and_eq_true, inB_iff] at hk
  unfold refT at h
  unfold unref
  cases s with
  | nil =>
    obtain ⟨u, l1, rfl, ⟨a1, a2, _⟩, hs⟩ := Sim.sg2 (c := 35) (r := numT n :: m) h
    obtain ⟨r, e, s2⟩ := rd_number (last := last) (lo := 0) (hi := 4095) hk.1.1 hk.1.2 hs
    refine ⟨r, ?_, s2⟩
    unfold ref
    rw [if_pos (hit_of a1 a2), List.tail_cons, e, ok_bind']
    rfl
  | cons c s =>
    have h' : Sim l (nameT (c :: s) :: m) := h
    obtain ⟨r, e, s2⟩ := rd_name (last := last) h'
    obtain ⟨u, l1, rfl, ⟨a1, _, _⟩, _⟩ := h'.name2
    refine ⟨r, ?_, s2⟩
    unfold ref
    rw [hit_kind a1 (by decide), if_neg (by simp), e, ok_bind']
    rfl
theorem rd_ratio {x : Ratio} (hk : x.fine = true) (h : Sim l (ratioT x ++ m)) : ∃ r, ratio last l = .ok x r ∧ Sim r m := by
  unfold Ratio.fine at hk
  simp only [Bool.and_eq_true, decide_eq_true_eq] at hk
  obtain ⟨⟨⟨⟨h1, h2⟩, h3⟩, h4⟩, h5⟩ := hk
  have h' : Sim l (numT x.num :: sgT 47 :: numT x.den :: m) := h
  obtain ⟨r1, e1, s1⟩ := rd_number (last := last) (lo := 0) (hi := 12000) h3 (by omega) h'
  obtain ⟨r2, e2, s2⟩ := rd_sign (last := last) s1
  obtain ⟨r3, e3, s3⟩ := rd_number (last := last) (lo := max 1 ((x.num + 11) / 12)) (hi := 1000) (by omega) h2 s2
  refine ⟨r3, ?_, s3⟩
  unfold ratio
  rw [e1, ok_bind', e2, ok_bind', e3, ok_bind']
  unfold lowest
  rw [h5]
  simp
theorem find_of {ws : List (List UInt8)} {w : List UInt8} {i : Nat} (hw : findT ws (nameT w) = some i) (h : Sim l (nameT w :: m)) : find ws l = some i ∧ Sim l.tail m := by
  obtain ⟨u, s, rfl, ⟨a1, a2, _⟩, hs⟩ := h.cons2
  exact ⟨by rw [find_cons, findT_sim ws a1 a2, hw], hs⟩
theorem rd_oneOf {ws : List (List UInt8)} {w : List UInt8} {i : Nat} (hw : findT ws (nameT w) = some i) (h : Sim l (nameT w :: m)) : ∃ r, oneOf last ws l = .ok (i : Int) r ∧ Sim r m := by
  obtain ⟨h1, h2⟩ := find_of hw h
  exact ⟨l.tail, by unfold oneOf; rw [h1], h2⟩
theorem rd_opt {α : Type} {w : List UInt8} {f : List Tok → R α} {d x : α} {ts : List Tok} (hf : ∀ l m, Sim l (ts ++ m) → ∃ r, f l = .ok x r ∧ Sim r m) (h : Sim l (nameT w :: (ts ++ [sgT 59]) ++ m)) : ∃ r, opt last w f d l = .ok x r ∧ Sim r m := by
  have h' : Sim l (nameT w :: (ts ++ (sgT 59 :: m))) := by simpa using h
  obtain ⟨u, s, rfl, ⟨a1, a2, _⟩, hs⟩ := h'.name2
  obtain ⟨r1, e1, s1⟩ := hf _ _ hs
  obtain ⟨r2, e2, s2⟩ := rd_sign (last := last) s1
  refine ⟨r2, ?_, s2⟩
  unfold opt
  rw [if_pos (hit_of a1 a2), List.tail_cons, e1, ok_bind', e2, ok_bind']
theorem rd_opt_none {α : Type} {w : List UInt8} {f : List Tok → R α} {d : α} (h : hit 1 w m = false) (hs : Sim l m) : opt last w f d l = .ok d l := by
  unfold opt
  rw [hit_sim hs, h, if_neg (by simp)]
theorem ruleT_head (r : Rule) : ∃ w ts, ruleT r = nameT w :: ts := by
  cases r; rw [ruleT]; exact ⟨_, _, rfl⟩
/-- Kids up to the sign that closes. -/
theorem rd_kids {f : Nat → List Tok → R Rule} : ∀ (ks acc : List Rule) (n : Nat) (l m : List Tok), acc.length + ks.length ≤ 200 → l.length + 1 ≤ n → (∀ r ∈ ks, ∀ b, b < 200 → ∀ l m, Sim l (ruleT r ++ m) → ∃ s, f b l = .ok r.un s ∧ Sim s m) →
    Sim l (kidsT ks ++ (sgT 125 :: m)) → ∃ r, kids last f n acc l = .ok (acc ++ unRules ks) r ∧ Sim r m
  | ks, acc, 0, l, m, _, hn, _, _ => by omega
  | [], acc, n + 1, l, m, _, _, _, h => by
    have h' : Sim l (sgT 125 :: m) := h
    obtain ⟨u, s, rfl, ⟨a1, a2, _⟩, hs⟩ := h'.sg2
    refine ⟨s, ?_, hs⟩
    unfold kids
    rw [if_pos (hit_of a1 a2), unRules, List.append_nil]; rfl
  | k :: ks, acc, n + 1, l, m, ha, hn, hf, h => by
    have h' : Sim l (ruleT k ++ (sgT 59 :: (kidsT ks ++ (sgT 125 :: m)))) := by
      rw [kidsT] at h; simpa using h
    obtain ⟨w, ts, hw⟩ := ruleT_head k
    have hh : hit 3 [125] l = false := by
      rw [hit_sim h', hw]
      exact hit_kind (j := 1) rfl (by decide)
    simp only [List.length_cons] at ha
    obtain ⟨r1, e1, s1⟩ := hf k (by simp) acc.length (by omega) _ _ h'
    obtain ⟨r2, e2, s2⟩ := rd_sign (last := last) s1
    have n1 := h'.length
    have n2 := s2.length
    rw [hw] at n1
    simp at n1 n2
    obtain ⟨r3, e3, s3⟩ := rd_kids ks (acc ++ [k.un]) n r2 m (by simp; omega) (by omega) (fun r hr => hf r (by simp [hr])) s2
    refine ⟨r3, ?_, s3⟩
    rw [kids, hh, if_neg (by simp), e1, ok_bind', e2, ok_bind', e3, unRules]
    simp
theorem rulesOk_mem : ∀ {k : Nat} {rs : List Rule}, rulesOk k rs = true → ∀ r ∈ rs, ruleOk k r = true
  | _, [], _, _, h => by simp at h
  | k, q :: rs, h, r, hr => by
    rw [rulesOk, Bool.and_eq_true] at h
    rcases List.mem_cons.1 hr with rfl | hr
    · exact h.1
    · exact rulesOk_mem h.2 r hr
/-- What a printable rule's operation says of its other parts. -/
theorem ruleOk_op {k : Nat} {op co : Int} {nm : List UInt8} {n d : Int} {ks : List Rule} (h : ruleOk (k + 1) (.mk op co nm n d ks) = true) :
    ks.length ≤ 200 ∧ rulesOk k ks = true ∧ ((op = 1 ∨ op = 2) ∧ nm = [] ∧ co = 0 ∧ n = 0 ∧ d = 0 ∨ op = 3 ∧ nm = [] ∧ co = 0 ∧ (0 ≤ n ∧ n ≤ 200) ∧ d = 0 ∨ op = 4 ∧ nm = [] ∧ co = 0 ∧ n = 0 ∧ d = 0 ∧ ks.length = 1 ∨
      op = 5 ∧ refOk nm co = true ∧ (0 ≤ n ∧ n ≤ 12) ∧ d = 0 ∧ ks = [] ∨ op = 6 ∧ refOk nm co = true ∧ (1 ≤ n ∧ n ≤ 100) ∧ d = 0 ∧ ks = [] ∨ op = 7 ∧ nm = [] ∧ co = 0 ∧ (0 ≤ n ∧ n ≤ 10000) ∧ d = 0 ∧ ks = [] ∨
      op = 8 ∧ nm = [] ∧ co = 0 ∧ Ratio.fine ⟨n, d⟩ = true ∧ ks = [] ∨ op = 9 ∧ refOk nm co = true ∧ n = 0 ∧ d = 0 ∧ ks = []) := by
  rw [ruleOk, Bool.and_eq_true, Bool.and_eq_true, decide_eq_true_eq] at h
  obtain ⟨⟨h1, h2⟩, h3⟩ := h
  refine ⟨h1, h2, ?_⟩
  split at h3
  · rename_i h
    simp only [Bool.and_eq_true, List.isEmpty_iff, beq_iff_eq] at h3
    exact .inl ⟨h, h3.1.1.1, h3.1.1.2, h3.1.2, h3.2⟩
  split at h3
  · rename_i h
    simp only [Bool.and_eq_true, List.isEmpty_iff, beq_iff_eq, inB_iff] at h3
    exact .inr (.inl ⟨h, h3.1.1.1, h3.1.1.2, h3.1.2, h3.2⟩)
  split at h3
  · rename_i h
    simp only [Bool.and_eq_true, List.isEmpty_iff, beq_iff_eq] at h3
    exact .inr (.inr (.inl ⟨h, h3.1.1.1.1, h3.1.1.1.2, h3.1.1.2, h3.1.2, h3.2⟩))
  split at h3
  · rename_i h
    simp only [Bool.and_eq_true, List.isEmpty_iff, beq_iff_eq, inB_iff] at h3
    exact .inr (.inr (.inr (.inl ⟨h, h3.1.1.1, h3.1.1.2, h3.1.2, h3.2⟩)))
  split at h3
  · rename_i h
    simp only [Bool.and_eq_true, List.isEmpty_iff, beq_iff_eq, inB_iff] at h3
    exact .inr (.inr (.inr (.inr (.inl ⟨h, h3.1.1.1, h3.1.1.2, h3.1.2, h3.2⟩))))
  split at h3
  · rename_i h
    simp only [Bool.and_eq_true, List.isEmpty_iff, beq_iff_eq, inB_iff] at h3
    exact .inr (.inr (.inr (.inr (.inr (.inl ⟨h, h3.1.1.1.1, h3.1.1.1.2, h3.1.1.2, h3.1.2, h3.2⟩)))))
  split at h3
  · rename_i h
    simp only [Bool.and_eq_true, List.isEmpty_iff, beq_iff_eq] at h3
    exact .inr (.inr (.inr (.inr (.inr (.inr (.inl ⟨h, h3.1.1.1, h3.1.1.2, h3.1.2, h3.2⟩))))))
  split at h3
  · rename_i h
    simp only [Bool.and_eq_true, List.isEmpty_iff, beq_iff_eq] at h3
    exact .inr (.inr (.inr (.inr (.inr (.inr (.inr ⟨h, h3.1.1.1, h3.1.1.2, h3.1.2, h3.2⟩))))))
  · cases h3
theorem findRule {op : Int} (h : 1 ≤ op ∧ op ≤ 9) : findT ruleWords (nameT (ruleWords.getD (op - 1).toNat [])) = some (op - 1).toNat := by
  have : op = 1 ∨ op = 2 ∨ op = 3 ∨ op = 4 ∨ op = 5 ∨ op = 6 ∨ op = 7 ∨ op = 8 ∨ op = 9 := by omega
  rcases this with rfl | rfl | rfl | rfl | rfl | rfl | rfl | rfl | rfl <;> decide
theorem unRules_one {ks : List Rule} (h : ks.length = 1) : ∃ r, ks = [r] := by
  match ks, h with
  | [r], _ => exact ⟨r, rfl⟩
theorem rd_rule : ∀ (k : Nat) (r : Rule), ruleOk k r = true → ∀ b, b < 200 → ∀ l m, Sim l (ruleT r ++ m) → ∃ s, rule last k b l = .ok r.un s ∧ Sim s m
  | 0, r, h, _, _, _, _, _ => by cases r; simp [ruleOk] at h
  | k + 1, .mk op co nm n d ks, h, b, hb, l, m, hs => by
    obtain ⟨hlen, hks, hop⟩ := ruleOk_op h
    have ih : ∀ r ∈ ks, ∀ b, b < 200 → ∀ l m, Sim l (ruleT r ++ m) → ∃ s, rule last k b l = .ok r.un s ∧ Sim s m := fun r hr => rd_rule k r (rulesOk_mem hks r hr)
    have hr : 1 ≤ op ∧ op ≤ 9 := by omega
    rw [ruleT] at hs
    obtain ⟨r1, e1, s1⟩ := rd_oneOf (last := last) (findRule hr) hs
    have hi : (((op - 1).toNat : Nat) : Int) + 1 = op := by omega
    rw [rule, e1, ok_bind', hi]
    have hlim : ¬ (b = 200 ∨ (op = 4 ∧ k = 0)) := by
      rintro (h | ⟨h, hk⟩)
      · omega
      · subst hk
        rcases hop with h' | h' | h' | h' | h' | h' | h' | h' <;> try omega
        obtain ⟨q, rfl⟩ := unRules_one h'.2.2.2.2.2
        cases q
        simp [rulesOk, ruleOk] at hks
    rw [if_neg hlim, Rule.un]
    rcases hop with ⟨h0 | h0, rfl, rfl, rfl, rfl⟩ | ⟨rfl, rfl, rfl, hn, rfl⟩ | ⟨rfl, rfl, rfl, rfl, rfl, h1⟩ | ⟨rfl, hrf, hn, rfl, rfl⟩ | ⟨rfl, hrf, hn, rfl, rfl⟩ | ⟨rfl, rfl, rfl, hn, rfl, rfl⟩ | ⟨rfl, rfl, rfl, hf, rfl⟩ | ⟨rfl, hrf, rfl, rfl, rfl⟩
    · subst h0
      have s2 : Sim r1 (sgT 123 :: (kidsT ks ++ (sgT 125 :: m))) := by simpa using s1
      obtain ⟨r2, e2, s3⟩ := rd_sign (last := last) s2
      obtain ⟨r3, e3, s4⟩ := rd_kids (last := last) ks [] r2.length.succ r2 m (by simpa using hlen) (Nat.le_refl _) ih s3
      refine ⟨r3, ?_, s4⟩
      unfold ruleBody
      simp only [show ¬ (1 : Int) = 4 by decide, show ¬ (1 : Int) = 5 by decide, show ¬ (1 : Int) = 6 by decide, show ¬ (1 : Int) = 7 by decide, show ¬ (1 : Int) = 8 by decide, show ¬ (1 : Int) = 9 by decide, show ¬ (1 : Int) = 3 by decide, if_false]
      rw [e2, ok_bind', e3, ok_bind']
      rfl
    · subst h0
      have s2 : Sim r1 (sgT 123 :: (kidsT ks ++ (sgT 125 :: m))) := by simpa using s1
      obtain ⟨r2, e2, s3⟩ := rd_sign (last := last) s2
      obtain ⟨r3, e3, s4⟩ := rd_kids (last := last) ks [] r2.length.succ r2 m (by simpa using hlen) (Nat.le_refl _) ih s3
      refine ⟨r3, ?_, s4⟩
      unfold ruleBody
      simp only [show ¬ (2 : Int) = 4 by decide, show ¬ (2 : Int) = 5 by decide, show ¬ (2 : Int) = 6 by decide, show ¬ (2 : Int) = 7 by decide, show ¬ (2 : Int) = 8 by decide, show ¬ (2 : Int) = 9 by decide, show ¬ (2 : Int) = 3 by decide, if_false]
      rw [e2, ok_bind', e3, ok_bind']
      rfl
    · have s2 : Sim r1 (numT n :: sgT 123 :: (kidsT ks ++ (sgT 125 :: m))) := by simpa using s1
      obtain ⟨r0, e0, s2⟩ := rd_number (last := last) (lo := 0) (hi := 200) hn.1 hn.2 s2
      obtain ⟨r2, e2, s3⟩ := rd_sign (last := last) s2
      obtain ⟨r3, e3, s4⟩ := rd_kids (last := last) ks [] r2.length.succ r2 m (by simpa using hlen) (Nat.le_refl _) ih s3
      refine ⟨r3, ?_, s4⟩
      unfold ruleBody
      simp only [show ¬ (3 : Int) = 4 by decide, show ¬ (3 : Int) = 5 by decide, show ¬ (3 : Int) = 6 by decide, show ¬ (3 : Int) = 7 by decide, show ¬ (3 : Int) = 8 by decide, show ¬ (3 : Int) = 9 by decide, if_false, if_true]
      rw [e0, ok_bind', e2, ok_bind', e3, ok_bind']
      rfl
    · obtain ⟨q, rfl⟩ := unRules_one h1
      have s2 : Sim r1 (ruleT q ++ m) := by simpa [notT] using s1
      obtain ⟨r2, e2, s3⟩ := ih q (by simp) 0 (by omega) _ _ s2
      refine ⟨r2, ?_, s3⟩
      unfold ruleBody
      simp only [if_true]
      rw [e2, ok_bind', unRules, unRules]
      rfl
    · have s2 : Sim r1 (refT nm co ++ (numT n :: m)) := by simpa using s1
      obtain ⟨r2, e2, s3⟩ := rd_ref (last := last) hrf s2
      obtain ⟨r3, e3, s4⟩ := rd_number (last := last) (lo := 0) (hi := 12) hn.1 hn.2 s3
      refine ⟨r3, ?_, s4⟩
      unfold ruleBody
      simp only [show ¬ (5 : Int) = 4 by decide, if_false, if_true]
      rw [e2, ok_bind', e3, ok_bind', unRules]
    · have s2 : Sim r1 (refT nm co ++ (numT n :: m)) := by simpa using s1
      obtain ⟨r2, e2, s3⟩ := rd_ref (last := last) hrf s2
      obtain ⟨r3, e3, s4⟩ := rd_number (last := last) (lo := 1) (hi := 100) hn.1 hn.2 s3
      refine ⟨r3, ?_, s4⟩
      unfold ruleBody
      simp only [show ¬ (6 : Int) = 4 by decide, show ¬ (6 : Int) = 5 by decide, if_false, if_true]
      rw [e2, ok_bind', e3, ok_bind', unRules]
    · have s2 : Sim r1 (numT n :: m) := by simpa using s1
      obtain ⟨r3, e3, s4⟩ := rd_number (last := last) (lo := 0) (hi := 10000) hn.1 hn.2 s2
      refine ⟨r3, ?_, s4⟩
      unfold ruleBody
      simp only [show ¬ (7 : Int) = 4 by decide, show ¬ (7 : Int) = 5 by decide, show ¬ (7 : Int) = 6 by decide, if_false, if_true]
      rw [e3, ok_bind', unRules]
      rfl
    · have s2 : Sim r1 (ratioT ⟨n, d⟩ ++ m) := by simpa using s1
      obtain ⟨r3, e3, s4⟩ := rd_ratio (last := last) hf s2
      refine ⟨r3, ?_, s4⟩
      unfold ruleBody
      simp only [show ¬ (8 : Int) = 4 by decide, show ¬ (8 : Int) = 5 by decide, show ¬ (8 : Int) = 6 by decide, show ¬ (8 : Int) = 7 by decide, if_false, if_true]
      rw [e3, ok_bind', unRules]
      rfl
    · have s2 : Sim r1 (refT nm co ++ m) := by simpa using s1
      obtain ⟨r3, e3, s4⟩ := rd_ref (last := last) hrf s2
      refine ⟨r3, ?_, s4⟩
      unfold ruleBody
      simp only [show ¬ (9 : Int) = 4 by decide, show ¬ (9 : Int) = 5 by decide, show ¬ (9 : Int) = 6 by decide, show ¬ (9 : Int) = 7 by decide, show ¬ (9 : Int) = 8 by decide, if_false, if_true]
      rw [e3, ok_bind', unRules]
end Go.Proofs.YtjonaidancomgaaGreatDoor.Sx

namespace Go.Proofs.YtjonaidancomgaaGreatDoor
open Go.RowKit

/-- The printer (block g) beside the world in which a walk began. -/
structure PI (g : Nat) (l : List Lx.Tok) (w0 w : World) : Prop where
  st : PrSt g l w
  bel : Below g w0 w
  kp : KP w0 w
def PIPost (g : Nat) (l : List Lx.Tok) (w0 : World) (e : Ending) (w' : World) : Prop := e = .returned (.tuple #[]) ∧ PI g l w0 w'
theorem PI.start {g : Nat} {l : List Lx.Tok} {w : World} (h : PrSt g l w) : PI g l w w := ⟨h, Below.refl _ _, KP.refl _⟩
theorem PI.next {g : Nat} {l : List Lx.Tok} {w0 w w' : World} (h : PI g l w0 w) (hb : Below w.heap.size w w') : PI g l w0 w' :=
  ⟨h.st.next hb, h.bel.trans (hb.mono (Nat.le_of_lt h.st.lt)), h.kp.trans (KP.below hb)⟩
theorem PI.post {g : Nat} {l ts : List Lx.Tok} {w0 w w' : World} {e : Ending} (h : PI g l w0 w) (ht : TPost g l ts w e w') : PIPost g (l ++ ts) w0 e w' :=
  ⟨ht.1, ht.2.1, h.bel.trans ht.2.2.1, h.kp.trans ht.2.2.2⟩
theorem PI.blk {g : Nat} {l : List Lx.Tok} {w0 w : World} (h : PI g l w0 w) {b : Nat} {t : TypeId} {cs : Array Value} (hb : Blk w0 b t cs) (h1 : t ≠ 55) (h2 : t ≠ 110) : Blk w b t cs := h.kp.blk hb h1 h2
theorem RuleSays.later {g : Nat} {w w' : World} {r : Sx.Rule} {cs : List Value} (h : RuleSays g w r cs) (hb : Below g w w') : RuleSays g w' r cs :=
  ⟨h.1, fun l W hW hB hl => h.2 l W hW (hb.trans hB) hl⟩
theorem PI.put {g : Nat} {l : List Lx.Tok} {w0 w : World} (h : PI g l w0 w) (its : List PrIt) {cs : Array Value} {n b : Nat} {ts : List Lx.Tok} (hb0 : b = w.heap.size) (hcs : cs = (its.map PrIt.val).toArray) (hn : n = its.length) (hts : its.flatMap PrIt.toks = ts) (hn1 : n ≤ 100) (hlen : l.length + ts.length ≤ 60000)
    (hrul : ∀ r c, PrIt.rule r c ∈ its → RuleSays g w0 r c) :
    Calls Tryz.prog 50 #[.pointer (some ⟨g, 0, none⟩), .slice (some ⟨b, 0, none⟩) n n] (w.alloc (.cells cs 20)) (PIPost g (l ++ ts) w0) := by
  subst hb0; subst hcs; subst hn; subst hts
  have hb : Below w.heap.size w (w.alloc (.cells (its.map PrIt.val).toArray 20)) := (Below.refl _ _).alloc (Nat.le_refl _) _
  have h1 := h.next hb
  exact (lPut g its l w.heap.size _ h1.st (Blk.new _ _ _) hn1 hlen (fun r c hr => (hrul r c hr).later h1.bel)).mono fun e w' he => h1.post he

set_option maxRecDepth 20000 in
set_option maxHeartbeats 2000000 in
theorem lRef (g : Nat) (nm : List UInt8) (n : Int) (l : List Lx.Tok) (w : World) (h : PrSt g l w) (hlen : l.length + (Sx.refT nm n).length ≤ 60000) :
    Calls Tryz.prog 51 #[.pointer (some ⟨g, 0, none⟩), .string (Lx.bs nm), .int .i64 n] w (TPost g l (Sx.refT nm n) w) := by
  have H := Lib.hid (PI.start h)
  have hbs : ((Lx.bs nm).toList == (⟨#[]⟩ : ByteArray).toList) = nm.isEmpty := by rw [ByteArray.toList_eq, ByteArray.toList_eq, Lx.bs_list]; cases nm <;> rfl
  have hbs2 : (Lx.bs nm).toList.isEmpty = nm.isEmpty := by rw [ByteArray.toList_eq, Lx.bs_list]
  clear h
  cases q : nm.isEmpty with
  | true =>
    rw [q] at hbs hbs2
    have ht : Sx.refT nm n = [Sx.sgT 35, Sx.numT n] := by unfold Sx.refT; rw [q]; rfl
    rw [ht] at hlen
    simp at hlen
    have Ht := Lib.hid ht
    clear ht
    go_enter Tryz.func51, Tryz.ntmps51
    go_wp2_with fail
    refine (H.out.put [.sign [35], .num n] (ts := [Sx.sgT 35, Sx.numT n]) rfl rfl rfl rfl (by simp) (by simp; omega) (by simp)).mono ?_
    rintro e w1 ⟨rfl, h1⟩
    have H1 := Lib.hid h1
    clear h1
    go_wp2_with fail
    go_end0
    exact ⟨rfl, by rw [Ht.out]; exact H1.out.st, H1.out.bel, H1.out.kp⟩
  | false =>
    rw [q] at hbs hbs2
    have ht : Sx.refT nm n = [Sx.nameT nm] := by unfold Sx.refT; rw [q]; rfl
    rw [ht] at hlen
    simp at hlen
    have Ht := Lib.hid ht
    clear ht
    go_enter Tryz.func51, Tryz.ntmps51
    go_wp2_with fail
    refine (H.out.put [.name nm] (ts := [Sx.nameT nm]) rfl rfl rfl rfl (by simp) (by simp; omega) (by simp)).mono ?_
    rintro e w1 ⟨rfl, h1⟩
    have H1 := Lib.hid h1
    clear h1
    go_wp2_with fail
    go_end0
    exact ⟨rfl, by rw [Ht.out]; exact H1.out.st, H1.out.bel, H1.out.kp⟩
theorem PI.ref {g : Nat} {l : List Lx.Tok} {w0 w : World} (h : PI g l w0 w) (nm : List UInt8) (n : Int) (hlen : l.length + (Sx.refT nm n).length ≤ 60000) :
    Calls Tryz.prog 51 #[.pointer (some ⟨g, 0, none⟩), .string (Lx.bs nm), .int .i64 n] w (PIPost g (l ++ Sx.refT nm n) w0) :=
  (lRef g nm n l w h.st hlen).mono fun _e _w' he => h.post he
theorem PI.rule {g : Nat} {l : List Lx.Tok} {w0 w : World} (h : PI g l w0 w) {r : Sx.Rule} {cs : List Value} (hr : RuleSays g w0 r cs) (hlen : l.length + (Sx.ruleT r).length ≤ 60000) :
    Calls Tryz.prog 58 #[.pointer (some ⟨g, 0, none⟩), .agg cs.toArray] w (PIPost g (l ++ Sx.ruleT r) w0) :=
  (hr.2 l w h.st h.bel hlen).mono fun _e _w' he => h.post he
end Go.Proofs.YtjonaidancomgaaGreatDoor

namespace Go.Proofs.YtjonaidancomgaaGreatDoor
open Go.RowKit

theorem cells2 {w : World} {b : Nat} {t : TypeId} {v0 v1 : Value} (h : Blk w b t #[v0, v1]) : w.cell? ⟨b, 0, none⟩ = some v0 ∧ w.cell? ⟨b, 1, none⟩ = some v1 ∧ b < w.heap.size :=
  ⟨(h.cell 0).trans rfl, (h.cell 1).trans rfl, h.lt⟩
theorem cells4 {w : World} {b : Nat} {t : TypeId} {v0 v1 v2 v3 : Value} (h : Blk w b t #[v0, v1, v2, v3]) : w.cell? ⟨b, 0, none⟩ = some v0 ∧ w.cell? ⟨b, 1, none⟩ = some v1 ∧ w.cell? ⟨b, 2, none⟩ = some v2 ∧ w.cell? ⟨b, 3, none⟩ = some v3 ∧ b < w.heap.size :=
  ⟨(h.cell 0).trans rfl, (h.cell 1).trans rfl, (h.cell 2).trans rfl, (h.cell 3).trans rfl, h.lt⟩
theorem cells6 {w : World} {b : Nat} {t : TypeId} {v0 v1 v2 v3 v4 v5 : Value} (h : Blk w b t #[v0, v1, v2, v3, v4, v5]) : w.cell? ⟨b, 0, none⟩ = some v0 ∧ w.cell? ⟨b, 1, none⟩ = some v1 ∧ w.cell? ⟨b, 2, none⟩ = some v2 ∧ w.cell? ⟨b, 3, none⟩ = some v3 ∧ w.cell? ⟨b, 4, none⟩ = some v4 ∧ w.cell? ⟨b, 5, none⟩ = some v5 ∧ b < w.heap.size :=
  ⟨(h.cell 0).trans rfl, (h.cell 1).trans rfl, (h.cell 2).trans rfl, (h.cell 3).trans rfl, (h.cell 4).trans rfl, (h.cell 5).trans rfl, h.lt⟩
theorem cells7 {w : World} {b : Nat} {t : TypeId} {v0 v1 v2 v3 v4 v5 v6 : Value} (h : Blk w b t #[v0, v1, v2, v3, v4, v5, v6]) : w.cell? ⟨b, 0, none⟩ = some v0 ∧ w.cell? ⟨b, 1, none⟩ = some v1 ∧ w.cell? ⟨b, 2, none⟩ = some v2 ∧ w.cell? ⟨b, 3, none⟩ = some v3 ∧ w.cell? ⟨b, 4, none⟩ = some v4 ∧ w.cell? ⟨b, 5, none⟩ = some v5 ∧ w.cell? ⟨b, 6, none⟩ = some v6 ∧ b < w.heap.size :=
  ⟨(h.cell 0).trans rfl, (h.cell 1).trans rfl, (h.cell 2).trans rfl, (h.cell 3).trans rfl, (h.cell 4).trans rfl, (h.cell 5).trans rfl, (h.cell 6).trans rfl, h.lt⟩
theorem cells16 {w : World} {b : Nat} {t : TypeId} {v0 v1 v2 v3 v4 v5 v6 v7 v8 v9 v10 v11 v12 v13 v14 v15 : Value} (h : Blk w b t #[v0, v1, v2, v3, v4, v5, v6, v7, v8, v9, v10, v11, v12, v13, v14, v15]) : w.cell? ⟨b, 0, none⟩ = some v0 ∧ w.cell? ⟨b, 1, none⟩ = some v1 ∧ w.cell? ⟨b, 2, none⟩ = some v2 ∧ w.cell? ⟨b, 3, none⟩ = some v3 ∧ w.cell? ⟨b, 4, none⟩ = some v4 ∧ w.cell? ⟨b, 5, none⟩ = some v5 ∧ w.cell? ⟨b, 6, none⟩ = some v6 ∧ w.cell? ⟨b, 7, none⟩ = some v7 ∧ w.cell? ⟨b, 8, none⟩ = some v8 ∧ w.cell? ⟨b, 9, none⟩ = some v9 ∧ w.cell? ⟨b, 10, none⟩ = some v10 ∧ w.cell? ⟨b, 11, none⟩ = some v11 ∧ w.cell? ⟨b, 12, none⟩ = some v12 ∧ w.cell? ⟨b, 13, none⟩ = some v13 ∧ w.cell? ⟨b, 14, none⟩ = some v14 ∧ w.cell? ⟨b, 15, none⟩ = some v15 ∧ b < w.heap.size :=
  ⟨(h.cell 0).trans rfl, (h.cell 1).trans rfl, (h.cell 2).trans rfl, (h.cell 3).trans rfl, (h.cell 4).trans rfl, (h.cell 5).trans rfl, (h.cell 6).trans rfl, (h.cell 7).trans rfl, (h.cell 8).trans rfl, (h.cell 9).trans rfl, (h.cell 10).trans rfl, (h.cell 11).trans rfl, (h.cell 12).trans rfl, (h.cell 13).trans rfl, (h.cell 14).trans rfl, (h.cell 15).trans rfl, h.lt⟩
theorem frees6 {w : World} {b : Nat} {t : TypeId} {cs : Array Value} (h : Blk w b t cs) : w.frozen? ⟨b, 0, none⟩ = false ∧ w.frozen? ⟨b, 1, none⟩ = false ∧ w.frozen? ⟨b, 2, none⟩ = false ∧ w.frozen? ⟨b, 3, none⟩ = false ∧ w.frozen? ⟨b, 4, none⟩ = false ∧ w.frozen? ⟨b, 5, none⟩ = false := ⟨h.free 0, h.free 1, h.free 2, h.free 3, h.free 4, h.free 5⟩
end Go.Proofs.YtjonaidancomgaaGreatDoor
