/- Parts of the proof, joined into one text: QyBack, QyBackB, QyBackC, QyBackD. -/
import Derived.Test.YtjonaidancomgaaDoorZLxPlain

namespace Go.Proofs.YtjonaidancomgaaDoor.Qy
open Lx

theorem same_cons {x : Tok} {l m : List Tok} (h : same (x :: l) m = true) : ∃ u m', m = u :: m' ∧ u.kind = x.kind ∧ u.text = x.text ∧ u.n = x.n ∧ same l m' = true := by
  cases m with
  | nil => simp [same] at h
  | cons u m' =>
    simp only [same, same1, Bool.and_eq_true, beq_iff_eq] at h
    exact ⟨u, m', rfl, h.1.1.1.symm, h.1.1.2.symm, h.1.2.symm, h.2⟩
theorem same_nil {m : List Tok} (h : same [] m = true) : m = [] := by
  cases m with
  | nil => rfl
  | cons u m' => simp [same] at h

structure Good (ns : List (List UInt8)) : Prop where
  few : ns.length ≤ 8
  kinds : ∀ n ∈ ns, kindOf n = 0
  nodup : ns.Nodup

theorem nodup_inj {ns : List (List UInt8)} (h : ns.Nodup) {i j : Nat} (hi : i < ns.length) (hj : j < ns.length) (e : ns[i] = ns[j]) : i = j := by
  rcases Nat.lt_trichotomy i j with h1 | h1 | h1
  · exact absurd e (List.pairwise_iff_getElem.1 h i j hi hj h1)
  · exact h1
  · exact absurd e.symm (List.pairwise_iff_getElem.1 h j i hj hi h1)
theorem idx_get {ns : List (List UInt8)} (h : ns.Nodup) (i : Nat) (hi : i < ns.length) : ns.findIdx? (· == ns[i]) = some i := by
  rw [List.findIdx?_eq_some_iff_getElem]
  refine ⟨hi, by simp, fun j hj => ?_⟩
  simp only [beq_iff_eq]
  intro e
  have := nodup_inj h (by omega) hi e
  omega
theorem idx_take {ns : List (List UInt8)} (h : ns.Nodup) (k i : Nat) (hi : i < ns.length) : (ns.take k).findIdx? (· == ns[i]) = if i < k then some i else none := by
  split
  · rename_i hik
    have hi2 : i < (ns.take k).length := by rw [List.length_take]; omega
    have e : ns[i] = (ns.take k)[i] := by rw [List.getElem_take]
    rw [e]
    exact idx_get (h.sublist (List.take_sublist _ _)) i hi2
  · rename_i hik
    rw [List.findIdx?_eq_none_iff]
    intro x hx
    obtain ⟨j, hj, rfl⟩ := List.mem_iff_getElem.1 hx
    rw [List.length_take] at hj
    rw [List.getElem_take]
    simp only [beq_eq_false_iff_ne]
    intro e
    have := nodup_inj h hi (by omega) e.symm
    omega

section
variable (last : Int) {ns : List (List UInt8)}
def nx (k n : Int) : Int := if n = k then k + 1 else k
theorem order_cons {top k f n : Int} {r : List Int} (h : order top k (n :: r) = some f) : 0 ≤ n ∧ n ≤ k ∧ n < top ∧ order top (nx k n) r = some f := by
  rw [order] at h
  split at h
  · cases h
  · rename_i hn
    exact ⟨by omega, by omega, by omega, h⟩

theorem var_ok (hg : Good ns) {fresh : Bool} {k n : Int} {s : St} {L : List Tok} (h0 : 0 ≤ n) (h1 : n ≤ k) (h2 : n < ns.length) (hf : fresh = true → n = k) (hn : s.names = ns.take k.toNat)
    (ht : same (nameT (ns.getD n.toNat []) :: L) s.toks = true) : ∃ r, same L r = true ∧ variable_ last fresh s = .ok n { s with toks := r, names := ns.take (nx k n).toNat } := by
  obtain ⟨u, r, e, u1, u2, _, hs⟩ := same_cons ht
  refine ⟨r, hs, ?_⟩
  have hi : n.toNat < ns.length := by omega
  have hget : ns.getD n.toNat [] = ns[n.toNat] := by simp [List.getD, List.getElem?_eq_getElem hi]
  have hu : u.text = ns[n.toNat] := by rw [u2, ← hget]; rfl
  have hk : u.kind = 1 ∧ kindOf u.text = 0 := ⟨u1, by rw [hu]; exact hg.kinds _ (List.getElem_mem _)⟩
  unfold variable_
  rw [e]
  simp only
  rw [if_pos hk, hn, hu, idx_take hg.nodup k.toNat n.toNat hi]
  have hcast : ((n.toNat : Nat) : Int) = n := by omega
  by_cases hlt : n.toNat < k.toNat
  · rw [if_pos hlt]
    have hne : ¬ n = k := by omega
    have hfr : fresh = false := by
      cases fresh
      · rfl
      · exact absurd (hf rfl) hne
    simp only [hfr, Bool.false_eq_true, if_false, hcast]
    unfold nx
    rw [if_neg hne, ← hn]
  · rw [if_neg hlt]
    have hnk : n = k := by omega
    have hlen : (ns.take k.toNat).length = k.toNat := by rw [List.length_take]; omega
    have h8 : ¬ (ns.take k.toNat).length = 8 := by rw [hlen]; have := hg.few; omega
    simp only
    rw [if_neg h8, hlen]
    unfold nx
    rw [if_pos hnk]
    have e1 : (k + 1).toNat = k.toNat + 1 := by omega
    have e2 : ((k.toNat : Nat) : Int) = n := by omega
    rw [e1, e2, List.take_succ_eq_append_getElem (by omega)]
    have e3 : n.toNat = k.toNat := by omega
    simp only [e3]

/-- An argument that may stand behind k variables. -/
def ArgOk (a : Arg) : Prop := a.var = true ∨ (0 ≤ a.n ∧ a.n ≤ 1099511627776)
theorem arg_ok (hg : Good ns) {a : Arg} {k f : Int} {s : St} {L : List Tok} {rest : List Int} (ha : ArgOk a) (ho : order ns.length k (a.vars ++ rest) = some f) (hn : s.names = ns.take k.toNat)
    (ht : same (argT ns a :: L) s.toks = true) : ∃ r k', same L r = true ∧ order ns.length k' rest = some f ∧ argument last s = .ok a { s with toks := r, names := ns.take k'.toNat } := by
  obtain ⟨v, n⟩ := a
  cases v with
  | true =>
    have ho' : order ns.length k (n :: rest) = some f := ho
    obtain ⟨h0, h1, h2, h3⟩ := order_cons ho'
    have ht' : same (nameT (ns.getD n.toNat []) :: L) s.toks = true := ht
    obtain ⟨u, r0, e, u1, _, _, _⟩ := same_cons ht'
    obtain ⟨r, hs, hv⟩ := var_ok last hg (fresh := false) h0 h1 h2 (by simp) hn ht'
    refine ⟨r, nx k n, hs, h3, ?_⟩
    unfold argument
    rw [e]
    have hk : ¬ u.kind = 2 := by rw [u1]; show ¬ (1 : Int) = 2; omega
    simp only
    rw [if_neg hk, hv]
    rfl
  | false =>
    have ho' : order ns.length k rest = some f := ho
    have ht' : same (numT n :: L) s.toks = true := ht
    obtain ⟨u, r, e, u1, _, u3, hs⟩ := same_cons ht'
    have hb : 0 ≤ n ∧ n ≤ 1099511627776 := by rcases ha with h | h <;> simp_all
    have hk : u.kind = 2 := u1
    have hun : u.n = n := u3
    refine ⟨r, k, hs, ho', ?_⟩
    unfold argument
    rw [e]
    simp only
    rw [if_pos hk]
    unfold number
    rw [e]
    simp only
    rw [if_pos ⟨hk, by rw [hun]; exact hb.2⟩, hun, ← hn]
    rfl

theorem sign_ok {c : UInt8} {s : St} {L : List Tok} (ht : same (sgT c :: L) s.toks = true) : ∃ r, same L r = true ∧ signT last c s = .ok () { s with toks := r } ∧ skip 3 [c] s = (true, { s with toks := r }) := by
  obtain ⟨u, r, e, u1, u2, _, hs⟩ := same_cons ht
  have hk : skip 3 [c] s = (true, { s with toks := r }) := by
    unfold skip
    rw [e]
    simp only
    rw [if_pos ⟨u1, u2⟩]
  refine ⟨r, hs, ?_, hk⟩
  unfold signT need
  rw [hk]
theorem word_ok {t : List UInt8} {s : St} {L : List Tok} (ht : same (nameT t :: L) s.toks = true) : ∃ r, same L r = true ∧ word last t s = .ok () { s with toks := r } := by
  obtain ⟨u, r, e, u1, u2, _, hs⟩ := same_cons ht
  have hk : skip 1 t s = (true, { s with toks := r }) := by
    unfold skip
    rw [e]
    simp only
    rw [if_pos ⟨u1, u2⟩]
  refine ⟨r, hs, ?_⟩
  unfold word need
  rw [hk]
theorem number_ok {n most : Int} {s : St} {L : List Tok} (hm : n ≤ most) (ht : same (numT n :: L) s.toks = true) : ∃ r, same L r = true ∧ number last most s = .ok n { s with toks := r } := by
  obtain ⟨u, r, e, u1, _, u3, hs⟩ := same_cons ht
  have hun : u.n = n := u3
  refine ⟨r, hs, ?_⟩
  unfold number
  rw [e]
  simp only
  rw [if_pos ⟨u1, by rw [hun]; exact hm⟩, hun]
theorem skip_not {k : Int} {c : UInt8} {s : St} {x : Tok} {L : List Tok} (ht : same (x :: L) s.toks = true) (hx : ¬ (x.kind = k ∧ x.text = [c])) : skip k [c] s = (false, s) := by
  obtain ⟨u, r, e, u1, u2, _, hs⟩ := same_cons ht
  unfold skip
  rw [e]
  simp only
  rw [if_neg (by rw [u1, u2]; exact hx)]

def AtomOk (x : Atom) : Prop := 1 ≤ x.kind ∧ x.kind ≤ 12 ∧ 0 ≤ x.term ∧ x.term ≤ 1023 ∧ 0 ≤ x.known ∧ x.known ≤ 16777216 ∧ ArgOk x.subj ∧ ArgOk x.obj ∧ ArgOk x.val
def Atom.vars (x : Atom) : List Int := x.subj.vars ++ (x.obj.vars ++ x.val.vars)
theorem atom_ok (hg : Good ns) {x : Atom} {k f : Int} {s : St} {L : List Tok} {rest : List Int} (hx : AtomOk x) (ho : order ns.length k (x.vars ++ rest) = some f) (hn : s.names = ns.take k.toNat)
    (ht : same ((atomT ns x).tail ++ L) s.toks = true) : ∃ r k', same L r = true ∧ order ns.length k' rest = some f ∧ atom last x.kind s = .ok () { s with toks := r, names := ns.take k'.toNat, atoms := s.atoms ++ [x] } := by
  obtain ⟨_, _, _, ht2, _, hk2, ha, hb, hc⟩ := hx
  have ho1 : order ns.length k (x.subj.vars ++ (x.obj.vars ++ (x.val.vars ++ rest))) = some f := by rw [← ho]; simp [Atom.vars]
  obtain ⟨r1, t1, e1, _⟩ := sign_ok last (s := s) ht
  obtain ⟨r2, k2, t2, o2, e2⟩ := arg_ok last hg (s := { s with toks := r1 }) ha ho1 hn t1
  obtain ⟨r3, t3, e3, _⟩ := sign_ok last (s := { s with toks := r2, names := ns.take k2.toNat }) t2
  obtain ⟨r4, k4, t4, o4, e4⟩ := arg_ok last hg (s := { s with toks := r3, names := ns.take k2.toNat }) hb o2 rfl t3
  obtain ⟨r5, t5, e5, _⟩ := sign_ok last (s := { s with toks := r4, names := ns.take k4.toNat }) t4
  obtain ⟨r6, t6, e6, _⟩ := sign_ok last (s := { s with toks := r5, names := ns.take k4.toNat }) t5
  obtain ⟨r7, k7, t7, o7, e7⟩ := arg_ok last hg (s := { s with toks := r6, names := ns.take k4.toNat }) hc o4 rfl t6
  obtain ⟨r8, t8, e8⟩ := word_ok last (s := { s with toks := r7, names := ns.take k7.toNat }) t7
  obtain ⟨r9, t9, e9⟩ := number_ok last (s := { s with toks := r8, names := ns.take k7.toNat }) ht2 t8
  obtain ⟨r10, t10, e10⟩ := word_ok last (s := { s with toks := r9, names := ns.take k7.toNat }) t9
  obtain ⟨r11, t11, e11⟩ := number_ok last (s := { s with toks := r10, names := ns.take k7.toNat }) hk2 t10
  refine ⟨r11, k7, t11, o7, ?_⟩
  unfold atom
  simp only [e1, R.bind, e2, e3, e4, e5, e6, e7, e8, e9, e10, e11]

def TestOk (x : Test) : Prop := -2 ≤ x.op ∧ x.op ≤ 1 ∧ ArgOk x.a ∧ ArgOk x.b
def Test.vars (x : Test) : List Int := x.a.vars ++ x.b.vars
theorem argT_sign (a : Arg) (c : UInt8) : ¬ ((argT ns a).kind = 3 ∧ (argT ns a).text = [c]) := by
  unfold argT
  split
  · intro h; exact absurd h.1 (by show ¬ (1 : Int) = 3; decide)
  · intro h; exact absurd h.1 (by show ¬ (2 : Int) = 3; decide)
theorem oper_ok {o : Int} {a : Arg} {s : St} {L : List Tok} (h1 : -2 ≤ o) (h2 : o ≤ 1) (ht : same (operT o ++ (argT ns a :: L)) s.toks = true) : ∃ r, same (argT ns a :: L) r = true ∧ oper last s = .ok o { s with toks := r } := by
  have h4 : o = -2 ∨ o = -1 ∨ o = 0 ∨ o = 1 := by omega
  rcases h4 with rfl | rfl | rfl | rfl
  · have ht' : same (sgT 60 :: (argT ns a :: L)) s.toks = true := ht
    obtain ⟨r, hs, _, e⟩ := sign_ok last ht'
    refine ⟨r, hs, ?_⟩
    unfold oper
    rw [e]
    simp only
    rw [skip_not (s := { s with toks := r }) hs (argT_sign a 61)]
  · have ht' : same (sgT 60 :: (sgT 61 :: (argT ns a :: L))) s.toks = true := ht
    obtain ⟨r, hs, _, e⟩ := sign_ok last ht'
    obtain ⟨r2, hs2, _, e2⟩ := sign_ok last (s := { s with toks := r }) hs
    refine ⟨r2, hs2, ?_⟩
    unfold oper
    rw [e]
    simp only
    rw [e2]
  · have ht' : same (sgT 61 :: (argT ns a :: L)) s.toks = true := ht
    obtain ⟨r, hs, e, _⟩ := sign_ok last ht'
    refine ⟨r, hs, ?_⟩
    unfold oper
    rw [skip_not ht' (by rintro ⟨_, h⟩; cases h)]
    simp only
    rw [skip_not ht' (by rintro ⟨_, h⟩; cases h)]
    simp only [e, R.bind]
  · have ht' : same (sgT 33 :: (sgT 61 :: (argT ns a :: L))) s.toks = true := ht
    obtain ⟨r, hs, _, e⟩ := sign_ok last ht'
    obtain ⟨r2, hs2, e2, _⟩ := sign_ok last (s := { s with toks := r }) hs
    refine ⟨r2, hs2, ?_⟩
    unfold oper
    rw [skip_not ht' (by rintro ⟨_, h⟩; cases h)]
    simp only
    rw [e]
    simp only [e2, R.bind]
theorem test_ok (hg : Good ns) {x : Test} {k f : Int} {s : St} {L : List Tok} {rest : List Int} (hx : TestOk x) (ho : order ns.length k (x.vars ++ rest) = some f) (hn : s.names = ns.take k.toNat)
    (ht : same (testT ns x ++ L) s.toks = true) : ∃ r k', same L r = true ∧ order ns.length k' rest = some f ∧ test last s = .ok () { s with toks := r, names := ns.take k'.toNat, tests := s.tests ++ [x] } := by
  obtain ⟨h1, h2, ha, hb⟩ := hx
  have ho1 : order ns.length k (x.a.vars ++ (x.b.vars ++ rest)) = some f := by rw [← ho]; simp [Test.vars]
  have ht1 : same (argT ns x.a :: (operT x.op ++ (argT ns x.b :: L))) s.toks = true := by rw [← ht]; simp [testT]
  obtain ⟨r1, k1, t1, o1, e1⟩ := arg_ok last hg ha ho1 hn ht1
  obtain ⟨r2, t2, e2⟩ := oper_ok last (s := { s with toks := r1, names := ns.take k1.toNat }) h1 h2 t1
  obtain ⟨r3, k3, t3, o3, e3⟩ := arg_ok last hg (s := { s with toks := r2, names := ns.take k1.toNat }) hb o1 rfl t2
  refine ⟨r3, k3, t3, o3, ?_⟩
  unfold test
  simp only [e1, R.bind, e2, e3]
end
end Go.Proofs.YtjonaidancomgaaDoor.Qy

namespace Go.Proofs.YtjonaidancomgaaDoor.Qy
open Lx

theorem sepT_cons (x : List Tok) : ∀ xs : List (List Tok), sepT (x :: xs) = x ++ xs.flatMap (fun y => sgT 44 :: y)
  | [] => by simp [sepT]
  | y :: ys => by
    rw [sepT, sepT_cons y ys]
    rfl
theorem same_len2 {a b : List Tok} (h : same a b = true) : b.length = a.length := by
  induction a generalizing b with
  | nil => rw [same_nil h]
  | cons x r ih =>
    obtain ⟨u, m', rfl, _, _, _, h2⟩ := same_cons h
    simp [ih h2]

section
variable (last : Int) {ns : List (List UInt8)}

def nmT (ns : List (List UInt8)) (n : Int) : Tok := nameT (ns.getD n.toNat [])
theorem shows_ok (hg : Good ns) : ∀ (l : List Int) (k f : Int) (fuel : Nat) (s : St) (x : Tok) (L : List Tok) (rest : List Int), l.length ≤ fuel → 0 ≤ k → (∀ n ∈ l, ¬ n < k) → l.Nodup → ¬ (x.kind = 3 ∧ x.text = [44]) →
    order ns.length k (l ++ rest) = some f → s.names = ns.take k.toNat → same (l.flatMap (fun n => sgT 44 :: [nmT ns n]) ++ x :: L) s.toks = true →
    ∃ r k', same (x :: L) r = true ∧ 0 ≤ k' ∧ order ns.length k' rest = some f ∧ shows last fuel s = .ok () { s with toks := r, names := ns.take k'.toNat, shown := s.shown ++ l }
  | [], k, f, fuel, s, x, L, rest, hf, h0, hk, hd, hx, ho, hn, ht => by
    have ht' : same (x :: L) s.toks = true := ht
    refine ⟨s.toks, k, ht', h0, ho, ?_⟩
    rw [← hn, List.append_nil]
    cases fuel with
    | zero => rfl
    | succ fuel =>
      unfold shows
      rw [skip_not ht' hx]
  | n :: l, k, f, 0, s, x, L, rest, hf, h0, hk, hd, hx, ho, hn, ht => by simp at hf
  | n :: l, k, f, fuel + 1, s, x, L, rest, hf, h0, hk, hd, hx, ho, hn, ht => by
    have ht' : same (sgT 44 :: (nmT ns n :: (l.flatMap (fun n => sgT 44 :: [nmT ns n]) ++ x :: L))) s.toks = true := by rw [← ht]; simp
    obtain ⟨r1, t1, _, e1⟩ := sign_ok last ht'
    obtain ⟨g0, g1, g2, g3⟩ := order_cons (show order ns.length k (n :: (l ++ rest)) = some f from ho)
    have hnk : n = k := by
      have := hk n (by simp)
      omega
    obtain ⟨r2, t2, e2⟩ := var_ok last hg (fresh := true) (s := { s with toks := r1 }) g0 g1 g2 (fun _ => hnk) hn t1
    have hnx : nx k n = k + 1 := by unfold nx; rw [if_pos hnk]
    rw [hnx] at g3 e2
    rw [List.nodup_cons] at hd
    obtain ⟨r, k', t3, h3, o3, e3⟩ := shows_ok hg l (k + 1) f fuel { s with toks := r2, names := ns.take (k + 1).toNat, shown := s.shown ++ [n] } x L rest (by simpa using hf) (by omega) (fun m hm => by
      have h1 := hk m (List.mem_cons_of_mem _ hm)
      have h2 : m ≠ n := fun e => hd.1 (e ▸ hm)
      omega) hd.2 hx g3 rfl t2
    refine ⟨r, k', t3, h3, o3, ?_⟩
    unfold shows
    rw [e1]
    simp only
    unfold showOne
    rw [e2]
    simp only [R.bind]
    rw [e3]
    simp

/-- Conditions, in any order. -/
inductive Item where
  | at_ (x : Atom)
  | te (x : Test)
def Item.toks (ns : List (List UInt8)) : Item → List Tok
  | .at_ x => atomT ns x
  | .te x => testT ns x
def Item.vars : Item → List Int
  | .at_ x => x.vars
  | .te x => x.vars
def Item.Ok : Item → Prop
  | .at_ x => AtomOk x
  | .te x => TestOk x
def Item.as : Item → List Atom
  | .at_ x => [x]
  | .te _ => []
def Item.ts : Item → List Test
  | .at_ _ => []
  | .te x => [x]
theorem kindOf_word (k : Int) (h1 : 1 ≤ k) (h2 : k ≤ 12) : kindOf (kindWords.getD (k - 1).toNat []) = k.toNat := by
  have h : k = 1 ∨ k = 2 ∨ k = 3 ∨ k = 4 ∨ k = 5 ∨ k = 6 ∨ k = 7 ∨ k = 8 ∨ k = 9 ∨ k = 10 ∨ k = 11 ∨ k = 12 := by omega
  rcases h with rfl | rfl | rfl | rfl | rfl | rfl | rfl | rfl | rfl | rfl | rfl | rfl <;> decide +kernel

theorem cond_ok (hg : Good ns) {i : Item} {k f : Int} {s : St} {L : List Tok} {rest : List Int} (hi : i.Ok) (ho : order ns.length k (i.vars ++ rest) = some f) (hn : s.names = ns.take k.toNat)
    (ht : same (i.toks ns ++ L) s.toks = true) : ∃ r k', same L r = true ∧ order ns.length k' rest = some f ∧ cond last s = .ok () { s with toks := r, names := ns.take k'.toNat, atoms := s.atoms ++ i.as, tests := s.tests ++ i.ts } := by
  cases i with
  | at_ x =>
    have hx : AtomOk x := hi
    have ht' : same (kindT x.kind :: ((atomT ns x).tail ++ L)) s.toks = true := ht
    obtain ⟨u, r0, e, u1, u2, _, hs⟩ := same_cons ht'
    have hk : kindOf u.text = x.kind.toNat := by rw [u2]; exact kindOf_word x.kind hx.1 hx.2.1
    have hne : x.kind.toNat ≠ 0 := by have := hx.1; omega
    have hkd : kind s = (x.kind.toNat, { s with toks := r0 }) := by
      unfold kind
      rw [e]
      simp only
      rw [if_pos ⟨u1, by rw [hk]; exact hne⟩, hk]
    obtain ⟨r, k', t1, o1, e1⟩ := atom_ok last hg (s := { s with toks := r0 }) hx ho hn hs
    refine ⟨r, k', t1, o1, ?_⟩
    unfold cond
    rw [hkd]
    have hcast : ((x.kind.toNat : Nat) : Int) = x.kind := by have := hx.1; omega
    split
    · rename_i h; injection h with h _; exact absurd h hne
    · rename_i k2 s2 h
      injection h with h3 h4
      subst h3; subst h4
      rw [hcast, e1]
      simp [Item.as, Item.ts]
  | te x =>
    have hx : TestOk x := hi
    have ht' : same (argT ns x.a :: (operT x.op ++ [argT ns x.b] ++ L)) s.toks = true := by rw [← ht]; simp [Item.toks, testT]
    obtain ⟨u, r0, e, u1, u2, _, hs⟩ := same_cons ht'
    have hkd : kind s = (0, s) := by
      unfold kind
      rw [e]
      simp only
      rw [if_neg]
      rintro ⟨h1, h2⟩
      rw [u1] at h1
      rw [u2] at h2
      unfold argT at h1 h2
      by_cases hv : x.a.var = true
      · rw [if_pos hv] at h2
        have ho' : order ns.length k (x.a.n :: (x.b.vars ++ rest)) = some f := by
          rw [← ho]
          simp [Item.vars, Test.vars, Arg.vars, hv]
        obtain ⟨g0, g1, g2, _⟩ := order_cons ho'
        have hlt : x.a.n.toNat < ns.length := by omega
        apply h2
        show kindOf (ns.getD x.a.n.toNat []) = 0
        rw [show ns.getD x.a.n.toNat [] = ns[x.a.n.toNat] by simp [List.getD, List.getElem?_eq_getElem hlt]]
        exact hg.kinds _ (List.getElem_mem _)
      · rw [if_neg hv] at h1
        exact absurd (show (2 : Int) = 1 from h1) (by omega)
    obtain ⟨r, k', t1, o1, e1⟩ := test_ok last hg (s := s) hx ho hn ht
    refine ⟨r, k', t1, o1, ?_⟩
    unfold cond
    rw [hkd]
    split
    · rename_i s2 h
      injection h with _ h4
      subst h4
      rw [e1]
      simp [Item.as, Item.ts]
    · rename_i k2 s2 hne h
      injection h with h3 _
      exact absurd h3.symm (by intro h; subst h; exact hne rfl)

theorem order_nonneg {top : Int} : ∀ (l : List Int) (k f : Int), 0 ≤ k → order top k l = some f → 0 ≤ f
  | [], k, f, h0, h => by rw [order] at h; injection h with h; omega
  | n :: l, k, f, h0, h => by
    obtain ⟨_, _, _, h3⟩ := order_cons h
    exact order_nonneg l _ f (by unfold nx; split <;> omega) h3
end
end Go.Proofs.YtjonaidancomgaaDoor.Qy

namespace Go.Proofs.YtjonaidancomgaaDoor.Qy
open Lx

section
variable (last : Int) {ns : List (List UInt8)}

theorem conds_ok (hg : Good ns) : ∀ (is : List Item) (i : Item) (k f : Int) (fuel : Nat) (s : St) (x : Tok) (L : List Tok) (rest : List Int), is.length + 1 ≤ fuel → (∀ j ∈ i :: is, Item.Ok j) → s.atoms.length + s.tests.length + 1 + is.length ≤ 16 →
    ¬ (x.kind = 3 ∧ x.text = [44]) → order ns.length k (i.vars ++ (is.flatMap Item.vars ++ rest)) = some f → s.names = ns.take k.toNat →
    same (i.toks ns ++ (is.flatMap (fun j => sgT 44 :: j.toks ns) ++ x :: L)) s.toks = true →
    ∃ r k', same (x :: L) r = true ∧ order ns.length k' rest = some f ∧ conds last fuel s = .ok () { s with toks := r, names := ns.take k'.toNat, atoms := s.atoms ++ (i :: is).flatMap Item.as, tests := s.tests ++ (i :: is).flatMap Item.ts }
  | _, i, k, f, 0, s, x, L, rest, hf, hi, hc, hx, ho, hn, ht => by omega
  | [], i, k, f, fuel + 1, s, x, L, rest, hf, hi, hc, hx, ho, hn, ht => by
    obtain ⟨r, k', t1, o1, e1⟩ := cond_ok last hg (hi i (by simp)) ho hn ht
    have t2 : same (x :: L) r = true := t1
    refine ⟨r, k', t2, o1, ?_⟩
    unfold conds
    rw [e1]
    simp only [R.bind]
    rw [skip_not (s := { s with toks := r, names := ns.take k'.toNat, atoms := s.atoms ++ i.as, tests := s.tests ++ i.ts }) t2 hx]
    simp
  | j :: is, i, k, f, fuel + 1, s, x, L, rest, hf, hi, hc, hx, ho, hn, ht => by
    obtain ⟨r, k', t1, o1, e1⟩ := cond_ok last hg (hi i (by simp)) ho hn ht
    have t2 : same (sgT 44 :: (j.toks ns ++ (is.flatMap (fun j => sgT 44 :: j.toks ns) ++ x :: L))) r = true := by rw [← t1]; simp
    obtain ⟨r2, t3, _, e2⟩ := sign_ok last (s := { s with toks := r, names := ns.take k'.toNat, atoms := s.atoms ++ i.as, tests := s.tests ++ i.ts }) t2
    have o2 : order ns.length k' (j.vars ++ (is.flatMap Item.vars ++ rest)) = some f := by rw [← o1]; simp
    have hone : i.as.length + i.ts.length = 1 := by cases i <;> rfl
    have hc2 : (s.atoms ++ i.as).length + (s.tests ++ i.ts).length + 1 + is.length ≤ 16 := by
      rw [List.length_append, List.length_append]
      simp only [List.length_cons] at hc
      omega
    obtain ⟨r3, k3, t4, o3, e3⟩ := conds_ok hg is j k' f fuel { s with toks := r2, names := ns.take k'.toNat, atoms := s.atoms ++ i.as, tests := s.tests ++ i.ts } x L rest (by simpa using hf) (fun a ha => hi a (List.mem_cons_of_mem _ ha)) hc2 hx o2 rfl t3
    refine ⟨r3, k3, t4, o3, ?_⟩
    unfold conds
    rw [e1]
    simp only [R.bind]
    rw [e2]
    simp only
    rw [if_neg (by omega), e3]
    simp

theorem sum_ge {α : Type} (g : α → Nat) (h : ∀ a, 1 ≤ g a) : ∀ l : List α, l.length ≤ (l.map g).sum
  | [] => by simp
  | a :: l => by
    have h1 := h a
    have h2 := sum_ge g h l
    simp only [List.map_cons, List.sum_cons, List.length_cons]
    omega
/-- The tokens of a query whose conditions stand in any order. -/
def toksI (ns : List (List UInt8)) (shown : List Int) (items : List Item) : List Tok :=
  nameT wShow :: (sepT (shown.map fun n => [nmT ns n]) ++ nameT wWhere :: (sepT (items.map (Item.toks ns)) ++ [sgT 59]))

theorem parseT_ok (hg : Good ns) {n0 : Int} {sl : List Int} {i : Item} {is : List Item} {f : Int} {m : List Tok} (hd : (n0 :: sl).Nodup) (hi : ∀ j ∈ i :: is, Item.Ok j) (hc : (i :: is).length ≤ 16)
    (ho : order ns.length 0 ((n0 :: sl) ++ (i :: is).flatMap Item.vars) = some f) (ht : same (toksI ns (n0 :: sl) (i :: is)) m = true) :
    parseT last ⟨m, [], [], [], []⟩ = .ok () ⟨[], ns.take f.toNat, n0 :: sl, (i :: is).flatMap Item.as, (i :: is).flatMap Item.ts⟩ := by
  have ht0 : same (nameT wShow :: (nmT ns n0 :: (sl.flatMap (fun n => sgT 44 :: [nmT ns n]) ++ nameT wWhere :: (i.toks ns ++ (is.flatMap (fun j => sgT 44 :: j.toks ns) ++ sgT 59 :: []))))) m = true := by
    rw [← ht]
    unfold toksI
    rw [List.map_cons, sepT_cons, List.map_cons, sepT_cons, List.flatMap_map, List.flatMap_map]
    simp
  obtain ⟨r1, t1, e1⟩ := word_ok last (s := ⟨m, [], [], [], []⟩) ht0
  obtain ⟨g0, g1, g2, g3⟩ := order_cons (show order ns.length 0 (n0 :: (sl ++ (i :: is).flatMap Item.vars)) = some f from ho)
  have hn0 : n0 = 0 := by omega
  obtain ⟨r2, t2, e2⟩ := var_ok last hg (fresh := true) (k := 0) (s := ⟨r1, [], [], [], []⟩) g0 g1 g2 (fun _ => hn0) (by simp) t1
  have hnx : nx 0 n0 = 1 := by unfold nx; rw [if_pos hn0]; rfl
  rw [hnx] at g3 e2
  rw [List.nodup_cons] at hd
  have hlen := same_len2 t2
  obtain ⟨r3, k3, t3, _, o3, e3⟩ := shows_ok last hg sl 1 f r2.length ⟨r2, ns.take (1 : Int).toNat, [n0], [], []⟩ (nameT wWhere) _ ((i :: is).flatMap Item.vars) (by
      rw [hlen, List.length_append, List.length_flatMap]
      have := sum_ge (fun n => (sgT 44 :: [nmT ns n]).length) (fun n => by simp) sl
      omega) (by omega) (fun n hn => by
      have h2 : n ≠ n0 := fun e => hd.1 (e ▸ hn)
      have h3 : ∀ (l : List Int) (k : Int), 0 ≤ k → order ns.length k (l ++ (i :: is).flatMap Item.vars) = some f → ∀ n ∈ l, 0 ≤ n := by
        intro l
        induction l with
        | nil => intro k _ _ n hn; simp at hn
        | cons a l ih =>
          intro k hk h n hn
          obtain ⟨q0, _, _, q3⟩ := order_cons h
          rcases List.mem_cons.1 hn with rfl | hn
          · exact q0
          · exact ih _ (by unfold nx; split <;> omega) q3 n hn
      have := h3 sl 1 (by omega) g3 n hn
      omega) hd.2 (by rintro ⟨h, _⟩; exact absurd (show (1 : Int) = 3 from h) (by omega)) g3 rfl t2
  obtain ⟨r4, t4, e4⟩ := word_ok last (s := ⟨r3, ns.take k3.toNat, [n0] ++ sl, [], []⟩) t3
  have hlen4 := same_len2 t4
  obtain ⟨r5, k5, t5, o5, e5⟩ := conds_ok last hg is i k3 f (r4.length + 1) ⟨r4, ns.take k3.toNat, [n0] ++ sl, [], []⟩ (sgT 59) [] [] (by
      rw [hlen4]
      simp only [List.length_append, List.length_flatMap, List.length_cons, List.length_nil]
      have := sum_ge (fun j => (Item.toks ns j).length + 1) (fun n => by omega) is
      omega) hi (by simp only [List.length_cons, List.length_nil] at hc ⊢; omega) (by rintro ⟨_, h⟩; cases h) (by rw [List.append_nil, ← o3]; simp) rfl t4
  obtain ⟨r6, t6, e6, _⟩ := sign_ok last (s := ⟨r5, ns.take k5.toNat, [n0] ++ sl, [] ++ (i :: is).flatMap Item.as, [] ++ (i :: is).flatMap Item.ts⟩) t5
  have hr6 := same_nil t6
  subst hr6
  rw [order] at o5
  injection o5 with o5
  subst o5
  unfold parseT
  rw [e1]
  simp only [R.bind]
  unfold showOne
  rw [e2]
  simp only [R.bind, List.nil_append]
  rw [e3]
  simp only
  rw [e4]
  simp only
  rw [e5]
  simp only
  rw [e6]
  simp
end

/-- The first k numbers. -/
def rng (k : Int) : List Int := (List.range k.toNat).map fun (i : Nat) => (i : Int)
theorem rng_idx (k n : Int) (h0 : 0 ≤ n) : (rng k).findIdx? (· == n) = if n < k then some n.toNat else none := by
  unfold rng
  split
  · rename_i h
    rw [List.findIdx?_eq_some_iff_getElem]
    refine ⟨by simp; omega, by simp; omega, fun j hj => ?_⟩
    simp
    omega
  · rename_i h
    rw [List.findIdx?_eq_none_iff]
    intro x hx
    obtain ⟨i, hi, rfl⟩ := List.mem_map.1 hx
    rw [List.mem_range] at hi
    simp only [beq_eq_false_iff_ne]
    omega
theorem ix_rng {k n : Int} (hk : 0 ≤ k) (h0 : 0 ≤ n) (h1 : n ≤ k) : ix (rng k) n = (n, rng (nx k n)) := by
  unfold ix
  rw [rng_idx k n h0]
  by_cases h : n < k
  · rw [if_pos h]
    unfold nx
    rw [if_neg (by omega)]
    simp only
    rw [show ((n.toNat : Nat) : Int) = n by omega]
  · rw [if_neg h]
    have e : n = k := by omega
    unfold nx
    rw [if_pos e]
    simp only
    have hl : (rng k).length = k.toNat := by simp [rng]
    rw [hl]
    have e2 : rng (k + 1) = rng k ++ [n] := by
      unfold rng
      rw [show (k + 1).toNat = k.toNat + 1 by omega, List.range_succ, List.map_append]
      simp
      omega
    rw [e2, show ((k.toNat : Nat) : Int) = n by omega]
theorem nx_nonneg {k n : Int} (hk : 0 ≤ k) : 0 ≤ nx k n := by unfold nx; split <;> omega
theorem ixList_rng {top : Int} : ∀ (l : List Int) (k f : Int) (rest : List Int), 0 ≤ k → order top k (l ++ rest) = some f → ∃ k', ixList (rng k) l = (l, rng k') ∧ 0 ≤ k' ∧ order top k' rest = some f
  | [], k, f, rest, hk, h => ⟨k, rfl, hk, h⟩
  | n :: l, k, f, rest, hk, h => by
    obtain ⟨g0, g1, _, g3⟩ := order_cons h
    obtain ⟨k', e, hk', o⟩ := ixList_rng l _ f rest (nx_nonneg hk) g3
    refine ⟨k', ?_, hk', o⟩
    unfold ixList
    rw [ix_rng hk g0 g1]
    simp only
    rw [e]
theorem ixArg_rng {top : Int} {a : Arg} {k f : Int} {rest : List Int} (hk : 0 ≤ k) (h : order top k (a.vars ++ rest) = some f) : ∃ k', ixArg (rng k) a = (a, rng k') ∧ 0 ≤ k' ∧ order top k' rest = some f := by
  obtain ⟨v, n⟩ := a
  cases v with
  | true =>
    obtain ⟨g0, g1, _, g3⟩ := order_cons (show order top k (n :: rest) = some f from h)
    refine ⟨nx k n, ?_, nx_nonneg hk, g3⟩
    unfold ixArg
    rw [if_pos rfl]
    simp only
    rw [ix_rng hk g0 g1]
  | false => exact ⟨k, rfl, hk, h⟩
theorem ixAtoms_rng {top : Int} : ∀ (l : List Atom) (k f : Int) (rest : List Int), 0 ≤ k → order top k (l.flatMap Atom.vars ++ rest) = some f → ∃ k', ixAtoms (rng k) l = (l, rng k') ∧ 0 ≤ k' ∧ order top k' rest = some f
  | [], k, f, rest, hk, h => ⟨k, rfl, hk, h⟩
  | x :: l, k, f, rest, hk, h => by
    have h1 : order top k (x.subj.vars ++ (x.obj.vars ++ (x.val.vars ++ (l.flatMap Atom.vars ++ rest)))) = some f := by rw [← h]; simp [Atom.vars]
    obtain ⟨k1, e1, q1, o1⟩ := ixArg_rng hk h1
    obtain ⟨k2, e2, q2, o2⟩ := ixArg_rng q1 o1
    obtain ⟨k3, e3, q3, o3⟩ := ixArg_rng q2 o2
    obtain ⟨k4, e4, q4, o4⟩ := ixAtoms_rng l k3 f rest q3 o3
    refine ⟨k4, ?_, q4, o4⟩
    unfold ixAtoms
    rw [e1]
    simp only
    rw [e2]
    simp only
    rw [e3]
    simp only
    rw [e4]
theorem ixTests_rng {top : Int} : ∀ (l : List Test) (k f : Int) (rest : List Int), 0 ≤ k → order top k (l.flatMap Test.vars ++ rest) = some f → ∃ k', ixTests (rng k) l = (l, rng k') ∧ 0 ≤ k' ∧ order top k' rest = some f
  | [], k, f, rest, hk, h => ⟨k, rfl, hk, h⟩
  | x :: l, k, f, rest, hk, h => by
    have h1 : order top k (x.a.vars ++ (x.b.vars ++ (l.flatMap Test.vars ++ rest))) = some f := by rw [← h]; simp [Test.vars]
    obtain ⟨k1, e1, q1, o1⟩ := ixArg_rng hk h1
    obtain ⟨k2, e2, q2, o2⟩ := ixArg_rng q1 o1
    obtain ⟨k4, e4, q4, o4⟩ := ixTests_rng l k2 f rest q2 o2
    refine ⟨k4, ?_, q4, o4⟩
    unfold ixTests
    rw [e1]
    simp only
    rw [e2]
    simp only
    rw [e4]
end Go.Proofs.YtjonaidancomgaaDoor.Qy

namespace Go.Proofs.YtjonaidancomgaaDoor.Qy
open Lx

structure Ok (q : Query) : Prop where
  names8 : q.names.length ≤ 8
  show1 : 1 ≤ q.shown.length
  show8 : q.shown.length ≤ 8
  conds1 : 1 ≤ q.atoms.length + q.tests.length
  conds16 : q.atoms.length + q.tests.length ≤ 16
  names : ∀ n ∈ q.names, isName n = true ∧ kindOf n = 0
  nodup : q.names.Nodup
  shown : q.shown.Nodup
  atoms : ∀ x ∈ q.atoms, 1 ≤ x.kind ∧ x.kind ≤ 12 ∧ 0 ≤ x.term ∧ x.term ≤ 1023 ∧ 0 ≤ x.known ∧ x.known ≤ 16777216
  tests : ∀ x ∈ q.tests, -2 ≤ x.op ∧ x.op ≤ 1
  args : ∀ a ∈ q.args, a.var = true ∨ (0 ≤ a.n ∧ a.n ≤ 1099511627776)
  vars : order q.names.length 0 q.vars = some (q.names.length : Int)
theorem valid_ok {q : Query} (h : valid q = true) : Ok q := by
  unfold valid at h
  simp only [Bool.and_eq_true, decide_eq_true_eq, List.all_eq_true, Bool.or_eq_true, beq_iff_eq] at h
  obtain ⟨⟨⟨⟨⟨⟨⟨⟨⟨⟨⟨h1, h2⟩, h3⟩, h4⟩, h5⟩, h6⟩, h7⟩, h8⟩, h9⟩, h10⟩, h11⟩, h12⟩ := h
  exact ⟨h1, h2, h3, h4, h5, h6, h7, h8, fun x hx => by obtain ⟨⟨⟨⟨⟨a, b⟩, c⟩, d⟩, e⟩, f⟩ := h9 x hx; exact ⟨a, b, c, d, e, f⟩, h10, h11, h12⟩
theorem ok_valid {q : Query} (h : Ok q) : valid q = true := by
  obtain ⟨h1, h2, h3, h4, h5, h6, h7, h8, h9, h10, h11, h12⟩ := h
  unfold valid
  simp only [Bool.and_eq_true, decide_eq_true_eq, List.all_eq_true, Bool.or_eq_true, beq_iff_eq]
  exact ⟨⟨⟨⟨⟨⟨⟨⟨⟨⟨⟨h1, h2⟩, h3⟩, h4⟩, h5⟩, h6⟩, h7⟩, h8⟩, fun x hx => by obtain ⟨a, b, c, d, e, f⟩ := h9 x hx; exact ⟨⟨⟨⟨⟨a, b⟩, c⟩, d⟩, e⟩, f⟩⟩, h10⟩, h11⟩, h12⟩

def items (q : Query) : List Item := q.atoms.map Item.at_ ++ q.tests.map Item.te
theorem items_as (q : Query) : (items q).flatMap Item.as = q.atoms := by
  unfold items
  rw [List.flatMap_append, List.flatMap_map, List.flatMap_map]
  have h1 : ∀ l : List Atom, l.flatMap (fun a => (Item.at_ a).as) = l := fun l => by induction l <;> simp_all [Item.as]
  have h2 : ∀ l : List Test, l.flatMap (fun a => (Item.te a).as) = [] := fun l => by induction l <;> simp_all [Item.as]
  rw [h1, h2, List.append_nil]
theorem items_ts (q : Query) : (items q).flatMap Item.ts = q.tests := by
  unfold items
  rw [List.flatMap_append, List.flatMap_map, List.flatMap_map]
  have h1 : ∀ l : List Atom, l.flatMap (fun a => (Item.at_ a).ts) = [] := fun l => by induction l <;> simp_all [Item.ts]
  have h2 : ∀ l : List Test, l.flatMap (fun a => (Item.te a).ts) = l := fun l => by induction l <;> simp_all [Item.ts]
  rw [h1, h2, List.nil_append]
theorem items_vars (q : Query) : (items q).flatMap Item.vars = q.atoms.flatMap Atom.vars ++ q.tests.flatMap Test.vars := by
  unfold items
  rw [List.flatMap_append, List.flatMap_map, List.flatMap_map]
  rfl
theorem args_vars (q : Query) : q.args.flatMap Arg.vars = q.atoms.flatMap Atom.vars ++ q.tests.flatMap Test.vars := by
  unfold Query.args
  rw [List.flatMap_append, List.flatMap_assoc, List.flatMap_assoc]
  congr 1
  · exact congrArg (fun g => List.flatMap g q.atoms) (funext fun x => by simp [Atom.vars])
  · exact congrArg (fun g => List.flatMap g q.tests) (funext fun x => by simp [Test.vars])
theorem items_toks (q : Query) : (items q).map (Item.toks q.names) = q.atoms.map (atomT q.names) ++ q.tests.map (testT q.names) := by
  unfold items
  rw [List.map_append, List.map_map, List.map_map]
  rfl
theorem toksT_eq (q : Query) : toksT q = toksI q.names q.shown (items q) := by
  unfold toksT toksI
  rw [items_toks]
  simp [nmT]

theorem rng_names (ns : List (List UInt8)) : (rng ns.length).map (fun i => ns.getD i.toNat []) = ns := by
  unfold rng
  rw [List.map_map]
  apply List.ext_getElem
  · simp
  · intro i h1 h2
    simp only [List.getElem_map, List.getElem_range, Function.comp]
    simp [List.getD, List.getElem?_eq_getElem h2]

theorem items_ok {q : Query} (h : Ok q) : ∀ i ∈ items q, Item.Ok i := by
  intro i hi
  unfold items at hi
  rcases List.mem_append.1 hi with hi | hi
  · obtain ⟨x, hx, rfl⟩ := List.mem_map.1 hi
    obtain ⟨a1, a2, a3, a4, a5, a6⟩ := h.atoms x hx
    have harg : ∀ a ∈ [x.subj, x.obj, x.val], ArgOk a := fun a ha => h.args a (List.mem_append_left _ (List.mem_flatMap.2 ⟨x, hx, ha⟩))
    exact ⟨a1, a2, a3, a4, a5, a6, harg _ (by simp), harg _ (by simp), harg _ (by simp)⟩
  · obtain ⟨x, hx, rfl⟩ := List.mem_map.1 hi
    obtain ⟨a1, a2⟩ := h.tests x hx
    have harg : ∀ a ∈ [x.a, x.b], ArgOk a := fun a ha => h.args a (List.mem_append_right _ (List.mem_flatMap.2 ⟨x, hx, ha⟩))
    exact ⟨a1, a2, harg _ (by simp), harg _ (by simp)⟩

theorem parse_valid {q : Query} (h : valid q = true) {m : List Tok} (hm : same (toksT q) m = true) (last : Int) : parseToks m last = .ok q := by
  have H := valid_ok h
  have hg : Good q.names := ⟨H.names8, fun n hn => (H.names n hn).2, H.nodup⟩
  have hio := items_ok H
  have hlen : (items q).length = q.atoms.length + q.tests.length := by simp [items]
  have hvars := H.vars
  unfold Query.vars at hvars
  rw [args_vars, ← items_vars] at hvars
  rw [toksT_eq] at hm
  have has := items_as q
  have hts := items_ts q
  have hiv := items_vars q
  have hsh := H.show1
  have hnd := H.shown
  have hc1 := H.conds1
  have hc2 := H.conds16
  cases hs : q.shown with
  | nil => rw [hs] at hsh; simp at hsh
  | cons n0 sl =>
    cases hi : items q with
    | nil => rw [hi] at hlen; simp at hlen; omega
    | cons i is =>
      rw [hs, hi] at hm hvars
      rw [hs] at hnd
      rw [hi] at hio hlen has hts hiv
      have hp := parseT_ok last hg hnd hio (by omega) hvars hm
      unfold parseToks
      rw [hp, has, hts]
      simp only
      have hn : q.names.take ((q.names.length : Nat) : Int).toNat = q.names := by simp
      rw [hn]
      congr 1
      have h0 : (rng 0 : List Int) = [] := rfl
      rw [hiv] at hvars
      obtain ⟨k1, e1, q1, o1⟩ := ixList_rng (n0 :: sl) 0 _ _ (Int.le_refl 0) hvars
      obtain ⟨k2, e2, q2, o2⟩ := ixAtoms_rng q.atoms k1 _ (q.tests.flatMap Test.vars) q1 o1
      obtain ⟨k3, e3, q3, o3⟩ := ixTests_rng q.tests k2 _ [] q2 (by rw [List.append_nil]; exact o2)
      rw [order] at o3
      injection o3 with o3
      unfold renumber
      rw [h0] at e1
      rw [e1]
      simp only
      rw [e2]
      simp only
      rw [e3, o3]
      simp only
      rw [rng_names, ← hs]
end Go.Proofs.YtjonaidancomgaaDoor.Qy
