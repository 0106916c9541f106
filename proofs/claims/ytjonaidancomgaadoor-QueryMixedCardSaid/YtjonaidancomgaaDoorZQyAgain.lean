/- Parts of the proof, joined into one text: QyAgain, QyAgainB, QyAgainC, QyAgainD, QyLen. -/
import Derived.Test.YtjonaidancomgaaDoorZQyBack

namespace Go.Proofs.YtjonaidancomgaaDoor.Qy
open Lx

theorem bind_ok {α β : Type} {r : R α} {g : α → St → R β} {b : β} {s : St} (h : r.bind g = .ok b s) : ∃ a s1, r = .ok a s1 ∧ g a s1 = .ok b s := by
  cases r with
  | ok a s1 => exact ⟨a, s1, rfl, h⟩
  | bad p e => cases h

structure Nm (s : St) : Prop where
  few : s.names.length ≤ 8
  names : ∀ n ∈ s.names, isName n = true ∧ kindOf n = 0
  nodup : s.names.Nodup
  toks : ∀ t ∈ s.toks, Lx.valid t = true
structure Grow (s s' : St) : Prop where
  nm : Nm s'
  len : s.names.length ≤ s'.names.length
  shown : s'.shown = s.shown
  atoms : s'.atoms = s.atoms
  tests : s'.tests = s.tests
theorem Grow.trans {a b c : St} (h : Grow a b) (h' : Grow b c) : Grow a c := ⟨h'.nm, Nat.le_trans h.len h'.len, h'.shown.trans h.shown, h'.atoms.trans h.atoms, h'.tests.trans h.tests⟩
theorem grow_refl {s : St} (h : Nm s) : Grow s s := ⟨h, Nat.le_refl _, rfl, rfl, rfl⟩
theorem grow_toks {s : St} (h : Nm s) {t : Tok} {r : List Tok} (e : s.toks = t :: r) : Grow s { s with toks := r } :=
  ⟨⟨h.few, h.names, h.nodup, fun u hu => h.toks u (by rw [e]; exact List.mem_cons_of_mem _ hu)⟩, Nat.le_refl _, rfl, rfl, rfl⟩
theorem skip_grow {k : Int} {t : List UInt8} {s : St} (h : Nm s) : Grow s (skip k t s).2 := by
  unfold skip
  split
  · rename_i u r e
    split
    · exact grow_toks h e
    · exact grow_refl h
  · exact grow_refl h

section
variable (last : Int)
theorem need_grow {k : Int} {t : List UInt8} {s s' : St} (h : Nm s) (hr : need last k t s = .ok () s') : Grow s s' := by
  unfold need at hr
  have hg := skip_grow (k := k) (t := t) h
  split at hr
  · rename_i s1 e
    rw [e] at hg
    injection hr with _ e2
    subst e2
    exact hg
  · unfold fail at hr; cases hr
theorem number_grow {most n : Int} {s s' : St} (h : Nm s) (hr : number last most s = .ok n s') : Grow s s' ∧ 0 ≤ n ∧ n ≤ most := by
  unfold number at hr
  split at hr
  · rename_i t r e
    split at hr
    · rename_i hk
      injection hr with e1 e2
      subst e1; subst e2
      have hv := h.toks t (by rw [e]; simp)
      unfold Lx.valid at hv
      rw [if_neg (by rw [hk.1]; decide), if_pos hk.1] at hv
      simp only [Bool.and_eq_true, decide_eq_true_eq] at hv
      exact ⟨grow_toks h e, hv.1.2, hk.2⟩
    · unfold fail at hr; cases hr
  · unfold fail at hr; cases hr
theorem var_grow {fresh : Bool} {n : Int} {s s' : St} (h : Nm s) (hr : variable_ last fresh s = .ok n s') : Grow s s' ∧ 0 ≤ n ∧ n < s'.names.length ∧ (fresh = true → n = s.names.length ∧ s'.names.length = s.names.length + 1) := by
  unfold variable_ at hr
  split at hr
  · rename_i t r e
    split at hr
    · rename_i hk
      split at hr
      · rename_i i hi
        split at hr
        · unfold fail at hr; cases hr
        · rename_i hf
          injection hr with e1 e2
          subst e1; subst e2
          have hlt := (List.findIdx?_eq_some_iff_getElem.1 hi).1
          exact ⟨grow_toks h e, by omega, by show (i : Int) < s.names.length; omega, fun hf' => absurd hf' hf⟩
      · rename_i hi
        split at hr
        · unfold fail at hr; cases hr
        · rename_i h8
          injection hr with e1 e2
          subst e1; subst e2
          have hv := h.toks t (by rw [e]; simp)
          unfold Lx.valid at hv
          rw [if_pos hk.1] at hv
          simp only [Bool.and_eq_true] at hv
          have hlen : (s.names ++ [t.text]).length = s.names.length + 1 := by simp
          have hf := h.few
          refine ⟨⟨⟨by show (s.names ++ [t.text]).length ≤ 8; omega, fun n hn => ?_, ?_, fun u hu => h.toks u (by rw [e]; exact List.mem_cons_of_mem _ hu)⟩, by show s.names.length ≤ (s.names ++ [t.text]).length; omega, rfl, rfl, rfl⟩, by omega, by show (s.names.length : Int) < (s.names ++ [t.text]).length; omega, fun _ => ⟨rfl, hlen⟩⟩
          · rcases List.mem_append.1 hn with hn | hn
            · exact h.names n hn
            · have : n = t.text := by simpa using hn
              rw [this]
              exact ⟨hv.1, hk.2⟩
          · show (s.names ++ [t.text]).Nodup
            rw [List.nodup_append]
            refine ⟨h.nodup, by simp, fun a ha b hb => ?_⟩
            have hb' : b = t.text := by simpa using hb
            rw [List.findIdx?_eq_none_iff] at hi
            have := hi a ha
            simp only [beq_eq_false_iff_ne] at this
            rw [hb']
            exact this
    · unfold fail at hr; cases hr
  · unfold fail at hr; cases hr

def VarsIn (l : List Int) (s : St) : Prop := ∀ n ∈ l, 0 ≤ n ∧ n < s.names.length
theorem VarsIn.grow {l : List Int} {s s' : St} (h : VarsIn l s) (hg : Grow s s') : VarsIn l s' := fun n hn => by
  obtain ⟨a, b⟩ := h n hn
  have := hg.len
  exact ⟨a, by omega⟩
theorem arg_grow {a : Arg} {s s' : St} (h : Nm s) (hr : argument last s = .ok a s') : Grow s s' ∧ ArgOk a ∧ VarsIn a.vars s' := by
  have hv : ∀ {s' : St}, ((variable_ last false s).bind fun n s => R.ok ⟨true, n⟩ s) = .ok a s' → Grow s s' ∧ ArgOk a ∧ VarsIn a.vars s' := by
    intro s' hr
    obtain ⟨n, s1, e1, e2⟩ := bind_ok hr
    injection e2 with e3 e4
    subst e3; subst e4
    obtain ⟨g, h0, h1, _⟩ := var_grow last h e1
    refine ⟨g, Or.inl rfl, fun m hm => ?_⟩
    have : m = n := by simpa [Arg.vars] using hm
    rw [this]
    exact ⟨h0, h1⟩
  unfold argument at hr
  split at hr
  · split at hr
    · obtain ⟨n, s1, e1, e2⟩ := bind_ok hr
      injection e2 with e3 e4
      subst e3; subst e4
      obtain ⟨g, h0, h1⟩ := number_grow last h e1
      exact ⟨g, Or.inr ⟨h0, h1⟩, fun m hm => by simp [Arg.vars] at hm⟩
    · exact hv hr
  · exact hv hr
end

/-- What holds between two conditions. -/
structure Inv (s : St) : Prop where
  nm : Nm s
  shown : VarsIn s.shown s
  distinct : s.shown.Nodup
  fits : s.shown.length ≤ s.names.length
  atoms : ∀ x ∈ s.atoms, AtomOk x ∧ VarsIn x.vars s
  tests : ∀ x ∈ s.tests, TestOk x ∧ VarsIn x.vars s
theorem Inv.grow {s s' : St} (h : Inv s) (hg : Grow s s') : Inv s' := by
  refine ⟨hg.nm, ?_, ?_, ?_, ?_, ?_⟩
  · rw [hg.shown]; exact h.shown.grow hg
  · rw [hg.shown]; exact h.distinct
  · rw [hg.shown]; exact Nat.le_trans h.fits hg.len
  · rw [hg.atoms]; exact fun x hx => ⟨(h.atoms x hx).1, (h.atoms x hx).2.grow hg⟩
  · rw [hg.tests]; exact fun x hx => ⟨(h.tests x hx).1, (h.tests x hx).2.grow hg⟩
theorem varsIn_app {a b : List Int} {s : St} (ha : VarsIn a s) (hb : VarsIn b s) : VarsIn (a ++ b) s := fun n hn => by
  rcases List.mem_append.1 hn with h | h
  · exact ha n h
  · exact hb n h

section
variable (last : Int)
theorem atom_inv {k : Int} {s s' : St} (hk : 1 ≤ k ∧ k ≤ 12) (h : Inv s) (hr : atom last k s = .ok () s') : Inv s' ∧ s'.atoms.length = s.atoms.length + 1 ∧ s'.tests.length = s.tests.length ∧ s'.shown = s.shown := by
  unfold atom at hr
  obtain ⟨_, s1, e1, hr⟩ := bind_ok hr
  obtain ⟨x, s2, e2, hr⟩ := bind_ok hr
  obtain ⟨_, s3, e3, hr⟩ := bind_ok hr
  obtain ⟨y, s4, e4, hr⟩ := bind_ok hr
  obtain ⟨_, s5, e5, hr⟩ := bind_ok hr
  obtain ⟨_, s6, e6, hr⟩ := bind_ok hr
  obtain ⟨z, s7, e7, hr⟩ := bind_ok hr
  obtain ⟨_, s8, e8, hr⟩ := bind_ok hr
  obtain ⟨t, s9, e9, hr⟩ := bind_ok hr
  obtain ⟨_, s10, e10, hr⟩ := bind_ok hr
  obtain ⟨kn, s11, e11, hr⟩ := bind_ok hr
  injection hr with _ hr
  subst hr
  have g1 := need_grow last h.nm e1
  obtain ⟨g2, a2, v2⟩ := arg_grow last g1.nm e2
  have g3 := need_grow last g2.nm e3
  obtain ⟨g4, a4, v4⟩ := arg_grow last g3.nm e4
  have g5 := need_grow last g4.nm e5
  have g6 := need_grow last g5.nm e6
  obtain ⟨g7, a7, v7⟩ := arg_grow last g6.nm e7
  have g8 := need_grow last g7.nm e8
  obtain ⟨g9, t0, t1⟩ := number_grow last g8.nm e9
  have g10 := need_grow last g9.nm e10
  obtain ⟨g11, k0, k1⟩ := number_grow last g10.nm e11
  have gr := g8.trans (g9.trans (g10.trans g11))
  have g := g1.trans (g2.trans (g3.trans (g4.trans (g5.trans (g6.trans (g7.trans gr))))))
  have hi := h.grow g
  refine ⟨⟨⟨hi.nm.few, hi.nm.names, hi.nm.nodup, hi.nm.toks⟩, hi.shown, hi.distinct, hi.fits, fun u hu => ?_, hi.tests⟩, by show (s11.atoms ++ [_]).length = _; rw [List.length_append, g.atoms]; rfl, by show s11.tests.length = _; rw [g.tests], g.shown⟩
  rcases List.mem_append.1 hu with hu | hu
  · exact hi.atoms u hu
  · have : u = ⟨k, x, y, z, t, kn⟩ := by simpa using hu
    subst this
    refine ⟨⟨hk.1, hk.2, t0, t1, k0, k1, a2, a4, a7⟩, ?_⟩
    have hv : VarsIn (x.vars ++ (y.vars ++ z.vars)) s11 := varsIn_app (v2.grow (g3.trans (g4.trans (g5.trans (g6.trans (g7.trans gr)))))) (varsIn_app (v4.grow (g5.trans (g6.trans (g7.trans gr)))) (v7.grow gr))
    exact hv
theorem oper_grow {o : Int} {s s' : St} (h : Nm s) (hr : oper last s = .ok o s') : Grow s s' ∧ -2 ≤ o ∧ o ≤ 1 := by
  unfold oper at hr
  have g1 := skip_grow (k := 3) (t := [60]) h
  split at hr
  · rename_i s1 e1
    rw [e1] at g1
    have g2 := skip_grow (k := 3) (t := [61]) g1.nm
    simp only at g2
    split at hr
    · rename_i s2 e2
      rw [e2] at g2
      injection hr with e3 e4
      subst e3; subst e4
      exact ⟨g1.trans g2, by omega, by omega⟩
    · rename_i s2 e2
      rw [e2] at g2
      injection hr with e3 e4
      subst e3; subst e4
      exact ⟨g1.trans g2, by omega, by omega⟩
  · rename_i s1 e1
    rw [e1] at g1
    have g2 := skip_grow (k := 3) (t := [33]) g1.nm
    simp only at g2
    split at hr
    · rename_i s2 e2
      rw [e2] at g2
      obtain ⟨_, s3, e5, e6⟩ := bind_ok hr
      injection e6 with e3 e4
      subst e3; subst e4
      exact ⟨g1.trans (g2.trans (need_grow last g2.nm e5)), by omega, by omega⟩
    · rename_i s2 e2
      rw [e2] at g2
      obtain ⟨_, s3, e5, e6⟩ := bind_ok hr
      injection e6 with e3 e4
      subst e3; subst e4
      exact ⟨g1.trans (g2.trans (need_grow last g2.nm e5)), by omega, by omega⟩
theorem test_inv {s s' : St} (h : Inv s) (hr : test last s = .ok () s') : Inv s' ∧ s'.atoms.length = s.atoms.length ∧ s'.tests.length = s.tests.length + 1 ∧ s'.shown = s.shown := by
  unfold test at hr
  obtain ⟨x, s1, e1, hr⟩ := bind_ok hr
  obtain ⟨o, s2, e2, hr⟩ := bind_ok hr
  obtain ⟨y, s3, e3, hr⟩ := bind_ok hr
  injection hr with _ hr
  subst hr
  obtain ⟨g1, a1, v1⟩ := arg_grow last h.nm e1
  obtain ⟨g2, o1, o2⟩ := oper_grow last g1.nm e2
  obtain ⟨g3, a3, v3⟩ := arg_grow last g2.nm e3
  have g := g1.trans (g2.trans g3)
  have hi := h.grow g
  refine ⟨⟨⟨hi.nm.few, hi.nm.names, hi.nm.nodup, hi.nm.toks⟩, hi.shown, hi.distinct, hi.fits, hi.atoms, fun u hu => ?_⟩, by show s3.atoms.length = _; rw [g.atoms], by show (s3.tests ++ [_]).length = _; rw [List.length_append, g.tests]; rfl, g.shown⟩
  rcases List.mem_append.1 hu with hu | hu
  · exact hi.tests u hu
  · have : u = ⟨o, x, y⟩ := by simpa using hu
    subst this
    have hv : VarsIn (x.vars ++ y.vars) s3 := varsIn_app (v1.grow (g2.trans g3)) v3
    exact ⟨⟨o1, o2, a1, a3⟩, hv⟩
end
end Go.Proofs.YtjonaidancomgaaDoor.Qy

namespace Go.Proofs.YtjonaidancomgaaDoor.Qy
open Lx

def total (s : St) : Nat := s.atoms.length + s.tests.length
section
variable (last : Int)
theorem showOne_inv {s s' : St} (h : Inv s) (hr : showOne last s = .ok () s') : Inv s' ∧ total s' = total s ∧ s'.shown.length = s.shown.length + 1 := by
  unfold showOne at hr
  obtain ⟨n, s1, e1, e2⟩ := bind_ok hr
  injection e2 with _ e2
  subst e2
  obtain ⟨g, h0, h1, hf⟩ := var_grow last h.nm e1
  obtain ⟨hn, hl⟩ := hf rfl
  have hi := h.grow g
  refine ⟨⟨⟨hi.nm.few, hi.nm.names, hi.nm.nodup, hi.nm.toks⟩, ?_, ?_, ?_, hi.atoms, hi.tests⟩, by show s1.atoms.length + s1.tests.length = _; rw [g.atoms, g.tests]; rfl, by show (s1.shown ++ [n]).length = _; rw [List.length_append, g.shown]; rfl⟩
  · have hv : VarsIn (s1.shown ++ [n]) s1 := varsIn_app hi.shown (fun m hm => by
      have : m = n := by simpa using hm
      rw [this]; exact ⟨h0, h1⟩)
    exact hv
  · show (s1.shown ++ [n]).Nodup
    rw [List.nodup_append]
    refine ⟨hi.distinct, by simp, fun a ha b hb => ?_⟩
    have hb' : b = n := by simpa using hb
    rw [g.shown] at ha
    have := (h.shown a ha).2
    rw [hb']
    omega
  · show (s1.shown ++ [n]).length ≤ s1.names.length
    rw [List.length_append, g.shown]
    have := h.fits
    simp only [List.length_singleton]
    omega
theorem skip_inv {k : Int} {t : List UInt8} {s : St} (h : Inv s) : Inv (skip k t s).2 := h.grow (skip_grow h.nm)
theorem skip_total {k : Int} {t : List UInt8} {s : St} : total (skip k t s).2 = total s ∧ (skip k t s).2.shown = s.shown := by
  unfold skip
  split
  · split <;> exact ⟨rfl, rfl⟩
  · exact ⟨rfl, rfl⟩
theorem shows_inv : ∀ (f : Nat) {s s' : St}, Inv s → shows last f s = .ok () s' → Inv s' ∧ total s' = total s ∧ s.shown.length ≤ s'.shown.length
  | 0, s, s', h, hr => by
    unfold shows at hr
    injection hr with _ hr
    subst hr
    exact ⟨h, rfl, Nat.le_refl _⟩
  | f + 1, s, s', h, hr => by
    unfold shows at hr
    have hk := skip_inv (k := 3) (t := [44]) h
    have ht := skip_total (k := 3) (t := [44]) (s := s)
    split at hr
    · rename_i s1 e1
      rw [e1] at hk ht
      have ht1 : total s1 = total s := ht.1
      have ht2 : s1.shown = s.shown := ht.2
      obtain ⟨_, s2, e2, e3⟩ := bind_ok hr
      obtain ⟨i2, t2, l2⟩ := showOne_inv last hk e2
      obtain ⟨i3, t3, l3⟩ := shows_inv f i2 e3
      rw [ht2] at l2
      exact ⟨i3, by omega, by omega⟩
    · rename_i s1 e1
      rw [e1] at hk ht
      injection hr with _ hr
      subst hr
      simp only at ht
      exact ⟨hk, ht.1, by rw [ht.2]; exact Nat.le_refl _⟩
theorem kind_inv {s : St} (h : Inv s) : Inv (kind s).2 ∧ total (kind s).2 = total s ∧ (kind s).2.shown = s.shown ∧ ((kind s).1 ≠ 0 → 1 ≤ (kind s).1 ∧ (kind s).1 ≤ 12) ∧ ((kind s).1 = 0 → (kind s).2 = s) := by
  unfold kind
  split
  · rename_i t r e
    split
    · rename_i hk
      refine ⟨h.grow (grow_toks h.nm e), rfl, rfl, fun _ => ⟨by omega, ?_⟩, fun h0 => absurd h0 hk.2⟩
      unfold kindOf
      split
      · rename_i i hi
        have := (List.findIdx?_eq_some_iff_getElem.1 hi).1
        have h12 : kindWords.length = 12 := rfl
        omega
      · omega
    · exact ⟨h, rfl, rfl, fun h0 => absurd rfl h0, fun _ => rfl⟩
  · exact ⟨h, rfl, rfl, fun h0 => absurd rfl h0, fun _ => rfl⟩
theorem cond_inv {s s' : St} (h : Inv s) (hr : cond last s = .ok () s') : Inv s' ∧ total s' = total s + 1 ∧ s'.shown = s.shown := by
  obtain ⟨hk, ht, hs, h12, _⟩ := kind_inv h
  unfold cond at hr
  split at hr
  · rename_i s1 e1
    rw [e1] at hk ht hs
    have ht1 : s1.atoms.length + s1.tests.length = s.atoms.length + s.tests.length := ht
    obtain ⟨i, a1, a2, a3⟩ := test_inv last (show Inv s1 from hk) hr
    unfold total
    exact ⟨i, by omega, a3.trans hs⟩
  · rename_i k s1 hne e1
    rw [e1] at hk ht hs h12
    have hk0 : k ≠ 0 := fun e => hne e
    obtain ⟨q1, q2⟩ := h12 hk0
    simp only at q1 q2
    have ht1 : s1.atoms.length + s1.tests.length = s.atoms.length + s.tests.length := ht
    obtain ⟨i, a1, a2, a3⟩ := atom_inv last (by omega) (show Inv s1 from hk) hr
    unfold total
    exact ⟨i, by omega, a3.trans hs⟩
theorem conds_inv : ∀ (f : Nat) {s s' : St}, Inv s → total s < 16 → conds last f s = .ok () s' → Inv s' ∧ total s ≤ total s' ∧ total s' ≤ 16 ∧ s'.shown = s.shown ∧ (0 < f → total s + 1 ≤ total s')
  | 0, s, s', h, h16, hr => by
    unfold conds at hr
    injection hr with _ hr
    subst hr
    exact ⟨h, Nat.le_refl _, by omega, rfl, fun h0 => absurd h0 (by omega)⟩
  | f + 1, s, s', h, h16, hr => by
    unfold conds at hr
    obtain ⟨_, s1, e1, hr⟩ := bind_ok hr
    obtain ⟨i1, t1, sh1⟩ := cond_inv last h e1
    have hk := skip_inv (k := 3) (t := [44]) i1
    have ht := skip_total (k := 3) (t := [44]) (s := s1)
    split at hr
    · rename_i s2 e2
      rw [e2] at hk ht
      simp only at hk ht
      split at hr
      · unfold fail at hr; cases hr
      · rename_i hn
        have hn' : ¬ total s1 = 16 := hn
        obtain ⟨i3, a1, a2, a3, _⟩ := conds_inv f hk (by omega) hr
        exact ⟨i3, by omega, a2, by rw [a3, ht.2, sh1], fun _ => by omega⟩
    · rename_i s2 e2
      rw [e2] at hk ht
      simp only at hk ht
      injection hr with _ hr
      subst hr
      exact ⟨hk, by omega, by omega, by rw [ht.2, sh1], fun _ => by omega⟩
theorem need_inv {k : Int} {t : List UInt8} {s s' : St} (h : Inv s) (hr : need last k t s = .ok () s') : Inv s' ∧ total s' = total s ∧ s'.shown = s.shown := by
  have g := need_grow last h.nm hr
  refine ⟨h.grow g, ?_, g.shown⟩
  unfold total
  rw [g.atoms, g.tests]
theorem parseT_inv {l : List Tok} {s' : St} (hl : ∀ t ∈ l, Lx.valid t = true) (hr : parseT last ⟨l, [], [], [], []⟩ = .ok () s') : Inv s' ∧ 1 ≤ total s' ∧ total s' ≤ 16 ∧ 1 ≤ s'.shown.length := by
  have h0 : Inv ⟨l, [], [], [], []⟩ := ⟨⟨by simp, by simp, List.nodup_nil, hl⟩, fun n hn => by simp at hn, List.nodup_nil, by simp, fun x hx => by simp at hx, fun x hx => by simp at hx⟩
  unfold parseT at hr
  obtain ⟨_, s1, e1, hr⟩ := bind_ok hr
  obtain ⟨_, s2, e2, hr⟩ := bind_ok hr
  obtain ⟨_, s3, e3, hr⟩ := bind_ok hr
  obtain ⟨_, s4, e4, hr⟩ := bind_ok hr
  obtain ⟨_, s5, e5, hr⟩ := bind_ok hr
  obtain ⟨_, s6, e6, hr⟩ := bind_ok hr
  have h6 : s6 = s' := by
    split at hr
    · injection hr
    · unfold fail at hr; cases hr
  subst h6
  obtain ⟨i1, t1, q1⟩ := need_inv last h0 e1
  obtain ⟨i2, t2, q2⟩ := showOne_inv last i1 e2
  obtain ⟨i3, t3, q3⟩ := shows_inv last _ i2 e3
  obtain ⟨i4, t4, q4⟩ := need_inv last i3 e4
  have h00 : total ⟨l, [], [], [], []⟩ = 0 := rfl
  obtain ⟨i5, a1, a2, q5, a3⟩ := conds_inv last _ i4 (by omega) e5
  obtain ⟨i6, t6, q6⟩ := need_inv last i5 e6
  have := a3 (by omega)
  exact ⟨i6, by omega, by omega, by rw [q6, q5, q4]; omega⟩
end
end Go.Proofs.YtjonaidancomgaaDoor.Qy

namespace Go.Proofs.YtjonaidancomgaaDoor.Qy
open Lx

structure Met (m : List Int) (s : St) : Prop where
  nodup : m.Nodup
  inside : VarsIn m s
/-- One step of renumbering, or several, seen from outside. -/
structure Num (s : St) (m m' : List Int) (new : List Int) : Prop where
  met : Met m' s
  len : m.length ≤ m'.length
  order : ∀ (top : Int) (rest : List Int), (m'.length : Int) ≤ top → order top m.length (new ++ rest) = order top m'.length rest
theorem Num.trans {s : St} {a b c : List Int} {l l' : List Int} (h : Num s a b l) (h' : Num s b c l') : Num s a c (l ++ l') :=
  ⟨h'.met, Nat.le_trans h.len h'.len, fun top rest ht => by
    have := h'.len
    rw [List.append_assoc, h.order top _ (by omega), h'.order top rest ht]⟩
theorem num_nil {s : St} {m : List Int} (h : Met m s) : Num s m m [] := ⟨h, Nat.le_refl _, fun _ _ _ => rfl⟩
theorem ix_num {s : St} {m : List Int} {n : Int} (h : Met m s) (hn : 0 ≤ n ∧ n < s.names.length) : Num s m (ix m n).2 [(ix m n).1] := by
  unfold ix
  split
  · rename_i i hi
    have hlt := (List.findIdx?_eq_some_iff_getElem.1 hi).1
    refine ⟨h, Nat.le_refl _, fun top rest ht => ?_⟩
    show Qy.order top m.length ((i : Int) :: rest) = _
    rw [Qy.order, if_neg (by simp only at ht; omega), if_neg (by omega)]
  · rename_i hi
    have hlen : (m ++ [n]).length = m.length + 1 := by simp
    refine ⟨⟨?_, varsIn_app h.inside (fun k hk => by have : k = n := by simpa using hk
                                                     rw [this]; exact hn)⟩, by show m.length ≤ (m ++ [n]).length; omega, fun top rest ht => ?_⟩
    · show (m ++ [n]).Nodup
      rw [List.nodup_append]
      refine ⟨h.nodup, by simp, fun a ha b hb => ?_⟩
      have hb' : b = n := by simpa using hb
      rw [List.findIdx?_eq_none_iff] at hi
      have := hi a ha
      simp only [beq_eq_false_iff_ne] at this
      rw [hb']; exact this
    · show Qy.order top m.length ((m.length : Int) :: rest) = Qy.order top (m ++ [n]).length rest
      have ht' : ((m ++ [n]).length : Int) ≤ top := ht
      rw [Qy.order, if_neg (by omega), if_pos rfl, hlen]
      congr 1
theorem ixList_num {s : St} : ∀ (l m : List Int), Met m s → VarsIn l s → Num s m (ixList m l).2 (ixList m l).1
  | [], m, h, _ => num_nil h
  | n :: l, m, h, hl => by
    have h1 := ix_num h (hl n (by simp))
    have h2 := ixList_num l (ix m n).2 h1.met (fun k hk => hl k (List.mem_cons_of_mem _ hk))
    have e : ixList m (n :: l) = ((ix m n).1 :: (ixList (ix m n).2 l).1, (ixList (ix m n).2 l).2) := rfl
    rw [e]
    exact h1.trans h2
theorem ixArg_num {s : St} {m : List Int} {a : Arg} (h : Met m s) (ha : VarsIn a.vars s) : Num s m (ixArg m a).2 (ixArg m a).1.vars ∧ (ArgOk a → ArgOk (ixArg m a).1) := by
  obtain ⟨v, n⟩ := a
  cases v with
  | true =>
    have h1 := ix_num h (ha n (by simp [Arg.vars]))
    exact ⟨h1, fun _ => Or.inl rfl⟩
  | false => exact ⟨num_nil h, fun h => h⟩
theorem ixAtoms_num {s : St} : ∀ (l : List Atom) (m : List Int), Met m s → (∀ x ∈ l, AtomOk x ∧ VarsIn x.vars s) →
    Num s m (ixAtoms m l).2 ((ixAtoms m l).1.flatMap Atom.vars) ∧ (∀ x ∈ (ixAtoms m l).1, AtomOk x) ∧ (ixAtoms m l).1.length = l.length
  | [], m, h, _ => ⟨num_nil h, fun x hx => absurd hx (by simp [ixAtoms]), rfl⟩
  | x :: l, m, h, hl => by
    obtain ⟨hx, hv⟩ := hl x (by simp)
    obtain ⟨c1, c2, c3, c4, c5, c6, c7, c8, c9⟩ := hx
    have v1 : VarsIn x.subj.vars s := fun k hk => hv k (by simp [Atom.vars, hk])
    have v2 : VarsIn x.obj.vars s := fun k hk => hv k (by simp [Atom.vars, hk])
    have v3 : VarsIn x.val.vars s := fun k hk => hv k (by simp [Atom.vars, hk])
    obtain ⟨n1, a1⟩ := ixArg_num h v1
    obtain ⟨n2, a2⟩ := ixArg_num n1.met v2
    obtain ⟨n3, a3⟩ := ixArg_num n2.met v3
    obtain ⟨n4, a4, a5⟩ := ixAtoms_num l _ n3.met (fun y hy => hl y (List.mem_cons_of_mem _ hy))
    let m1 := (ixArg m x.subj).2
    let m2 := (ixArg m1 x.obj).2
    let m3 := (ixArg m2 x.val).2
    have e : ixAtoms m (x :: l) = (⟨x.kind, (ixArg m x.subj).1, (ixArg m1 x.obj).1, (ixArg m2 x.val).1, x.term, x.known⟩ :: (ixAtoms m3 l).1, (ixAtoms m3 l).2) := rfl
    rw [e]
    refine ⟨?_, fun y hy => ?_, by simp only [List.length_cons]; rw [a5]⟩
    · have := (n1.trans (n2.trans n3)).trans n4
      exact this
    · rcases List.mem_cons.1 hy with rfl | hy
      · exact ⟨c1, c2, c3, c4, c5, c6, a1 c7, a2 c8, a3 c9⟩
      · exact a4 y hy
theorem ixTests_num {s : St} : ∀ (l : List Test) (m : List Int), Met m s → (∀ x ∈ l, TestOk x ∧ VarsIn x.vars s) →
    Num s m (ixTests m l).2 ((ixTests m l).1.flatMap Test.vars) ∧ (∀ x ∈ (ixTests m l).1, TestOk x) ∧ (ixTests m l).1.length = l.length
  | [], m, h, _ => ⟨num_nil h, fun x hx => absurd hx (by simp [ixTests]), rfl⟩
  | x :: l, m, h, hl => by
    obtain ⟨hx, hv⟩ := hl x (by simp)
    obtain ⟨c1, c2, c7, c8⟩ := hx
    have v1 : VarsIn x.a.vars s := fun k hk => hv k (by simp [Test.vars, hk])
    have v2 : VarsIn x.b.vars s := fun k hk => hv k (by simp [Test.vars, hk])
    obtain ⟨n1, a1⟩ := ixArg_num h v1
    obtain ⟨n2, a2⟩ := ixArg_num n1.met v2
    obtain ⟨n4, a4, a5⟩ := ixTests_num l _ n2.met (fun y hy => hl y (List.mem_cons_of_mem _ hy))
    let m1 := (ixArg m x.a).2
    let m2 := (ixArg m1 x.b).2
    have e : ixTests m (x :: l) = (⟨x.op, (ixArg m x.a).1, (ixArg m1 x.b).1⟩ :: (ixTests m2 l).1, (ixTests m2 l).2) := rfl
    rw [e]
    refine ⟨?_, fun y hy => ?_, by simp only [List.length_cons]; rw [a5]⟩
    · have := (n1.trans n2).trans n4
      exact this
    · rcases List.mem_cons.1 hy with rfl | hy
      · exact ⟨c1, c2, a1 c7, a2 c8⟩
      · exact a4 y hy

/-- Different variables get consecutive numbers. -/
theorem ixList_fresh : ∀ (l m : List Int), l.Nodup → (∀ n ∈ l, n ∉ m) → ixList m l = ((List.range l.length).map (fun (i : Nat) => ((m.length + i : Nat) : Int)), m ++ l)
  | [], m, _, _ => by simp [ixList]
  | n :: l, m, hd, hm => by
    rw [List.nodup_cons] at hd
    have hi : m.findIdx? (· == n) = none := by
      rw [List.findIdx?_eq_none_iff]
      intro x hx
      simp only [beq_eq_false_iff_ne]
      intro e
      exact hm n (by simp) (e ▸ hx)
    have e1 : ix m n = ((m.length : Int), m ++ [n]) := by unfold ix; rw [hi]
    have ih := ixList_fresh l (m ++ [n]) hd.2 (fun k hk hkm => by
      rcases List.mem_append.1 hkm with h | h
      · exact hm k (List.mem_cons_of_mem _ hk) h
      · have : k = n := by simpa using h
        exact hd.1 (this ▸ hk))
    unfold ixList
    rw [e1]
    simp only
    rw [ih]
    simp only [List.length_cons, List.range_succ_eq_map, List.map_cons, List.map_map, List.length_append, List.length_nil, List.append_assoc, List.singleton_append, Prod.mk.injEq, and_true]
    congr 1
    apply List.map_congr_left
    intro i _
    simp only [Function.comp]
    omega
end Go.Proofs.YtjonaidancomgaaDoor.Qy

namespace Go.Proofs.YtjonaidancomgaaDoor.Qy
open Lx

theorem room : ∀ (k : Nat) (l : List Int), l.Nodup → (∀ n ∈ l, 0 ≤ n ∧ n < (k : Int)) → l.length ≤ k
  | 0, l, _, h => by
    cases l with
    | nil => simp
    | cons a l => have := h a (by simp); omega
  | k + 1, l, hd, h => by
    have h1 := room k (l.erase (k : Int)) (hd.erase _) (fun n hn => by
      obtain ⟨a, b⟩ := (List.Nodup.mem_erase_iff hd).1 hn
      have := h n b
      omega)
    by_cases hm : (k : Int) ∈ l
    · rw [List.length_erase_of_mem hm] at h1
      omega
    · rw [List.erase_of_not_mem hm] at h1
      omega

/-- What a state is renumbered to is valid. -/
theorem renumber_valid {s : St} (inv : Inv s) (c1 : 1 ≤ total s) (c2 : total s ≤ 16) (s1 : 1 ≤ s.shown.length) : valid (renumber s) = true := by
  have hmet0 : Met [] s := ⟨List.nodup_nil, fun n hn => by simp at hn⟩
  have n1 := ixList_num s.shown [] hmet0 inv.shown
  obtain ⟨n2, a2, l2⟩ := ixAtoms_num s.atoms _ n1.met inv.atoms
  obtain ⟨n3, a3, l3⟩ := ixTests_num s.tests _ n2.met inv.tests
  have hfresh := ixList_fresh s.shown [] inv.distinct (fun n _ hn => by simp at hn)
  obtain ⟨q, h⟩ : ∃ q, q = renumber s := ⟨_, rfl⟩
  rw [← h]
  have hq : q = ⟨(ixTests (ixAtoms (ixList [] s.shown).2 s.atoms).2 s.tests).2.map (fun i => s.names.getD i.toNat []), (ixList [] s.shown).1, (ixAtoms (ixList [] s.shown).2 s.atoms).1, (ixTests (ixAtoms (ixList [] s.shown).2 s.atoms).2 s.tests).1⟩ := h
  obtain ⟨m3, hm3⟩ : ∃ m3, m3 = (ixTests (ixAtoms (ixList [] s.shown).2 s.atoms).2 s.tests).2 := ⟨_, rfl⟩
  have hnum := (n1.trans n2).trans n3
  rw [← hm3] at hnum hq n3
  have hroom := room s.names.length m3 n3.met.nodup n3.met.inside
  have hget : ∀ i ∈ m3, ∃ hi : i.toNat < s.names.length, s.names.getD i.toNat [] = s.names[i.toNat] := fun i hi => by
    obtain ⟨b0, b1⟩ := n3.met.inside i hi
    have hlt : i.toNat < s.names.length := by omega
    exact ⟨hlt, by simp [List.getD, List.getElem?_eq_getElem hlt]⟩
  have hsl : (ixList [] s.shown).1.length = s.shown.length := by rw [hfresh]; simp
  have hf := inv.fits
  have h8 := inv.nm.few
  apply ok_valid
  rw [hq]
  refine ⟨?_, ?_, ?_, ?_, ?_, ?_, ?_, ?_, ?_, ?_, ?_, ?_⟩
  · show (m3.map _).length ≤ 8
    rw [List.length_map]; omega
  · show 1 ≤ (ixList [] s.shown).1.length
    omega
  · show (ixList [] s.shown).1.length ≤ 8
    omega
  · show 1 ≤ (ixAtoms _ s.atoms).1.length + (ixTests _ s.tests).1.length
    rw [l2, l3]; exact c1
  · show (ixAtoms _ s.atoms).1.length + (ixTests _ s.tests).1.length ≤ 16
    rw [l2, l3]; exact c2
  · intro n hn
    obtain ⟨i, hi, rfl⟩ := List.mem_map.1 hn
    obtain ⟨hlt, e⟩ := hget i hi
    show isName (s.names.getD i.toNat []) = true ∧ kindOf (s.names.getD i.toNat []) = 0
    rw [e]
    exact inv.nm.names _ (List.getElem_mem _)
  · show (m3.map _).Nodup
    unfold List.Nodup
    rw [List.pairwise_map]
    refine List.Pairwise.imp_of_mem ?_ n3.met.nodup
    intro a b ha hb hab e
    obtain ⟨h1, e1⟩ := hget a ha
    obtain ⟨h2, e2⟩ := hget b hb
    rw [e1, e2] at e
    have := nodup_inj inv.nm.nodup h1 h2 e
    obtain ⟨a0, _⟩ := n3.met.inside a ha
    obtain ⟨b0, _⟩ := n3.met.inside b hb
    exact hab (by omega)
  · show (ixList [] s.shown).1.Nodup
    rw [hfresh]
    simp only
    unfold List.Nodup
    rw [List.pairwise_map]
    refine List.Pairwise.imp ?_ (List.nodup_range (n := s.shown.length))
    intro a b hab e
    exact hab (by omega)
  · intro x hx
    obtain ⟨c1, c2, c3, c4, c5, c6, _⟩ := a2 x hx
    exact ⟨c1, c2, c3, c4, c5, c6⟩
  · intro x hx
    obtain ⟨c1, c2, _⟩ := a3 x hx
    exact ⟨c1, c2⟩
  · intro a ha
    unfold Query.args at ha
    rcases List.mem_append.1 ha with ha | ha
    · obtain ⟨x, hx, hxa⟩ := List.mem_flatMap.1 ha
      obtain ⟨_, _, _, _, _, _, c7, c8, c9⟩ := a2 x hx
      simp only [List.mem_cons, List.not_mem_nil, or_false] at hxa
      rcases hxa with rfl | rfl | rfl
      · exact c7
      · exact c8
      · exact c9
    · obtain ⟨x, hx, hxa⟩ := List.mem_flatMap.1 ha
      obtain ⟨_, _, c7, c8⟩ := a3 x hx
      simp only [List.mem_cons, List.not_mem_nil, or_false] at hxa
      rcases hxa with rfl | rfl
      · exact c7
      · exact c8
  · show order (m3.map _).length 0 (Query.vars _) = some ((m3.map _).length : Int)
    unfold Query.vars
    rw [args_vars, List.length_map]
    have := hnum.order m3.length [] (by omega)
    simp only [List.append_nil, List.append_assoc] at this
    rw [show (([] : List Int).length : Int) = 0 from rfl] at this
    rw [this, order]
theorem parse_again {l : List Tok} {last : Int} {q : Query} (hl : ∀ t ∈ l, Lx.valid t = true) (h : parseToks l last = .ok q) : valid q = true := by
  unfold parseToks at h
  split at h
  · rename_i s hp
    obtain ⟨inv, c1, c2, s1⟩ := parseT_inv last hl hp
    injection h with h
    rw [← h]
    exact renumber_valid inv c1 c2 s1
  · cases h
end Go.Proofs.YtjonaidancomgaaDoor.Qy

namespace Go.Proofs.YtjonaidancomgaaDoor.Qy
open Lx

section
variable {last : Int}
theorem skip_len (k : Int) (x : List UInt8) (s : St) : (skip k x s).2.toks.length ≤ s.toks.length := by
  obtain ⟨toks, names, shown, atoms, tests⟩ := s
  cases toks with
  | nil => exact Nat.le_refl _
  | cons t r =>
    unfold skip
    simp only
    split <;> simp
theorem need_len {k : Int} {x : List UInt8} {s s' : St} (h : need last k x s = .ok () s') : s'.toks.length ≤ s.toks.length := by
  have hs := skip_len k x s
  unfold need at h
  cases hk : skip k x s with
  | mk b s1 =>
    rw [hk] at h hs
    cases b
    · cases h
    · injection h with _ h; subst h; exact hs
theorem number_len {most n : Int} {s s' : St} (h : number last most s = .ok n s') : s'.toks.length ≤ s.toks.length := by
  obtain ⟨toks, names, shown, atoms, tests⟩ := s
  cases toks with
  | nil => cases h
  | cons t r =>
    unfold number at h
    simp only at h
    split at h
    · injection h with _ h; subst h; simp
    · cases h
theorem var_len {n : Int} {fresh : Bool} {s s' : St} (h : variable_ last fresh s = .ok n s') : s'.toks.length ≤ s.toks.length := by
  obtain ⟨toks, names, shown, atoms, tests⟩ := s
  cases toks with
  | nil => cases h
  | cons t r =>
    unfold variable_ at h
    simp only at h
    split at h
    · split at h
      · split at h
        · cases h
        · injection h with _ h; subst h; simp
      · split at h
        · cases h
        · injection h with _ h; subst h; simp
    · cases h
theorem arg_len {a : Arg} {s s' : St} (h : argument last s = .ok a s') : s'.toks.length ≤ s.toks.length := by
  have hv : ∀ {s' : St}, ((variable_ last false s).bind fun n s => R.ok (⟨true, n⟩ : Arg) s) = .ok a s' → s'.toks.length ≤ s.toks.length := fun h => by
    obtain ⟨n, s1, e1, h⟩ := bind_ok h
    injection h with _ h; subst h; exact var_len e1
  unfold argument at h
  split at h
  · split at h
    · obtain ⟨n, s1, e1, h⟩ := bind_ok h
      injection h with _ h; subst h; exact number_len e1
    · exact hv h
  · exact hv h
theorem showOne_len {s s' : St} (h : showOne last s = .ok () s') : s'.toks.length ≤ s.toks.length := by
  unfold showOne at h
  obtain ⟨n, s1, e1, h⟩ := bind_ok h
  have := var_len e1
  injection h with _ h; subst h; exact this
theorem atom_len {k : Int} {s s' : St} (hr : atom last k s = .ok () s') : s'.toks.length ≤ s.toks.length := by
  unfold atom at hr
  obtain ⟨_, s1, e1, hr⟩ := bind_ok hr
  obtain ⟨x, s2, e2, hr⟩ := bind_ok hr
  obtain ⟨_, s3, e3, hr⟩ := bind_ok hr
  obtain ⟨y, s4, e4, hr⟩ := bind_ok hr
  obtain ⟨_, s5, e5, hr⟩ := bind_ok hr
  obtain ⟨_, s6, e6, hr⟩ := bind_ok hr
  obtain ⟨z, s7, e7, hr⟩ := bind_ok hr
  obtain ⟨_, s8, e8, hr⟩ := bind_ok hr
  obtain ⟨t, s9, e9, hr⟩ := bind_ok hr
  obtain ⟨_, s10, e10, hr⟩ := bind_ok hr
  obtain ⟨kn, s11, e11, hr⟩ := bind_ok hr
  have h1 := need_len e1; have h2 := arg_len e2; have h3 := need_len e3; have h4 := arg_len e4; have h5 := need_len e5; have h6 := need_len e6
  have h7 := arg_len e7; have h8 := need_len e8; have h9 := number_len e9; have h10 := need_len e10; have h11 := number_len e11
  injection hr with _ hr; subst hr
  show s11.toks.length ≤ _
  omega
theorem oper_len {o : Int} {s s' : St} (hr : oper last s = .ok o s') : s'.toks.length ≤ s.toks.length := by
  have h1 := skip_len 3 [60] s
  unfold oper at hr
  cases hk : skip 3 [60] s with
  | mk b s1 =>
    rw [hk] at hr h1
    cases b
    · have h2 := skip_len 3 [33] s1
      simp only at hr h1
      cases hk2 : skip 3 [33] s1 with
      | mk b2 s2 =>
        rw [hk2] at hr h2
        cases b2 <;> simp only at hr h2 <;> obtain ⟨_, s3, e3, hr⟩ := bind_ok hr <;> have h3 := need_len e3 <;> injection hr with _ hr <;> subst hr <;> omega
    · have h2 := skip_len 3 [61] s1
      simp only at hr h1
      cases hk2 : skip 3 [61] s1 with
      | mk b2 s2 =>
        rw [hk2] at hr h2
        cases b2 <;> simp only at hr h2 <;> injection hr with _ hr <;> subst hr <;> omega
theorem test_len {s s' : St} (hr : test last s = .ok () s') : s'.toks.length ≤ s.toks.length := by
  unfold test at hr
  obtain ⟨x, s1, e1, hr⟩ := bind_ok hr
  obtain ⟨o, s2, e2, hr⟩ := bind_ok hr
  obtain ⟨y, s3, e3, hr⟩ := bind_ok hr
  have h1 := arg_len e1; have h2 := oper_len e2; have h3 := arg_len e3
  injection hr with _ hr; subst hr
  show s3.toks.length ≤ _
  omega
theorem kind_len (s : St) : (kind s).2.toks.length ≤ s.toks.length := by
  obtain ⟨toks, names, shown, atoms, tests⟩ := s
  cases toks with
  | nil => exact Nat.le_refl _
  | cons t r =>
    unfold kind
    simp only
    split <;> simp
theorem cond_zero {s : St} (h : (kind s).1 = 0) : cond last s = test last (kind s).2 := by
  unfold cond
  cases hk : kind s with
  | mk k s1 =>
    rw [hk] at h
    simp only at h
    subst h
    rfl
theorem cond_some {s : St} (h : (kind s).1 ≠ 0) : cond last s = atom last ((kind s).1 : Nat) (kind s).2 := by
  unfold cond
  cases hk : kind s with
  | mk k s1 =>
    rw [hk] at h
    cases k with
    | zero => exact absurd rfl h
    | succ k => rfl
theorem cond_len {s s' : St} (hr : cond last s = .ok () s') : s'.toks.length ≤ s.toks.length := by
  have h1 := kind_len s
  by_cases h : (kind s).1 = 0
  · rw [cond_zero h] at hr
    exact Nat.le_trans (test_len hr) h1
  · rw [cond_some h] at hr
    exact Nat.le_trans (atom_len hr) h1

/-- What follows a condition. -/
def after (last : Int) (k : Nat) (s : St) : R Unit := match skip 3 [44] s with
  | (true, s') => if s.atoms.length + s.tests.length = 16 then fail last s 2 else conds last k s'
  | (false, s) => .ok () s
theorem conds_succ (last : Int) (k : Nat) (s : St) : conds last (k + 1) s = (cond last s).bind fun _ s => after last k s := by
  conv => lhs; unfold conds
  rfl
end
end Go.Proofs.YtjonaidancomgaaDoor.Qy
