/- Parts of the proof, joined into one text: QyAgain, QyAgainB, QyAgainC, QyAgainD, QyIx, QyVar. -/
import Derived.Test.YtocelmjncjompaaDoorZQyBack
import Derived.Test.YtocelmjncjompaaDoorZQyArgs
import Derived.Maps.Views
import Derived.Test.YtocelmjncjompaaDoorZQyPar

namespace Go.Proofs.YtocelmjncjompaaDoor.Qy
open Lx

theorem bind_ok {α β : Type} {r : R α} {g : α → St → R β} {b : β} {s : St} (h : r.bind g = .ok b s) : ∃ a s1, r = .ok a s1 ∧ g a s1 = .ok b s := by
  cases r with
  | ok a s1 => exact ⟨a, s1, rfl, h⟩
  | bad p e => cases h

structure Nm (s : St) : Prop where
  few : s.names.length ≤ 8
  names : ∀ n ∈ s.names, isName n = true ∧ kindOf n = 0
  nodup : s.names.Nodup
  toks : ∀ t ∈ s.toks, Lx.valid t = true
structure Grow (s s' : St) : Prop where
  nm : Nm s'
  len : s.names.length ≤ s'.names.length
  shown : s'.shown = s.shown
  atoms : s'.atoms = s.atoms
  tests : s'.tests = s.tests
theorem Grow.trans {a b c : St} (h : Grow a b) (h' : Grow b c) : Grow a c := ⟨h'.nm, Nat.le_trans h.len h'.len, h'.shown.trans h.shown, h'.atoms.trans h.atoms, h'.tests.trans h.tests⟩
theorem grow_refl {s : St} (h : Nm s) : Grow s s := ⟨h, Nat.le_refl _, rfl, rfl, rfl⟩
theorem grow_toks {s : St} (h : Nm s) {t : Tok} {r : List Tok} (e : s.toks = t :: r) : Grow s { s with toks := r } :=
  ⟨⟨h.few, h.names, h.nodup, fun u hu => h.toks u (by rw [e]; exact List.mem_cons_of_mem _ hu)⟩, Nat.le_refl _, rfl, rfl, rfl⟩
theorem skip_grow {k : Int} {t : List UInt8} {s : St} (h : Nm s) : Grow s (skip k t s).2 := by
  unfold skip
  split
  · rename_i u r e
    split
    · exact grow_toks h e
    · exact grow_refl h
  · exact grow_refl h

section
variable (last : Int)
theorem need_grow {k : Int} {t : List UInt8} {s s' : St} (h : Nm s) (hr : need last k t s = .ok () s') : Grow s s' := by
  unfold need at hr
  have hg := skip_grow (k := k) (t := t) h
  split at hr
  · rename_i s1 e
    rw [e] at hg
    injection hr with _ e2
    subst e2
    exact hg
  · unfold fail at hr; cases hr
theorem number_grow {most n : Int} {s s' : St} (h : Nm s) (hr : number last most s = .ok n s') : Grow s s' ∧ 0 ≤ n ∧ n ≤ most := by
  unfold number at hr
  split at hr
  · rename_i t r e
    split at hr
    · rename_i hk
      injection hr with e1 e2
      subst e1; subst e2
      have hv := h.toks t (by rw [e]; simp)
      unfold Lx.valid at hv
      rw [if_neg (by rw [hk.1]; decide), if_pos hk.1] at hv
      simp only [Bool.and_eq_true, decide_eq_true_eq] at hv
      exact ⟨grow_toks h e, hv.1.2, hk.2⟩
    · unfold fail at hr; cases hr
  · unfold fail at hr; cases hr
theorem var_grow {fresh : Bool} {n : Int} {s s' : St} (h : Nm s) (hr : variable_ last fresh s = .ok n s') : Grow s s' ∧ 0 ≤ n ∧ n < s'.names.length ∧ (fresh = true → n = s.names.length ∧ s'.names.length = s.names.length + 1) := by
  unfold variable_ at hr
  split at hr
  · rename_i t r e
    split at hr
    · rename_i hk
      split at hr
      · rename_i i hi
        split at hr
        · unfold fail at hr; cases hr
        · rename_i hf
          injection hr with e1 e2
          subst e1; subst e2
          have hlt := (List.findIdx?_eq_some_iff_getElem.1 hi).1
          exact ⟨grow_toks h e, by omega, by show (i : Int) < s.names.length; omega, fun hf' => absurd hf' hf⟩
      · rename_i hi
        split at hr
        · unfold fail at hr; cases hr
        · rename_i h8
          injection hr with e1 e2
          subst e1; subst e2
          have hv := h.toks t (by rw [e]; simp)
          unfold Lx.valid at hv
          rw [if_pos hk.1] at hv
          simp only [Bool.and_eq_true] at hv
          have hlen : (s.names ++ [t.text]).length = s.names.length + 1 := by simp
          have hf := h.few
          refine ⟨⟨⟨by show (s.names ++ [t.text]).length ≤ 8; omega, fun n hn => ?_, ?_, fun u hu => h.toks u (by rw [e]; exact List.mem_cons_of_mem _ hu)⟩, by show s.names.length ≤ (s.names ++ [t.text]).length; omega, rfl, rfl, rfl⟩, by omega, by show (s.names.length : Int) < (s.names ++ [t.text]).length; omega, fun _ => ⟨rfl, hlen⟩⟩
          · rcases List.mem_append.1 hn with hn | hn
            · exact h.names n hn
            · have : n = t.text := by simpa using hn
              rw [this]
              exact ⟨hv.1, hk.2⟩
          · show (s.names ++ [t.text]).Nodup
            rw [List.nodup_append]
            refine ⟨h.nodup, by simp, fun a ha b hb => ?_⟩
            have hb' : b = t.text := by simpa using hb
            rw [List.findIdx?_eq_none_iff] at hi
            have := hi a ha
            simp only [beq_eq_false_iff_ne] at this
            rw [hb']
            exact this
    · unfold fail at hr; cases hr
  · unfold fail at hr; cases hr

def VarsIn (l : List Int) (s : St) : Prop := ∀ n ∈ l, 0 ≤ n ∧ n < s.names.length
theorem VarsIn.grow {l : List Int} {s s' : St} (h : VarsIn l s) (hg : Grow s s') : VarsIn l s' := fun n hn => by
  obtain ⟨a, b⟩ := h n hn
  have := hg.len
  exact ⟨a, by omega⟩
theorem arg_grow {a : Arg} {s s' : St} (h : Nm s) (hr : argument last s = .ok a s') : Grow s s' ∧ ArgOk a ∧ VarsIn a.vars s' := by
  have hv : ∀ {s' : St}, ((variable_ last false s).bind fun n s => R.ok ⟨true, n⟩ s) = .ok a s' → Grow s s' ∧ ArgOk a ∧ VarsIn a.vars s' := by
    intro s' hr
    obtain ⟨n, s1, e1, e2⟩ := bind_ok hr
    injection e2 with e3 e4
    subst e3; subst e4
    obtain ⟨g, h0, h1, _⟩ := var_grow last h e1
    refine ⟨g, Or.inl rfl, fun m hm => ?_⟩
    have : m = n := by simpa [Arg.vars] using hm
    rw [this]
    exact ⟨h0, h1⟩
  unfold argument at hr
  split at hr
  · split at hr
    · obtain ⟨n, s1, e1, e2⟩ := bind_ok hr
      injection e2 with e3 e4
      subst e3; subst e4
      obtain ⟨g, h0, h1⟩ := number_grow last h e1
      exact ⟨g, Or.inr ⟨h0, h1⟩, fun m hm => by simp [Arg.vars] at hm⟩
    · exact hv hr
  · exact hv hr
end

/-- What holds between two conditions. -/
structure Inv (s : St) : Prop where
  nm : Nm s
  shown : VarsIn s.shown s
  distinct : s.shown.Nodup
  fits : s.shown.length ≤ s.names.length
  atoms : ∀ x ∈ s.atoms, AtomOk x ∧ VarsIn x.vars s
  tests : ∀ x ∈ s.tests, TestOk x ∧ VarsIn x.vars s
theorem Inv.grow {s s' : St} (h : Inv s) (hg : Grow s s') : Inv s' := by
  refine ⟨hg.nm, ?_, ?_, ?_, ?_, ?_⟩
  · rw [hg.shown]; exact h.shown.grow hg
  · rw [hg.shown]; exact h.distinct
  · rw [hg.shown]; exact Nat.le_trans h.fits hg.len
  · rw [hg.atoms]; exact fun x hx => ⟨(h.atoms x hx).1, (h.atoms x hx).2.grow hg⟩
  · rw [hg.tests]; exact fun x hx => ⟨(h.tests x hx).1, (h.tests x hx).2.grow hg⟩
theorem varsIn_app {a b : List Int} {s : St} (ha : VarsIn a s) (hb : VarsIn b s) : VarsIn (a ++ b) s := fun n hn => by
  rcases List.mem_append.1 hn with h | h
  · exact ha n h
  · exact hb n h

section
variable (last : Int)
theorem atom_inv {k : Int} {s s' : St} (hk : 1 ≤ k ∧ k ≤ 12) (h : Inv s) (hr : atom last k s = .ok () s') : Inv s' ∧ s'.atoms.length = s.atoms.length + 1 ∧ s'.tests.length = s.tests.length ∧ s'.shown = s.shown := by
  unfold atom at hr
  obtain ⟨_, s1, e1, hr⟩ := bind_ok hr
  obtain ⟨x, s2, e2, hr⟩ := bind_ok hr
  obtain ⟨_, s3, e3, hr⟩ := bind_ok hr
  obtain ⟨y, s4, e4, hr⟩ := bind_ok hr
  obtain ⟨_, s5, e5, hr⟩ := bind_ok hr
  obtain ⟨_, s6, e6, hr⟩ := bind_ok hr
  obtain ⟨z, s7, e7, hr⟩ := bind_ok hr
  obtain ⟨_, s8, e8, hr⟩ := bind_ok hr
  obtain ⟨t, s9, e9, hr⟩ := bind_ok hr
  obtain ⟨_, s10, e10, hr⟩ := bind_ok hr
  obtain ⟨kn, s11, e11, hr⟩ := bind_ok hr
  injection hr with _ hr
  subst hr
  have g1 := need_grow last h.nm e1
  obtain ⟨g2, a2, v2⟩ := arg_grow last g1.nm e2
  have g3 := need_grow last g2.nm e3
  obtain ⟨g4, a4, v4⟩ := arg_grow last g3.nm e4
  have g5 := need_grow last g4.nm e5
  have g6 := need_grow last g5.nm e6
  obtain ⟨g7, a7, v7⟩ := arg_grow last g6.nm e7
  have g8 := need_grow last g7.nm e8
  obtain ⟨g9, t0, t1⟩ := number_grow last g8.nm e9
  have g10 := need_grow last g9.nm e10
  obtain ⟨g11, k0, k1⟩ := number_grow last g10.nm e11
  have gr := g8.trans (g9.trans (g10.trans g11))
  have g := g1.trans (g2.trans (g3.trans (g4.trans (g5.trans (g6.trans (g7.trans gr))))))
  have hi := h.grow g
  refine ⟨⟨⟨hi.nm.few, hi.nm.names, hi.nm.nodup, hi.nm.toks⟩, hi.shown, hi.distinct, hi.fits, fun u hu => ?_, hi.tests⟩, by show (s11.atoms ++ [_]).length = _; rw [List.length_append, g.atoms]; rfl, by show s11.tests.length = _; rw [g.tests], g.shown⟩
  rcases List.mem_append.1 hu with hu | hu
  · exact hi.atoms u hu
  · have : u = ⟨k, x, y, z, t, kn⟩ := by simpa using hu
    subst this
    refine ⟨⟨hk.1, hk.2, t0, t1, k0, k1, a2, a4, a7⟩, ?_⟩
    have hv : VarsIn (x.vars ++ (y.vars ++ z.vars)) s11 := varsIn_app (v2.grow (g3.trans (g4.trans (g5.trans (g6.trans (g7.trans gr)))))) (varsIn_app (v4.grow (g5.trans (g6.trans (g7.trans gr)))) (v7.grow gr))
    exact hv
theorem oper_grow {o : Int} {s s' : St} (h : Nm s) (hr : oper last s = .ok o s') : Grow s s' ∧ -2 ≤ o ∧ o ≤ 1 := by
  unfold oper at hr
  have g1 := skip_grow (k := 3) (t := [60]) h
  split at hr
  · rename_i s1 e1
    rw [e1] at g1
    have g2 := skip_grow (k := 3) (t := [61]) g1.nm
    simp only at g2
    split at hr
    · rename_i s2 e2
      rw [e2] at g2
      injection hr with e3 e4
      subst e3; subst e4
      exact ⟨g1.trans g2, by omega, by omega⟩
    · rename_i s2 e2
      rw [e2] at g2
      injection hr with e3 e4
      subst e3; subst e4
      exact ⟨g1.trans g2, by omega, by omega⟩
  · rename_i s1 e1
    rw [e1] at g1
    have g2 := skip_grow (k := 3) (t := [33]) g1.nm
    simp only at g2
    split at hr
    · rename_i s2 e2
      rw [e2] at g2
      obtain ⟨_, s3, e5, e6⟩ := bind_ok hr
      injection e6 with e3 e4
      subst e3; subst e4
      exact ⟨g1.trans (g2.trans (need_grow last g2.nm e5)), by omega, by omega⟩
    · rename_i s2 e2
      rw [e2] at g2
      obtain ⟨_, s3, e5, e6⟩ := bind_ok hr
      injection e6 with e3 e4
      subst e3; subst e4
      exact ⟨g1.trans (g2.trans (need_grow last g2.nm e5)), by omega, by omega⟩
theorem test_inv {s s' : St} (h : Inv s) (hr : test last s = .ok () s') : Inv s' ∧ s'.atoms.length = s.atoms.length ∧ s'.tests.length = s.tests.length + 1 ∧ s'.shown = s.shown := by
  unfold test at hr
  obtain ⟨x, s1, e1, hr⟩ := bind_ok hr
  obtain ⟨o, s2, e2, hr⟩ := bind_ok hr
  obtain ⟨y, s3, e3, hr⟩ := bind_ok hr
  injection hr with _ hr
  subst hr
  obtain ⟨g1, a1, v1⟩ := arg_grow last h.nm e1
  obtain ⟨g2, o1, o2⟩ := oper_grow last g1.nm e2
  obtain ⟨g3, a3, v3⟩ := arg_grow last g2.nm e3
  have g := g1.trans (g2.trans g3)
  have hi := h.grow g
  refine ⟨⟨⟨hi.nm.few, hi.nm.names, hi.nm.nodup, hi.nm.toks⟩, hi.shown, hi.distinct, hi.fits, hi.atoms, fun u hu => ?_⟩, by show s3.atoms.length = _; rw [g.atoms], by show (s3.tests ++ [_]).length = _; rw [List.length_append, g.tests]; rfl, g.shown⟩
  rcases List.mem_append.1 hu with hu | hu
  · exact hi.tests u hu
  · have : u = ⟨o, x, y⟩ := by simpa using hu
    subst this
    have hv : VarsIn (x.vars ++ y.vars) s3 := varsIn_app (v1.grow (g2.trans g3)) v3
    exact ⟨⟨o1, o2, a1, a3⟩, hv⟩
end
end Go.Proofs.YtocelmjncjompaaDoor.Qy

namespace Go.Proofs.YtocelmjncjompaaDoor.Qy
open Lx

def total (s : St) : Nat := s.atoms.length + s.tests.length
section
variable (last : Int)
theorem showOne_inv {s s' : St} (h : Inv s) (hr : showOne last s = .ok () s') : Inv s' ∧ total s' = total s ∧ s'.shown.length = s.shown.length + 1 := by
  unfold showOne at hr
  obtain ⟨n, s1, e1, e2⟩ := bind_ok hr
  injection e2 with _ e2
  subst e2
  obtain ⟨g, h0, h1, hf⟩ := var_grow last h.nm e1
  obtain ⟨hn, hl⟩ := hf rfl
  have hi := h.grow g
  refine ⟨⟨⟨hi.nm.few, hi.nm.names, hi.nm.nodup, hi.nm.toks⟩, ?_, ?_, ?_, hi.atoms, hi.tests⟩, by show s1.atoms.length + s1.tests.length = _; rw [g.atoms, g.tests]; rfl, by show (s1.shown ++ [n]).length = _; rw [List.length_append, g.shown]; rfl⟩
  · have hv : VarsIn (s1.shown ++ [n]) s1 := varsIn_app hi.shown (fun m hm => by
      have : m = n := by simpa using hm
      rw [this]; exact ⟨h0, h1⟩)
    exact hv
  · show (s1.shown ++ [n]).Nodup
    rw [List.nodup_append]
    refine ⟨hi.distinct, by simp, fun a ha b hb => ?_⟩
    have hb' : b = n := by simpa using hb
    rw [g.shown] at ha
    have := (h.shown a ha).2
    rw [hb']
    omega
  · show (s1.shown ++ [n]).length ≤ s1.names.length
    rw [List.length_append, g.shown]
    have := h.fits
    simp only [List.length_singleton]
    omega
theorem skip_inv {k : Int} {t : List UInt8} {s : St} (h : Inv s) : Inv (skip k t s).2 := h.grow (skip_grow h.nm)
theorem skip_total {k : Int} {t : List UInt8} {s : St} : total (skip k t s).2 = total s ∧ (skip k t s).2.shown = s.shown := by
  unfold skip
  split
  · split <;> exact ⟨rfl, rfl⟩
  · exact ⟨rfl, rfl⟩
theorem shows_inv : ∀ (f : Nat) {s s' : St}, Inv s → shows last f s = .ok () s' → Inv s' ∧ total s' = total s ∧ s.shown.length ≤ s'.shown.length
  | 0, s, s', h, hr => by
    unfold shows at hr
    injection hr with _ hr
    subst hr
    exact ⟨h, rfl, Nat.le_refl _⟩
  | f + 1, s, s', h, hr => by
    unfold shows at hr
    have hk := skip_inv (k := 3) (t := [44]) h
    have ht := skip_total (k := 3) (t := [44]) (s := s)
    split at hr
    · rename_i s1 e1
      rw [e1] at hk ht
      have ht1 : total s1 = total s := ht.1
      have ht2 : s1.shown = s.shown := ht.2
      obtain ⟨_, s2, e2, e3⟩ := bind_ok hr
      obtain ⟨i2, t2, l2⟩ := showOne_inv last hk e2
      obtain ⟨i3, t3, l3⟩ := shows_inv f i2 e3
      rw [ht2] at l2
      exact ⟨i3, by omega, by omega⟩
    · rename_i s1 e1
      rw [e1] at hk ht
      injection hr with _ hr
      subst hr
      simp only at ht
      exact ⟨hk, ht.1, by rw [ht.2]; exact Nat.le_refl _⟩
theorem kind_inv {s : St} (h : Inv s) : Inv (kind s).2 ∧ total (kind s).2 = total s ∧ (kind s).2.shown = s.shown ∧ ((kind s).1 ≠ 0 → 1 ≤ (kind s).1 ∧ (kind s).1 ≤ 12) ∧ ((kind s).1 = 0 → (kind s).2 = s) := by
  unfold kind
  split
  · rename_i t r e
    split
    · rename_i hk
      refine ⟨h.grow (grow_toks h.nm e), rfl, rfl, fun _ => ⟨by omega, ?_⟩, fun h0 => absurd h0 hk.2⟩
      unfold kindOf
      split
      · rename_i i hi
        have := (List.findIdx?_eq_some_iff_getElem.1 hi).1
        have h12 : kindWords.length = 12 := rfl
        omega
      · omega
    · exact ⟨h, rfl, rfl, fun h0 => absurd rfl h0, fun _ => rfl⟩
  · exact ⟨h, rfl, rfl, fun h0 => absurd rfl h0, fun _ => rfl⟩
theorem cond_inv {s s' : St} (h : Inv s) (hr : cond last s = .ok () s') : Inv s' ∧ total s' = total s + 1 ∧ s'.shown = s.shown := by
  obtain ⟨hk, ht, hs, h12, _⟩ := kind_inv h
  unfold cond at hr
  split at hr
  · rename_i s1 e1
    rw [e1] at hk ht hs
    have ht1 : s1.atoms.length + s1.tests.length = s.atoms.length + s.tests.length := ht
    obtain ⟨i, a1, a2, a3⟩ := test_inv last (show Inv s1 from hk) hr
    unfold total
    exact ⟨i, by omega, a3.trans hs⟩
  · rename_i k s1 hne e1
    rw [e1] at hk ht hs h12
    have hk0 : k ≠ 0 := fun e => hne e
    obtain ⟨q1, q2⟩ := h12 hk0
    simp only at q1 q2
    have ht1 : s1.atoms.length + s1.tests.length = s.atoms.length + s.tests.length := ht
    obtain ⟨i, a1, a2, a3⟩ := atom_inv last (by omega) (show Inv s1 from hk) hr
    unfold total
    exact ⟨i, by omega, a3.trans hs⟩
theorem conds_inv : ∀ (f : Nat) {s s' : St}, Inv s → total s < 16 → conds last f s = .ok () s' → Inv s' ∧ total s ≤ total s' ∧ total s' ≤ 16 ∧ s'.shown = s.shown ∧ (0 < f → total s + 1 ≤ total s')
  | 0, s, s', h, h16, hr => by
    unfold conds at hr
    injection hr with _ hr
    subst hr
    exact ⟨h, Nat.le_refl _, by omega, rfl, fun h0 => absurd h0 (by omega)⟩
  | f + 1, s, s', h, h16, hr => by
    unfold conds at hr
    obtain ⟨_, s1, e1, hr⟩ := bind_ok hr
    obtain ⟨i1, t1, sh1⟩ := cond_inv last h e1
    have hk := skip_inv (k := 3) (t := [44]) i1
    have ht := skip_total (k := 3) (t := [44]) (s := s1)
    split at hr
    · rename_i s2 e2
      rw [e2] at hk ht
      simp only at hk ht
      split at hr
      · unfold fail at hr; cases hr
      · rename_i hn
        have hn' : ¬ total s1 = 16 := hn
        obtain ⟨i3, a1, a2, a3, _⟩ := conds_inv f hk (by omega) hr
        exact ⟨i3, by omega, a2, by rw [a3, ht.2, sh1], fun _ => by omega⟩
    · rename_i s2 e2
      rw [e2] at hk ht
      simp only at hk ht
      injection hr with _ hr
      subst hr
      exact ⟨hk, by omega, by omega, by rw [ht.2, sh1], fun _ => by omega⟩
theorem need_inv {k : Int} {t : List UInt8} {s s' : St} (h : Inv s) (hr : need last k t s = .ok () s') : Inv s' ∧ total s' = total s ∧ s'.shown = s.shown := by
  have g := need_grow last h.nm hr
  refine ⟨h.grow g, ?_, g.shown⟩
  unfold total
  rw [g.atoms, g.tests]
theorem parseT_inv {l : List Tok} {s' : St} (hl : ∀ t ∈ l, Lx.valid t = true) (hr : parseT last ⟨l, [], [], [], []⟩ = .ok () s') : Inv s' ∧ 1 ≤ total s' ∧ total s' ≤ 16 ∧ 1 ≤ s'.shown.length := by
  have h0 : Inv ⟨l, [], [], [], []⟩ := ⟨⟨by simp, by simp, List.nodup_nil, hl⟩, fun n hn => by simp at hn, List.nodup_nil, by simp, fun x hx => by simp at hx, fun x hx => by simp at hx⟩
  unfold parseT at hr
  obtain ⟨_, s1, e1, hr⟩ := bind_ok hr
  obtain ⟨_, s2, e2, hr⟩ := bind_ok hr
  obtain ⟨_, s3, e3, hr⟩ := bind_ok hr
  obtain ⟨_, s4, e4, hr⟩ := bind_ok hr
  obtain ⟨_, s5, e5, hr⟩ := bind_ok hr
  obtain ⟨_, s6, e6, hr⟩ := bind_ok hr
  have h6 : s6 = s' := by
    split at hr
    · injection hr
    · unfold fail at hr; cases hr
  subst h6
  obtain ⟨i1, t1, q1⟩ := need_inv last h0 e1
  obtain ⟨i2, t2, q2⟩ := showOne_inv last i1 e2
  obtain ⟨i3, t3, q3⟩ := shows_inv last _ i2 e3
  obtain ⟨i4, t4, q4⟩ := need_inv last i3 e4
  have h00 : total ⟨l, [], [], [], []⟩ = 0 := rfl
  obtain ⟨i5, a1, a2, q5, a3⟩ := conds_inv last _ i4 (by omega) e5
  obtain ⟨i6, t6, q6⟩ := need_inv last i5 e6
  have := a3 (by omega)
  exact ⟨i6, by omega, by omega, by rw [q6, q5, q4]; omega⟩
end
end Go.Proofs.YtocelmjncjompaaDoor.Qy

namespace Go.Proofs.YtocelmjncjompaaDoor.Qy
open Lx

structure Met (m : List Int) (s : St) : Prop where
  nodup : m.Nodup
  inside : VarsIn m s
/-- One step of renumbering, or several, seen from outside. -/
structure Num (s : St) (m m' : List Int) (new : List Int) : Prop where
  met : Met m' s
  len : m.length ≤ m'.length
  order : ∀ (top : Int) (rest : List Int), (m'.length : Int) ≤ top → order top m.length (new ++ rest) = order top m'.length rest
theorem Num.trans {s : St} {a b c : List Int} {l l' : List Int} (h : Num s a b l) (h' : Num s b c l') : Num s a c (l ++ l') :=
  ⟨h'.met, Nat.le_trans h.len h'.len, fun top rest ht => by
    have := h'.len
    rw [List.append_assoc, h.order top _ (by omega), h'.order top rest ht]⟩
theorem num_nil {s : St} {m : List Int} (h : Met m s) : Num s m m [] := ⟨h, Nat.le_refl _, fun _ _ _ => rfl⟩
theorem ix_num {s : St} {m : List Int} {n : Int} (h : Met m s) (hn : 0 ≤ n ∧ n < s.names.length) : Num s m (ix m n).2 [(ix m n).1] := by
  unfold ix
  split
  · rename_i i hi
    have hlt := (List.findIdx?_eq_some_iff_getElem.1 hi).1
    refine ⟨h, Nat.le_refl _, fun top rest ht => ?_⟩
    show Qy.order top m.length ((i : Int) :: rest) = _
    rw [Qy.order, if_neg (by simp only at ht; omega), if_neg (by omega)]
  · rename_i hi
    have hlen : (m ++ [n]).length = m.length + 1 := by simp
    refine ⟨⟨?_, varsIn_app h.inside (fun k hk => by have : k = n := by simpa using hk
                                                     rw [this]; exact hn)⟩, by show m.length ≤ (m ++ [n]).length; omega, fun top rest ht => ?_⟩
    · show (m ++ [n]).Nodup
      rw [List.nodup_append]
      refine ⟨h.nodup, by simp, fun a ha b hb => ?_⟩
      have hb' : b = n := by simpa using hb
      rw [List.findIdx?_eq_none_iff] at hi
      have := hi a ha
      simp only [beq_eq_false_iff_ne] at this
      rw [hb']; exact this
    · show Qy.order top m.length ((m.length : Int) :: rest) = Qy.order top (m ++ [n]).length rest
      have ht' : ((m ++ [n]).length : Int) ≤ top := ht
      rw [Qy.order, if_neg (by omega), if_pos rfl, hlen]
      congr 1
theorem ixList_num {s : St} : ∀ (l m : List Int), Met m s → VarsIn l s → Num s m (ixList m l).2 (ixList m l).1
  | [], m, h, _ => num_nil h
  | n :: l, m, h, hl => by
    have h1 := ix_num h (hl n (by simp))
    have h2 := ixList_num l (ix m n).2 h1.met (fun k hk => hl k (List.mem_cons_of_mem _ hk))
    have e : ixList m (n :: l) = ((ix m n).1 :: (ixList (ix m n).2 l).1, (ixList (ix m n).2 l).2) := rfl
    rw [e]
    exact h1.trans h2
theorem ixArg_num {s : St} {m : List Int} {a : Arg} (h : Met m s) (ha : VarsIn a.vars s) : Num s m (ixArg m a).2 (ixArg m a).1.vars ∧ (ArgOk a → ArgOk (ixArg m a).1) := by
  obtain ⟨v, n⟩ := a
  cases v with
  | true =>
    have h1 := ix_num h (ha n (by simp [Arg.vars]))
    exact ⟨h1, fun _ => Or.inl rfl⟩
  | false => exact ⟨num_nil h, fun h => h⟩
theorem ixAtoms_num {s : St} : ∀ (l : List Atom) (m : List Int), Met m s → (∀ x ∈ l, AtomOk x ∧ VarsIn x.vars s) →
    Num s m (ixAtoms m l).2 ((ixAtoms m l).1.flatMap Atom.vars) ∧ (∀ x ∈ (ixAtoms m l).1, AtomOk x) ∧ (ixAtoms m l).1.length = l.length
  | [], m, h, _ => ⟨num_nil h, fun x hx => absurd hx (by simp [ixAtoms]), rfl⟩
  | x :: l, m, h, hl => by
    obtain ⟨hx, hv⟩ := hl x (by simp)
    obtain ⟨c1, c2, c3, c4, c5, c6, c7, c8, c9⟩ := hx
    have v1 : VarsIn x.subj.vars s := fun k hk => hv k (by simp [Atom.vars, hk])
    have v2 : VarsIn x.obj.vars s := fun k hk => hv k (by simp [Atom.vars, hk])
    have v3 : VarsIn x.val.vars s := fun k hk => hv k (by simp [Atom.vars, hk])
    obtain ⟨n1, a1⟩ := ixArg_num h v1
    obtain ⟨n2, a2⟩ := ixArg_num n1.met v2
    obtain ⟨n3, a3⟩ := ixArg_num n2.met v3
    obtain ⟨n4, a4, a5⟩ := ixAtoms_num l _ n3.met (fun y hy => hl y (List.mem_cons_of_mem _ hy))
    let m1 := (ixArg m x.subj).2
    let m2 := (ixArg m1 x.obj).2
    let m3 := (ixArg m2 x.val).2
    have e : ixAtoms m (x :: l) = (⟨x.kind, (ixArg m x.subj).1, (ixArg m1 x.obj).1, (ixArg m2 x.val).1, x.term, x.known⟩ :: (ixAtoms m3 l).1, (ixAtoms m3 l).2) := rfl
    rw [e]
    refine ⟨?_, fun y hy => ?_, by simp only [List.length_cons]; rw [a5]⟩
    · have := (n1.trans (n2.trans n3)).trans n4
      exact this
    · rcases List.mem_cons.1 hy with rfl | hy
      · exact ⟨c1, c2, c3, c4, c5, c6, a1 c7, a2 c8, a3 c9⟩
      · exact a4 y hy
theorem ixTests_num {s : St} : ∀ (l : List Test) (m : List Int), Met m s → (∀ x ∈ l, TestOk x ∧ VarsIn x.vars s) →
    Num s m (ixTests m l).2 ((ixTests m l).1.flatMap Test.vars) ∧ (∀ x ∈ (ixTests m l).1, TestOk x) ∧ (ixTests m l).1.length = l.length
  | [], m, h, _ => ⟨num_nil h, fun x hx => absurd hx (by simp [ixTests]), rfl⟩
  | x :: l, m, h, hl => by
    obtain ⟨hx, hv⟩ := hl x (by simp)
    obtain ⟨c1, c2, c7, c8⟩ := hx
    have v1 : VarsIn x.a.vars s := fun k hk => hv k (by simp [Test.vars, hk])
    have v2 : VarsIn x.b.vars s := fun k hk => hv k (by simp [Test.vars, hk])
    obtain ⟨n1, a1⟩ := ixArg_num h v1
    obtain ⟨n2, a2⟩ := ixArg_num n1.met v2
    obtain ⟨n4, a4, a5⟩ := ixTests_num l _ n2.met (fun y hy => hl y (List.mem_cons_of_mem _ hy))
    let m1 := (ixArg m x.a).2
    let m2 := (ixArg m1 x.b).2
    have e : ixTests m (x :: l) = (⟨x.op, (ixArg m x.a).1, (ixArg m1 x.b).1⟩ :: (ixTests m2 l).1, (ixTests m2 l).2) := rfl
    rw [e]
    refine ⟨?_, fun y hy => ?_, by simp only [List.length_cons]; rw [a5]⟩
    · have := (n1.trans n2).trans n4
      exact this
    · rcases List.mem_cons.1 hy with rfl | hy
      · exact ⟨c1, c2, a1 c7, a2 c8⟩
      · exact a4 y hy

/-- Different variables get consecutive numbers. -/
theorem ixList_fresh : ∀ (l m : List Int), l.Nodup → (∀ n ∈ l, n ∉ m) → ixList m l = ((List.range l.length).map (fun (i : Nat) => ((m.length + i : Nat) : Int)), m ++ l)
  | [], m, _, _ => by simp [ixList]
  | n :: l, m, hd, hm => by
    rw [List.nodup_cons] at hd
    have hi : m.findIdx? (· == n) = none := by
      rw [List.findIdx?_eq_none_iff]
      intro x hx
      simp only [beq_eq_false_iff_ne]
      intro e
      exact hm n (by simp) (e ▸ hx)
    have e1 : ix m n = ((m.length : Int), m ++ [n]) := by unfold ix; rw [hi]
    have ih := ixList_fresh l (m ++ [n]) hd.2 (fun k hk hkm => by
      rcases List.mem_append.1 hkm with h | h
      · exact hm k (List.mem_cons_of_mem _ hk) h
      · have : k = n := by simpa using h
        exact hd.1 (this ▸ hk))
    unfold ixList
    rw [e1]
    simp only
    rw [ih]
    simp only [List.length_cons, List.range_succ_eq_map, List.map_cons, List.map_map, List.length_append, List.length_nil, List.append_assoc, List.singleton_append, Prod.mk.injEq, and_true]
    congr 1
    apply List.map_congr_left
    intro i _
    simp only [Function.comp]
    omega
end Go.Proofs.YtocelmjncjompaaDoor.Qy

namespace Go.Proofs.YtocelmjncjompaaDoor.Qy
open Lx

theorem room : ∀ (k : Nat) (l : List Int), l.Nodup → (∀ n ∈ l, 0 ≤ n ∧ n < (k : Int)) → l.length ≤ k
  | 0, l, _, h => by
    cases l with
    | nil => simp
    | cons a l => have := h a (by simp); omega
  | k + 1, l, hd, h => by
    have h1 := room k (l.erase (k : Int)) (hd.erase _) (fun n hn => by
      obtain ⟨a, b⟩ := (List.Nodup.mem_erase_iff hd).1 hn
      have := h n b
      omega)
    by_cases hm : (k : Int) ∈ l
    · rw [List.length_erase_of_mem hm] at h1
      omega
    · rw [List.erase_of_not_mem hm] at h1
      omega

theorem parse_again {l : List Tok} {last : Int} {q : Query} (hl : ∀ t ∈ l, Lx.valid t = true) (h : parseToks l last = .ok q) : valid q = true := by
  unfold parseToks at h
  split at h
  · rename_i s hp
    obtain ⟨inv, c1, c2, s1⟩ := parseT_inv last hl hp
    injection h with h
    have hmet0 : Met [] s := ⟨List.nodup_nil, fun n hn => by simp at hn⟩
    have n1 := ixList_num s.shown [] hmet0 inv.shown
    obtain ⟨n2, a2, l2⟩ := ixAtoms_num s.atoms _ n1.met inv.atoms
    obtain ⟨n3, a3, l3⟩ := ixTests_num s.tests _ n2.met inv.tests
    have hfresh := ixList_fresh s.shown [] inv.distinct (fun n _ hn => by simp at hn)
    have hq : q = ⟨(ixTests (ixAtoms (ixList [] s.shown).2 s.atoms).2 s.tests).2.map (fun i => s.names.getD i.toNat []), (ixList [] s.shown).1, (ixAtoms (ixList [] s.shown).2 s.atoms).1, (ixTests (ixAtoms (ixList [] s.shown).2 s.atoms).2 s.tests).1⟩ := h.symm
    obtain ⟨m3, hm3⟩ : ∃ m3, m3 = (ixTests (ixAtoms (ixList [] s.shown).2 s.atoms).2 s.tests).2 := ⟨_, rfl⟩
    have hnum := (n1.trans n2).trans n3
    rw [← hm3] at hnum hq n3
    have hroom := room s.names.length m3 n3.met.nodup n3.met.inside
    have hget : ∀ i ∈ m3, ∃ hi : i.toNat < s.names.length, s.names.getD i.toNat [] = s.names[i.toNat] := fun i hi => by
      obtain ⟨b0, b1⟩ := n3.met.inside i hi
      have hlt : i.toNat < s.names.length := by omega
      exact ⟨hlt, by simp [List.getD, List.getElem?_eq_getElem hlt]⟩
    have hsl : (ixList [] s.shown).1.length = s.shown.length := by rw [hfresh]; simp
    have hf := inv.fits
    have h8 := inv.nm.few
    apply ok_valid
    rw [hq]
    refine ⟨?_, ?_, ?_, ?_, ?_, ?_, ?_, ?_, ?_, ?_, ?_, ?_⟩
    · show (m3.map _).length ≤ 8
      rw [List.length_map]; omega
    · show 1 ≤ (ixList [] s.shown).1.length
      omega
    · show (ixList [] s.shown).1.length ≤ 8
      omega
    · show 1 ≤ (ixAtoms _ s.atoms).1.length + (ixTests _ s.tests).1.length
      rw [l2, l3]; exact c1
    · show (ixAtoms _ s.atoms).1.length + (ixTests _ s.tests).1.length ≤ 16
      rw [l2, l3]; exact c2
    · intro n hn
      obtain ⟨i, hi, rfl⟩ := List.mem_map.1 hn
      obtain ⟨hlt, e⟩ := hget i hi
      show isName (s.names.getD i.toNat []) = true ∧ kindOf (s.names.getD i.toNat []) = 0
      rw [e]
      exact inv.nm.names _ (List.getElem_mem _)
    · show (m3.map _).Nodup
      unfold List.Nodup
      rw [List.pairwise_map]
      refine List.Pairwise.imp_of_mem ?_ n3.met.nodup
      intro a b ha hb hab e
      obtain ⟨h1, e1⟩ := hget a ha
      obtain ⟨h2, e2⟩ := hget b hb
      rw [e1, e2] at e
      have := nodup_inj inv.nm.nodup h1 h2 e
      obtain ⟨a0, _⟩ := n3.met.inside a ha
      obtain ⟨b0, _⟩ := n3.met.inside b hb
      exact hab (by omega)
    · show (ixList [] s.shown).1.Nodup
      rw [hfresh]
      simp only
      unfold List.Nodup
      rw [List.pairwise_map]
      refine List.Pairwise.imp ?_ (List.nodup_range (n := s.shown.length))
      intro a b hab e
      exact hab (by omega)
    · intro x hx
      obtain ⟨c1, c2, c3, c4, c5, c6, _⟩ := a2 x hx
      exact ⟨c1, c2, c3, c4, c5, c6⟩
    · intro x hx
      obtain ⟨c1, c2, _⟩ := a3 x hx
      exact ⟨c1, c2⟩
    · intro a ha
      unfold Query.args at ha
      rcases List.mem_append.1 ha with ha | ha
      · obtain ⟨x, hx, hxa⟩ := List.mem_flatMap.1 ha
        obtain ⟨_, _, _, _, _, _, c7, c8, c9⟩ := a2 x hx
        simp only [List.mem_cons, List.not_mem_nil, or_false] at hxa
        rcases hxa with rfl | rfl | rfl
        · exact c7
        · exact c8
        · exact c9
      · obtain ⟨x, hx, hxa⟩ := List.mem_flatMap.1 ha
        obtain ⟨_, _, c7, c8⟩ := a3 x hx
        simp only [List.mem_cons, List.not_mem_nil, or_false] at hxa
        rcases hxa with rfl | rfl
        · exact c7
        · exact c8
    · show order (m3.map _).length 0 (Query.vars _) = some ((m3.map _).length : Int)
      unfold Query.vars
      rw [args_vars, List.length_map]
      have := hnum.order m3.length [] (by omega)
      simp only [List.append_nil, List.append_assoc] at this
      rw [show (([] : List Int).length : Int) = 0 from rfl] at this
      rw [this, order]
  · cases h
end Go.Proofs.YtocelmjncjompaaDoor.Qy

namespace Go.Proofs.YtocelmjncjompaaDoor
open Go.RowKit Go.Maps Go.WideMaps

theorem snoc_ind {α : Type} {p : List α → Prop} (h0 : p []) (hs : ∀ l a, p l → p (l ++ [a])) : ∀ l, p l := by
  have h : ∀ l : List α, p l.reverse := fun l => by
    induction l with
    | nil => exact h0
    | cons a r ih => rw [List.reverse_cons]; exact hs _ _ ih
  intro l
  have := h l.reverse
  rwa [List.reverse_reverse] at this
/-- The map of the numbers of those that were met. -/
def Qy.mapD (m : List Int) : DataW Unit := m.zipIdx.foldl (fun D p => D.put (.int .i64 p.1) (.lit (.int .i64 (p.2 : Nat)))) (.map [])
theorem Qy.mapD_snoc (m : List Int) (n : Int) : Qy.mapD (m ++ [n]) = (Qy.mapD m).put (.int .i64 n) (.lit (.int .i64 (m.length : Nat))) := by
  unfold Qy.mapD
  rw [List.zipIdx_append, List.foldl_append]
  simp
theorem Qy.mapD_tidy (m : List Int) : Tidy (Qy.mapD m) := by
  refine snoc_ind (p := fun m => Tidy (Qy.mapD m)) tidy_empty (fun m n ih => ?_) m
  show Tidy (Qy.mapD (m ++ [n]))
  rw [Qy.mapD_snoc]; exact ih.put (show WideAt.IsKeyLit (.int .i64 n) from trivial) _
theorem Qy.idx_snoc (m : List Int) (x n : Int) : (m ++ [x]).findIdx? (· == n) = match m.findIdx? (· == n) with | some i => some i | none => if x = n then some m.length else none := by
  rw [List.findIdx?_append]
  cases h : m.findIdx? (· == n) with
  | some i => rfl
  | none =>
    by_cases e : x = n
    · simp [e]
    · simp [e]
theorem Qy.mapD_at (m : List Int) (n : Int) (hnd : m.Nodup) (z : DataW Unit) : (Qy.mapD m).atKey (.int .i64 n) z = match m.findIdx? (· == n) with | some i => .lit (.int .i64 (i : Nat)) | none => z := by
  revert hnd
  refine snoc_ind (p := fun m => m.Nodup → (Qy.mapD m).atKey (.int .i64 n) z = match m.findIdx? (· == n) with | some i => .lit (.int .i64 (i : Nat)) | none => z) (fun _ => rfl) (fun m x ih hnd => ?_) m
  · have hnd' := List.nodup_append.1 hnd
    rw [Qy.mapD_snoc, Qy.idx_snoc]
    by_cases e : x = n
    · subst e
      rw [atKey_put_same (Qy.mapD_tidy m).isMap (show WideAt.IsKeyLit (.int .i64 x) from trivial)]
      have : m.findIdx? (· == x) = none := by
        rw [List.findIdx?_eq_none_iff]
        intro y hy
        have := hnd'.2.2 y hy x (by simp)
        simpa using this
      rw [this]
      simp
    · rw [atKey_put_other (by intro h; injection h with _ h; exact e h.symm), ih hnd'.1]
      cases m.findIdx? (· == n) with
      | some i => rfl
      | none => rw [if_neg e]
theorem Qy.mapD_has (m : List Int) (n : Int) (hnd : m.Nodup) : has (Qy.mapD m) (.int .i64 n) = (m.findIdx? (· == n)).isSome := by
  have h := Qy.mapD_at m n hnd
  cases hi : m.findIdx? (· == n) with
  | some i => exact has_true_of_atKey (fun z => by rw [h z, hi])
  | none => exact has_false_of_atKey (fun z => by rw [h z, hi])
theorem Qy.mapD_size (m : List Int) (hnd : m.Nodup) : size (Qy.mapD m) = m.length := by
  revert hnd
  refine snoc_ind (p := fun m => m.Nodup → size (Qy.mapD m) = m.length) (fun _ => rfl) (fun m x ih hnd => ?_) m
  · have hnd' := List.nodup_append.1 hnd
    rw [Qy.mapD_snoc, size_put (Qy.mapD_tidy m), Qy.mapD_has m x hnd'.1, ih hnd'.1]
    have : m.findIdx? (· == x) = none := by
      rw [List.findIdx?_eq_none_iff]
      intro y hy
      have := hnd'.2.2 y hy x (by simp)
      simpa using this
    rw [this]
    simp

theorem Qy.ixList_snoc : ∀ (l : List Int) (m : List Int) (n : Int), Qy.ixList m (l ++ [n]) = ((Qy.ixList m l).1 ++ [(Qy.ix (Qy.ixList m l).2 n).1], (Qy.ix (Qy.ixList m l).2 n).2)
  | [], m, n => rfl
  | x :: r, m, n => by
    show ((Qy.ix m x).1 :: (Qy.ixList (Qy.ix m x).2 (r ++ [n])).1, (Qy.ixList (Qy.ix m x).2 (r ++ [n])).2) = _
    rw [Qy.ixList_snoc r _ n]
    rfl
theorem Qy.ixList_len : ∀ (l : List Int) (m : List Int), (Qy.ixList m l).1.length = l.length
  | [], _ => rfl
  | x :: r, m => by
    show ((Qy.ix m x).1 :: (Qy.ixList (Qy.ix m x).2 r).1).length = _
    rw [List.length_cons, Qy.ixList_len r, List.length_cons]
theorem Qy.ixList_app : ∀ (a : List Int) (m b : List Int), Qy.ixList m (a ++ b) = ((Qy.ixList m a).1 ++ (Qy.ixList (Qy.ixList m a).2 b).1, (Qy.ixList (Qy.ixList m a).2 b).2)
  | [], m, b => rfl
  | x :: r, m, b => by
    show ((Qy.ix m x).1 :: (Qy.ixList (Qy.ix m x).2 (r ++ b)).1, (Qy.ixList (Qy.ix m x).2 (r ++ b)).2) = _
    rw [Qy.ixList_app r]
    rfl
theorem Qy.ixArg_list (m : List Int) (a : Qy.Arg) : Qy.ixArg m a = (⟨a.var, ((Qy.ixList m a.vars).1).headD a.n⟩, (Qy.ixList m a.vars).2) := by
  obtain ⟨v, n⟩ := a
  cases v <;> rfl
end Go.Proofs.YtocelmjncjompaaDoor

namespace Go.Proofs.YtocelmjncjompaaDoor
open Go.RowKit Go.Maps Go.WideMaps

/-- A row grows: the parser's block and what lies below are as they were. -/
theorem grow_rest {g B mb : Nat} {A : Option Addr} {l : List Lx.Tok} {v : Value} {cs : Array Value} {w w1 w2 : World} {base sz n : Nat} {e : TypeId} {xs : List Value} (hb : Blk w g 105 cs) (hT : Toks w B A l) (hk : KindsAt w mb) (hm : mb < g) (hB : B ≤ g)
    (hown : w.ownsRow g e sz v n xs) (he : e ≠ 105) (h1 : Below w.heap.size w w1) (hgrow : w1.grownBy w2 v.ownBlock) (hbase : base = g) :
    Blk w2 g 105 cs ∧ Toks w2 B A l ∧ KindsAt w2 mb ∧ Below (g + 1) w w2 := by
  have hlt := hb.lt
  have hne := own_ne hown hb he
  have hbel : Below (g + 1) w w2 := Below.grown (h1.mono (by omega)) hgrow (by have := h1.size; omega) (fun k hk => by
    have h2 := (World.ownsRow.lt hown k hk).1
    rcases Nat.lt_or_ge g k with h3 | h3
    · exact h3
    · obtain rfl : k = g := by omega
      exact absurd hk hne)
  exact ⟨hb.below hbel (by omega), hT.below hbel (by omega), hk.under hbel (by omega), hbel⟩

theorem PSt.drewN {g B mb : Nat} {last : Int} {s : Qy.St} {w : World} (h : PSt g B mb last s w) (n : Nat) : PSt g B mb last s (w.drewN n) := by
  obtain ⟨⟨A, c, vN, vS, vA, vT, h1, h2, h3, h4⟩, hk, hm, hB, hf, ht⟩ := h
  exact ⟨⟨A, c, vN, vS, vA, vT, h1, h2.drewN n, h3, ⟨h4.n, h4.s, h4.a, h4.t⟩⟩, hk, hm, hB, hf, ht⟩
set_option maxRecDepth 20000 in
set_option maxHeartbeats 1000000 in
theorem lKind (g B mb : Nat) (last : Int) (s : Qy.St) (w : World) (h : PSt g B mb last s w) :
    Calls Tryd.prog 86 #[.pointer (some ⟨g, 0, none⟩)] w fun e w' => e = .returned (.tuple #[.int .i64 ((Qy.kind s).1 : Nat), .bool (Qy.kOk (Qy.kind s).1)]) ∧ PSt g B mb last (Qy.kind s).2 w' ∧ Fr g w w' := by
  have Hsame := Lib.hid h
  obtain ⟨⟨A, c, vN, vS, vA, vT, hb, hT, hcap, ho⟩, hk, hm, hB, hf, htx⟩ := h
  obtain ⟨toks, names, shown, atoms, tests⟩ := s
  simp only at hb hT hcap ho hf htx
  have c0 := hb.cell 0; have c2 := hb.cell 2
  have f0 := hb.free 0
  simp at c0 c2
  obtain ⟨R, hR⟩ : ∃ R, R = Qy.kind ⟨toks, names, shown, atoms, tests⟩ := ⟨_, rfl⟩
  rw [← hR]
  cases toks with
  | nil =>
    have HR : Hid (R = (0, ⟨[], names, shown, atoms, tests⟩)) := Lib.hid hR
    clear hR hb hT ho hk htx hm hB hf
    go_enter Tryd.func86, Tryd.ntmps86
    go_wp2_with fail
    go_ret2
    exact ⟨by rw [HR.out]; rfl, by rw [HR.out]; exact Hsame.out, Fr.refl _ _⟩
  | cons t r =>
    obtain ⟨b, o, rfl, hbB, q0, q1, q2, q3⟩ := hT.at_ 0 t rfl
    have htt := hT.texts t (by simp)
    have hl := hT.len
    simp only [List.length_cons] at hl c0 hcap
    simp only [Nat.zero_mul, Nat.add_zero] at q0 q1 q2 q3
    have hlook := fun n => KindsAt.look2 (w := w.drewN n) hk (Lx.bs t.text) (by rw [Lx.bs_size]; unfold maxLen; omega)
    rw [Lx.bs_list] at hlook
    have Hc := Lib.hid (fun n => pst_cut (w := w.drewN n) hb (hT.drewN n) ⟨ho.n, ho.s, ho.a, ho.t⟩ hk hm hB hf htx)
    clear hb hT ho hk htx hf
    cases hk2 : t.kind != 1
    · have hk1 : t.kind = 1 := by simpa using hk2
      obtain ⟨K, hK⟩ : ∃ K, K = Qy.kindOf t.text := ⟨_, rfl⟩
      rw [← hK] at hlook
      cases hd : Qy.kOk K
      · rw [hd] at hlook
        have Hlook := Lib.hid hlook
        clear hlook
        have HR : Hid (R = (0, ⟨t :: r, names, shown, atoms, tests⟩) ∧ K = 0) := Lib.hid (by
          have : K = 0 := by simpa [Qy.kOk] using hd
          refine ⟨?_, this⟩
          rw [hR]; unfold Qy.kind; simp only; rw [if_neg (by rw [← hK]; simp [this])])
        clear hR hK hk1 hd
        go_enter Tryd.func86, Tryd.ntmps86
        go_wp2_with fail
        have hlook := Hlook.out
        go_quiet (fail)
        clear hlook
        go_wp2_with fail
        go_ret2
        exact ⟨by rw [HR.out.1, HR.out.2]; rfl, by rw [HR.out.1]; exact Hsame.out.drewN _, Fr.drewN _ _ _⟩
      · rw [hd] at hlook
        have Hlook := Lib.hid hlook
        clear hlook
        have HR : Hid (R = (K, ⟨r, names, shown, atoms, tests⟩) ∧ Qy.kOk K = true) := Lib.hid (by
          refine ⟨?_, hd⟩
          rw [hR]; unfold Qy.kind; simp only; rw [if_pos ⟨hk1, by rw [← hK]; simpa [Qy.kOk] using hd⟩, ← hK])
        clear hR hK hk1 hd
        have hne : b ≠ g := by omega
        go_enter Tryd.func86, Tryd.ntmps86
        go_wp2_with fail
        have hlook := Hlook.out
        go_quiet (fail)
        clear hlook
        go_wp2_with fail
        · rename_i hc1
          have hr : r = [] := List.eq_nil_of_length_eq_zero (by omega)
          go_ret2
          rw [HR.out.1]
          have hE := HR.out.2
          refine ⟨by show _ = Ending.returned (.tuple #[.int .i64 (K : Nat), .bool (Qy.kOk K)]); rw [hE]; rfl, ?_⟩
          have hF := Hc.out nq b o 0 (fun h => absurd hr h) (by rw [hr]; exact Nat.le_refl 0)
          exact ⟨by simpa using hF.1, Fr.draw (by simpa using hF.2)⟩
        · go_ret2
          rw [HR.out.1]
          have hE := HR.out.2
          refine ⟨by show _ = Ending.returned (.tuple #[.int .i64 (K : Nat), .bool (Qy.kOk K)]); rw [hE]; rfl, ?_⟩
          have hF := Hc.out nq b (o + 4) (c - 1) (fun _ => ⟨rfl, rfl⟩) (by omega)
          exact ⟨by simpa using hF.1, Fr.draw (by simpa using hF.2)⟩
    · have HR : Hid (R = (0, ⟨t :: r, names, shown, atoms, tests⟩)) := Lib.hid (by rw [hR]; unfold Qy.kind; simp only; rw [if_neg (by simp at hk2; simp [hk2])])
      clear hR hlook
      go_enter Tryd.func86, Tryd.ntmps86
      go_wp2_with fail
      go_ret2
      exact ⟨by rw [HR.out]; rfl, by rw [HR.out]; exact Hsame.out, Fr.refl _ _⟩
end Go.Proofs.YtocelmjncjompaaDoor
