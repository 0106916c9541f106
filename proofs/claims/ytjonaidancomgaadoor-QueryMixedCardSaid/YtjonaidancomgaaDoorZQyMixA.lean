/- Parts of the proof, joined into one text: QyMixA, QyLead, LxExt. -/
import Derived.Test.YtjonaidancomgaaDoorZQyAgain
import Derived.Test.YtjonaidancomgaaDoorZQyBack
import Derived.Test.YtjonaidancomgaaDoorZLxPlain

namespace Go.Proofs.YtjonaidancomgaaDoor.Qy
open Lx

/-- The new number of a variable: its first place in a list. -/
def ren (M : List Int) (n : Int) : Int := (((M.findIdx? (· == n)).getD 0 : Nat) : Int)
def Arg.ren (M : List Int) (a : Arg) : Arg := if a.var then ⟨true, Qy.ren M a.n⟩ else a
def Atom.ren (M : List Int) (x : Atom) : Atom := ⟨x.kind, x.subj.ren M, x.obj.ren M, x.val.ren M, x.term, x.known⟩
def Test.ren (M : List Int) (x : Test) : Test := ⟨x.op, x.a.ren M, x.b.ren M⟩
def Item.ren (M : List Int) : Item → Item
  | .at_ x => .at_ (x.ren M)
  | .te x => .te (x.ren M)

theorem ren_get {M : List Int} {n : Int} (h : n ∈ M) : 0 ≤ ren M n ∧ M[(ren M n).toNat]? = some n ∧ ren M n < M.length := by
  unfold ren
  cases hi : M.findIdx? (· == n) with
  | none =>
    rw [List.findIdx?_eq_none_iff] at hi
    have := hi n h
    simp at this
  | some i =>
    obtain ⟨hlt, he, _⟩ := List.findIdx?_eq_some_iff_getElem.1 hi
    simp only [beq_iff_eq] at he
    simp only [Option.getD_some, Int.toNat_natCast]
    refine ⟨by omega, ?_, by omega⟩
    rw [List.getElem?_eq_getElem hlt, he]
theorem ren_inj {M : List Int} {a b : Int} (ha : a ∈ M) (hb : b ∈ M) (h : ren M a = ren M b) : a = b := by
  have h1 := (ren_get ha).2.1
  have h2 := (ren_get hb).2.1
  rw [h, h2] at h1
  injection h1 with h1
  exact h1.symm

theorem ix_pre (m : List Int) (n : Int) : m <+: (ix m n).2 := by
  unfold ix
  split
  · exact List.prefix_refl _
  · exact List.prefix_append _ _
theorem ix_ren {m M : List Int} {n : Int} (h : (ix m n).2 <+: M) : (ix m n).1 = ren M n ∧ n ∈ M := by
  unfold ix at h ⊢
  split at h
  · rename_i i hi
    obtain ⟨t, rfl⟩ := h
    have hlt := (List.findIdx?_eq_some_iff_getElem.1 hi)
    refine ⟨?_, List.mem_append_left _ ?_⟩
    · unfold ren
      rw [List.findIdx?_append, hi]
      rfl
    · obtain ⟨h1, h2, _⟩ := hlt
      simp only [beq_iff_eq] at h2
      exact h2 ▸ List.getElem_mem h1
  · rename_i hi
    obtain ⟨t, rfl⟩ := h
    refine ⟨?_, by simp⟩
    unfold ren
    rw [List.findIdx?_append, List.findIdx?_append, hi]
    simp
theorem ixList_pre : ∀ (l m : List Int), m <+: (ixList m l).2
  | [], _ => List.prefix_refl _
  | n :: l, m => (ix_pre m n).trans (ixList_pre l (ix m n).2)
theorem ixList_ren {M : List Int} : ∀ (l m : List Int), (ixList m l).2 <+: M → (ixList m l).1 = l.map (ren M) ∧ ∀ n ∈ l, n ∈ M
  | [], m, _ => ⟨rfl, by simp⟩
  | n :: l, m, h => by
    have h' : (ixList (ix m n).2 l).2 <+: M := h
    obtain ⟨e1, q1⟩ := ix_ren ((ixList_pre l (ix m n).2).trans h')
    obtain ⟨e2, q2⟩ := ixList_ren l (ix m n).2 h'
    refine ⟨?_, fun k hk => ?_⟩
    · show (ix m n).1 :: (ixList (ix m n).2 l).1 = _
      rw [e1, e2]; rfl
    · rcases List.mem_cons.1 hk with rfl | hk
      · exact q1
      · exact q2 k hk
theorem ixArg_pre (m : List Int) (a : Arg) : m <+: (ixArg m a).2 := by
  unfold ixArg
  split
  · exact ix_pre _ _
  · exact List.prefix_refl _
theorem ixArg_ren {m M : List Int} {a : Arg} (h : (ixArg m a).2 <+: M) : (ixArg m a).1 = a.ren M ∧ ∀ n ∈ a.vars, n ∈ M := by
  obtain ⟨v, n⟩ := a
  cases v with
  | true =>
    obtain ⟨e, q⟩ := ix_ren (show (ix m n).2 <+: M from h)
    refine ⟨?_, fun k hk => ?_⟩
    · show (⟨true, (ix m n).1⟩ : Arg) = _
      rw [e]; rfl
    · have : k = n := by simpa [Arg.vars] using hk
      exact this ▸ q
  | false => exact ⟨rfl, fun k hk => by simp [Arg.vars] at hk⟩
theorem ixAtoms_pre : ∀ (l : List Atom) (m : List Int), m <+: (ixAtoms m l).2
  | [], _ => List.prefix_refl _
  | x :: l, m => ((ixArg_pre m x.subj).trans ((ixArg_pre _ x.obj).trans (ixArg_pre _ x.val))).trans (ixAtoms_pre l _)
theorem ixAtoms_ren {M : List Int} : ∀ (l : List Atom) (m : List Int), (ixAtoms m l).2 <+: M → (ixAtoms m l).1 = l.map (Atom.ren M) ∧ ∀ n ∈ l.flatMap Atom.vars, n ∈ M
  | [], m, _ => ⟨rfl, by simp⟩
  | x :: l, m, h => by
    have h' : (ixAtoms (ixArg (ixArg (ixArg m x.subj).2 x.obj).2 x.val).2 l).2 <+: M := h
    have p3 := (ixAtoms_pre l _).trans h'
    have p2 := (ixArg_pre _ x.val).trans p3
    have p1 := (ixArg_pre _ x.obj).trans p2
    obtain ⟨e1, q1⟩ := ixArg_ren p1
    obtain ⟨e2, q2⟩ := ixArg_ren p2
    obtain ⟨e3, q3⟩ := ixArg_ren p3
    obtain ⟨e4, q4⟩ := ixAtoms_ren l _ h'
    refine ⟨?_, fun k hk => ?_⟩
    · have e : (ixAtoms m (x :: l)).1 = (⟨x.kind, (ixArg m x.subj).1, (ixArg (ixArg m x.subj).2 x.obj).1, (ixArg (ixArg (ixArg m x.subj).2 x.obj).2 x.val).1, x.term, x.known⟩ : Atom) :: (ixAtoms (ixArg (ixArg (ixArg m x.subj).2 x.obj).2 x.val).2 l).1 := rfl
      rw [e]
      rw [e1, e2, e3, e4]; rfl
    · rw [List.flatMap_cons] at hk
      rcases List.mem_append.1 hk with hk | hk
      · unfold Atom.vars at hk
        rcases List.mem_append.1 hk with hk | hk
        · exact q1 k hk
        · rcases List.mem_append.1 hk with hk | hk
          · exact q2 k hk
          · exact q3 k hk
      · exact q4 k hk
theorem ixTests_pre : ∀ (l : List Test) (m : List Int), m <+: (ixTests m l).2
  | [], _ => List.prefix_refl _
  | x :: l, m => ((ixArg_pre m x.a).trans (ixArg_pre _ x.b)).trans (ixTests_pre l _)
theorem ixTests_ren {M : List Int} : ∀ (l : List Test) (m : List Int), (ixTests m l).2 <+: M → (ixTests m l).1 = l.map (Test.ren M) ∧ ∀ n ∈ l.flatMap Test.vars, n ∈ M
  | [], m, _ => ⟨rfl, by simp⟩
  | x :: l, m, h => by
    have h' : (ixTests (ixArg (ixArg m x.a).2 x.b).2 l).2 <+: M := h
    have p2 := (ixTests_pre l _).trans h'
    have p1 := (ixArg_pre _ x.b).trans p2
    obtain ⟨e1, q1⟩ := ixArg_ren p1
    obtain ⟨e2, q2⟩ := ixArg_ren p2
    obtain ⟨e4, q4⟩ := ixTests_ren l _ h'
    refine ⟨?_, fun k hk => ?_⟩
    · have e : (ixTests m (x :: l)).1 = (⟨x.op, (ixArg m x.a).1, (ixArg (ixArg m x.a).2 x.b).1⟩ : Test) :: (ixTests (ixArg (ixArg m x.a).2 x.b).2 l).1 := rfl
      rw [e]
      rw [e1, e2, e4]; rfl
    · rw [List.flatMap_cons] at hk
      rcases List.mem_append.1 hk with hk | hk
      · unfold Test.vars at hk
        rcases List.mem_append.1 hk with hk | hk
        · exact q1 k hk
        · exact q2 k hk
      · exact q4 k hk

/-- The tokens do not change when variables and names are renamed alike. -/
theorem getD_ren {M : List Int} {f : Int → List UInt8} {n : Int} (h : n ∈ M) : (M.map f).getD (ren M n).toNat [] = f n := by
  obtain ⟨_, h1, _⟩ := ren_get h
  simp [List.getD, h1]
def nmOf (ns : List (List UInt8)) (i : Int) : List UInt8 := ns.getD i.toNat []
theorem argT_ren {ns : List (List UInt8)} {M : List Int} {a : Arg} (h : ∀ n ∈ a.vars, n ∈ M) : argT (M.map (nmOf ns)) (a.ren M) = argT ns a := by
  obtain ⟨v, n⟩ := a
  cases v with
  | true =>
    show nameT ((M.map (nmOf ns)).getD (ren M n).toNat []) = nameT (ns.getD n.toNat [])
    rw [getD_ren (h n (by simp [Arg.vars]))]
    rfl
  | false => rfl
theorem item_ren {ns : List (List UInt8)} {M : List Int} {i : Item} (h : ∀ n ∈ i.vars, n ∈ M) : (i.ren M).toks (M.map (nmOf ns)) = i.toks ns := by
  cases i with
  | at_ x =>
    have h1 : ∀ n ∈ x.subj.vars, n ∈ M := fun n hn => h n (by simp [Item.vars, Atom.vars, hn])
    have h2 : ∀ n ∈ x.obj.vars, n ∈ M := fun n hn => h n (by simp [Item.vars, Atom.vars, hn])
    have h3 : ∀ n ∈ x.val.vars, n ∈ M := fun n hn => h n (by simp [Item.vars, Atom.vars, hn])
    simp only [Item.ren, Item.toks, atomT, Atom.ren, argT_ren h1, argT_ren h2, argT_ren h3]
  | te x =>
    have h1 : ∀ n ∈ x.a.vars, n ∈ M := fun n hn => h n (by simp [Item.vars, Test.vars, hn])
    have h2 : ∀ n ∈ x.b.vars, n ∈ M := fun n hn => h n (by simp [Item.vars, Test.vars, hn])
    simp only [Item.ren, Item.toks, testT, Test.ren, argT_ren h1, argT_ren h2]
theorem toksI_ren {ns : List (List UInt8)} {M : List Int} {sh : List Int} {is : List Item} (h1 : ∀ n ∈ sh, n ∈ M) (h2 : ∀ n ∈ is.flatMap Item.vars, n ∈ M) :
    toksI (M.map (nmOf ns)) (sh.map (ren M)) (is.map (Item.ren M)) = toksI ns sh is := by
  unfold toksI
  rw [List.map_map, List.map_map]
  have e1 : sh.map ((fun n => [nmT (M.map (nmOf ns)) n]) ∘ ren M) = sh.map (fun n => [nmT ns n]) := List.map_congr_left fun n hn => by
    show [nameT ((M.map (nmOf ns)).getD (ren M n).toNat [])] = [nameT (ns.getD n.toNat [])]
    rw [getD_ren (h1 n hn)]; rfl
  have e2 : is.map (Item.toks (M.map (nmOf ns)) ∘ Item.ren M) = is.map (Item.toks ns) := List.map_congr_left fun i hi =>
    item_ren fun n hn => h2 n (List.mem_flatMap.2 ⟨i, hi, hn⟩)
  rw [e1, e2]

/-- The conditions of a state: the atoms, then the tests. -/
def itemsS (s : St) : List Item := s.atoms.map Item.at_ ++ s.tests.map Item.te
theorem itemsS_vars (s : St) : (itemsS s).flatMap Item.vars = s.atoms.flatMap Atom.vars ++ s.tests.flatMap Test.vars := by
  unfold itemsS
  rw [List.flatMap_append, List.flatMap_map, List.flatMap_map]
  rfl
/-- The tokens of what a state is renumbered to. -/
theorem renumber_toks (s : St) : toksT (renumber s) = toksI s.names s.shown (itemsS s) := by
  have h3 := ixTests_ren s.tests (ixAtoms (ixList [] s.shown).2 s.atoms).2 (List.prefix_refl _)
  have p2 := ixTests_pre s.tests (ixAtoms (ixList [] s.shown).2 s.atoms).2
  have h2 := ixAtoms_ren s.atoms (ixList [] s.shown).2 p2
  have h1 := ixList_ren s.shown [] ((ixAtoms_pre s.atoms _).trans p2)
  have e : renumber s = ⟨(ixTests (ixAtoms (ixList [] s.shown).2 s.atoms).2 s.tests).2.map (nmOf s.names), (ixList [] s.shown).1, (ixAtoms (ixList [] s.shown).2 s.atoms).1, (ixTests (ixAtoms (ixList [] s.shown).2 s.atoms).2 s.tests).1⟩ := rfl
  generalize hM : (ixTests (ixAtoms (ixList [] s.shown).2 s.atoms).2 s.tests).2 = M at *
  rw [toksT_eq, e, h1.1, h2.1, h3.1]
  have ei : items ⟨M.map (nmOf s.names), s.shown.map (ren M), s.atoms.map (Atom.ren M), s.tests.map (Test.ren M)⟩ = (itemsS s).map (Item.ren M) := by
    unfold items itemsS
    simp [Function.comp_def, Item.ren]
  rw [ei]
  exact toksI_ren h1.2 fun n hn => by
    rw [itemsS_vars] at hn
    rcases List.mem_append.1 hn with hn | hn
    · exact h2.2 n hn
    · exact h3.2 n hn

/-- Renumbering does not see an injective renaming. -/
theorem find_map {g : Int → Int} {n : Int} : ∀ (m : List Int), (∀ a ∈ m, g a = g n → a = n) → (m.map g).findIdx? (· == g n) = m.findIdx? (· == n)
  | [], _ => rfl
  | a :: m, h => by
    rw [List.map_cons, List.findIdx?_cons, List.findIdx?_cons, find_map m fun b hb => h b (List.mem_cons_of_mem _ hb)]
    have e : (g a == g n) = (a == n) := by
      rw [Bool.eq_iff_iff]
      simp only [beq_iff_eq]
      exact ⟨h a (by simp), fun e => by rw [e]⟩
    rw [e]
section
variable {g : Int → Int} {S : List Int} (hg : ∀ a ∈ S, ∀ b ∈ S, g a = g b → a = b)
include hg
theorem ix_map {m : List Int} {n : Int} (hm : ∀ a ∈ m, a ∈ S) (hn : n ∈ S) : ix (m.map g) (g n) = ((ix m n).1, (ix m n).2.map g) ∧ ∀ a ∈ (ix m n).2, a ∈ S := by
  unfold ix
  rw [find_map m fun a ha => hg a (hm a ha) n hn]
  cases m.findIdx? (· == n) with
  | some i => exact ⟨rfl, hm⟩
  | none =>
    refine ⟨by simp, fun a ha => ?_⟩
    rcases List.mem_append.1 ha with ha | ha
    · exact hm a ha
    · have : a = n := by simpa using ha
      exact this ▸ hn
theorem ixList_map : ∀ (l m : List Int), (∀ a ∈ m, a ∈ S) → (∀ a ∈ l, a ∈ S) → ixList (m.map g) (l.map g) = ((ixList m l).1, (ixList m l).2.map g) ∧ ∀ a ∈ (ixList m l).2, a ∈ S
  | [], m, hm, _ => ⟨rfl, hm⟩
  | n :: l, m, hm, hl => by
    obtain ⟨e1, q1⟩ := ix_map hg hm (hl n (by simp))
    obtain ⟨e2, q2⟩ := ixList_map l (ix m n).2 q1 fun a ha => hl a (List.mem_cons_of_mem _ ha)
    refine ⟨?_, q2⟩
    show ((ix (m.map g) (g n)).1 :: (ixList (ix (m.map g) (g n)).2 (l.map g)).1, (ixList (ix (m.map g) (g n)).2 (l.map g)).2) = ((ix m n).1 :: (ixList (ix m n).2 l).1, (ixList (ix m n).2 l).2.map g)
    rw [e1]
    simp only
    rw [e2]
end
def Arg.map (g : Int → Int) (a : Arg) : Arg := if a.var then ⟨true, g a.n⟩ else a
section
variable {g : Int → Int} {S : List Int} (hg : ∀ a ∈ S, ∀ b ∈ S, g a = g b → a = b)
include hg
theorem ixArg_map {m : List Int} {a : Arg} (hm : ∀ a ∈ m, a ∈ S) (ha : ∀ n ∈ a.vars, n ∈ S) : ixArg (m.map g) (a.map g) = ((ixArg m a).1, (ixArg m a).2.map g) ∧ ∀ a' ∈ (ixArg m a).2, a' ∈ S := by
  obtain ⟨v, n⟩ := a
  cases v with
  | true =>
    obtain ⟨e1, q1⟩ := ix_map hg hm (ha n (by simp [Arg.vars]))
    refine ⟨?_, q1⟩
    show ((⟨true, (ix (m.map g) (g n)).1⟩ : Arg), (ix (m.map g) (g n)).2) = _
    rw [e1]; rfl
  | false => exact ⟨rfl, hm⟩
theorem ixAtoms_map : ∀ (l : List Atom) (m : List Int), (∀ a ∈ m, a ∈ S) → (∀ n ∈ l.flatMap Atom.vars, n ∈ S) →
    ixAtoms (m.map g) (l.map fun x => ⟨x.kind, x.subj.map g, x.obj.map g, x.val.map g, x.term, x.known⟩) = ((ixAtoms m l).1, (ixAtoms m l).2.map g) ∧ ∀ a ∈ (ixAtoms m l).2, a ∈ S
  | [], m, hm, _ => ⟨rfl, hm⟩
  | x :: l, m, hm, hl => by
    have h1 : ∀ n ∈ x.subj.vars, n ∈ S := fun n hn => hl n (by simp [Atom.vars, hn])
    have h2 : ∀ n ∈ x.obj.vars, n ∈ S := fun n hn => hl n (by simp [Atom.vars, hn])
    have h3 : ∀ n ∈ x.val.vars, n ∈ S := fun n hn => hl n (by simp [Atom.vars, hn])
    obtain ⟨e1, q1⟩ := ixArg_map hg hm h1
    obtain ⟨e2, q2⟩ := ixArg_map hg q1 h2
    obtain ⟨e3, q3⟩ := ixArg_map hg q2 h3
    obtain ⟨e4, q4⟩ := ixAtoms_map l _ q3 fun n hn => hl n (by rw [List.flatMap_cons]; exact List.mem_append_right _ hn)
    refine ⟨?_, q4⟩
    rw [List.map_cons, ixAtoms]
    simp only
    rw [e1]
    simp only
    rw [e2]
    simp only
    rw [e3]
    simp only
    rw [e4]
    rfl
theorem ixTests_map : ∀ (l : List Test) (m : List Int), (∀ a ∈ m, a ∈ S) → (∀ n ∈ l.flatMap Test.vars, n ∈ S) →
    ixTests (m.map g) (l.map fun x => ⟨x.op, x.a.map g, x.b.map g⟩) = ((ixTests m l).1, (ixTests m l).2.map g) ∧ ∀ a ∈ (ixTests m l).2, a ∈ S
  | [], m, hm, _ => ⟨rfl, hm⟩
  | x :: l, m, hm, hl => by
    have h1 : ∀ n ∈ x.a.vars, n ∈ S := fun n hn => hl n (by simp [Test.vars, hn])
    have h2 : ∀ n ∈ x.b.vars, n ∈ S := fun n hn => hl n (by simp [Test.vars, hn])
    obtain ⟨e1, q1⟩ := ixArg_map hg hm h1
    obtain ⟨e2, q2⟩ := ixArg_map hg q1 h2
    obtain ⟨e4, q4⟩ := ixTests_map l _ q2 fun n hn => hl n (by rw [List.flatMap_cons]; exact List.mem_append_right _ hn)
    refine ⟨?_, q4⟩
    rw [List.map_cons, ixTests]
    simp only
    rw [e1]
    simp only
    rw [e2]
    simp only
    rw [e4]
    rfl
end
end Go.Proofs.YtjonaidancomgaaDoor.Qy

namespace Go.Proofs.YtjonaidancomgaaDoor.Qy
open Lx

/-- What is led in by a token, and by commas behind it. -/
def lead (h : Tok) : List (List Tok) → List Tok
  | [] => []
  | x :: r => h :: sepT (x :: r)
theorem sepT_snoc : ∀ (l : List (List Tok)) (x : List Tok), l ≠ [] → sepT (l ++ [x]) = sepT l ++ sgT 44 :: x
  | [], _, h => absurd rfl h
  | [a], x, _ => by simp [sepT]
  | a :: b :: r, x, _ => by
    have := sepT_snoc (b :: r) x (by simp)
    show a ++ sgT 44 :: sepT ((b :: r) ++ [x]) = (a ++ sgT 44 :: sepT (b :: r)) ++ sgT 44 :: x
    rw [this]
    simp
theorem lead_snoc (h : Tok) (l : List (List Tok)) (x : List Tok) : lead h (l ++ [x]) = lead h l ++ (if l.isEmpty then h else sgT 44) :: x := by
  cases l with
  | nil => simp [lead, sepT]
  | cons a r =>
    show h :: sepT ((a :: r) ++ [x]) = h :: sepT (a :: r) ++ _
    rw [sepT_snoc _ _ (by simp)]
    simp
theorem sepT_len (c : Nat) : ∀ l : List (List Tok), (∀ x ∈ l, x.length ≤ c) → (sepT l).length ≤ (c + 1) * l.length
  | [], _ => by simp [sepT]
  | [a], h => by
    have := h a (by simp)
    simp [sepT]; omega
  | a :: b :: r, h => by
    have h1 := h a (by simp)
    have h2 := sepT_len c (b :: r) (fun x hx => h x (List.mem_cons_of_mem _ hx))
    show (a ++ sgT 44 :: sepT (b :: r)).length ≤ _
    rw [List.length_append, List.length_cons, show (a :: b :: r).length = (b :: r).length + 1 from rfl, Nat.mul_succ]
    omega
theorem lead_len (c : Nat) (h : Tok) (l : List (List Tok)) (hc : ∀ x ∈ l, x.length ≤ c) : (lead h l).length ≤ (c + 1) * l.length + 1 := by
  cases l with
  | nil => simp [lead]
  | cons a r =>
    have := sepT_len c (a :: r) hc
    show (h :: sepT (a :: r)).length ≤ _
    rw [List.length_cons]; omega
def showT (ns : List (List UInt8)) (n : Int) : List Tok := [nameT (ns.getD n.toNat [])]
theorem toksT_lead (q : Query) (h1 : q.shown ≠ []) (h2 : q.atoms.map (atomT q.names) ++ q.tests.map (testT q.names) ≠ []) :
    toksT q = lead (nameT wShow) (q.shown.map (showT q.names)) ++ lead (nameT wWhere) (q.atoms.map (atomT q.names) ++ q.tests.map (testT q.names)) ++ [sgT 59] := by
  unfold toksT
  obtain ⟨a, r, e1⟩ : ∃ a r, q.shown = a :: r := by cases h : q.shown with | nil => exact absurd h h1 | cons a r => exact ⟨a, r, rfl⟩
  obtain ⟨b, t, e2⟩ : ∃ b t, q.atoms.map (atomT q.names) ++ q.tests.map (testT q.names) = b :: t := by cases h : q.atoms.map (atomT q.names) ++ q.tests.map (testT q.names) with | nil => exact absurd h h2 | cons a r => exact ⟨a, r, rfl⟩
  rw [e2, e1]
  simp only [lead, List.map_cons]
  have e3 : (fun n : Int => [nameT (q.names.getD n.toNat [])]) = showT q.names := rfl
  rw [e3]
  simp [showT]
theorem atomT_len (ns : List (List UInt8)) (x : Atom) : (atomT ns x).length = 12 := rfl
theorem testT_len (ns : List (List UInt8)) (x : Test) : (testT ns x).length ≤ 4 := by
  unfold testT operT
  split
  · simp
  · split
    · simp
    · split <;> simp
end Go.Proofs.YtjonaidancomgaaDoor.Qy

namespace Go.Proofs.YtjonaidancomgaaDoor.Lx

theorem tw_app {p : UInt8 → Bool} {a b : List UInt8} (h : (a.takeWhile p).length < a.length ∨ b.takeWhile p = [] ∨ ((a ++ b).takeWhile p).length ≤ a.length) : (a ++ b).takeWhile p = a.takeWhile p := by
  rw [List.takeWhile_append] at h ⊢
  split
  · rename_i he
    rw [if_pos he] at h
    have ha : a.takeWhile p = a := (List.takeWhile_prefix p).eq_of_length he
    rcases h with h | h | h
    · omega
    · rw [h, List.append_nil, ha]
    · rw [List.length_append] at h
      have : b.takeWhile p = [] := List.eq_nil_of_length_eq_zero (by omega)
      rw [this, List.append_nil, ha]
  · rfl

theorem step_ext {c : UInt8} {r b : List UInt8} (hc : comment (c :: (r ++ b)) = comment (c :: r))
    (h10 : comment (c :: r) = true → ((c :: r) ++ b).takeWhile (· != 10) = (c :: r).takeWhile (· != 10))
    (hp : letter c = true → ((c :: r) ++ b).takeWhile part = (c :: r).takeWhile part)
    (hf : figure c = true → ((c :: r) ++ b).takeWhile figure = (c :: r).takeWhile figure) : step c (r ++ b) = step c r := by
  cases h1 : space c
  case true => rw [step_space h1, step_space h1]
  cases h2 : comment (c :: r)
  case true => rw [step_comment h2, step_comment (hc.trans h2)]; have := h10 h2; rw [List.cons_append] at this; rw [this]
  cases h3 : letter c
  case true => rw [step_letter h3, step_letter h3]; have := hp h3; rw [List.cons_append] at this; rw [this]
  cases h4 : figure c
  case true => rw [step_figure h4, step_figure h4]; have := hf h4; rw [List.cons_append] at this; rw [this]
  cases h5 : sign c
  case true => rw [step_sign h5 h2, step_sign h5 (hc.trans h2)]
  rw [step_err h1 h3 h4 h5, step_err h1 h3 h4 h5]

theorem comment_app {c d : UInt8} {r b : List UInt8} (hd : r = [] → d ≠ 47) : comment (c :: (r ++ d :: b)) = comment (c :: r) := by
  cases r with
  | nil =>
    have : ((some d : Option UInt8) == some 47) = false := beq_eq_false_iff_ne.2 (fun h => hd rfl (by injection h))
    simp only [comment, List.nil_append, List.head?_cons, List.head?_nil, this, Bool.and_false]
    simp
  | cons x r => rfl

/-- The extent of what a step takes. -/
def Step.ext : Step → Nat
  | .skip k => k
  | .tok _ k => k
  | .err => 0

/-- A blank behind a source: what begins before the end of the source is not touched, except for a comment that has no end. -/
theorem step_blank {c d : UInt8} {r b : List UInt8} (hd : part d = false) (hd2 : d ≠ 47) (h : comment (c :: r) = true → (step c r).ext < (c :: r).length) : step c (r ++ d :: b) = step c r := by
  have hfig : figure d = false := by
    unfold part at hd
    cases hh : figure d
    · rfl
    · rw [hh] at hd; simp at hd
  refine step_ext (comment_app fun _ => hd2) (fun hc => ?_) (fun _ => tw_app (Or.inr (Or.inl ?_))) (fun _ => tw_app (Or.inr (Or.inl ?_)))
  · have := h hc
    rw [step_comment hc] at this
    exact tw_app (Or.inl this)
  · simp [hd]
  · simp [hfig]

theorem comment_len {c : UInt8} {r : List UInt8} (h : comment (c :: r) = true) : 2 ≤ ((c :: r).takeWhile (· != 10)).length := by
  match r with
  | [] => simp [comment] at h
  | d :: r =>
    simp [comment] at h
    obtain ⟨rfl, rfl⟩ := h
    simp

/-- A step within a longer source is the step within what it takes. -/
theorem step_cut {c : UInt8} {r b : List UInt8} (hn : step c (r ++ b) ≠ .err) (h : (step c (r ++ b)).ext ≤ (c :: r).length) : step c r = step c (r ++ b) := by
  cases h1 : space c
  case true => rw [step_space h1, step_space h1]
  cases h2 : comment (c :: (r ++ b))
  case true =>
    rw [step_comment h2] at h
    have h3 := comment_len h2
    simp only [Step.ext] at h
    have hr : comment (c :: r) = true := by
      cases r with
      | nil => simp only [List.length_singleton] at h; omega
      | cons x r => exact h2
    refine (step_ext (h2.trans hr.symm) (fun _ => tw_app (Or.inr (Or.inr h))) (fun hl => ?_) (fun hl => ?_)).symm
    · have := (facts c).letter_ hl; simp [comment] at h2; exact absurd h2.1 this.2.2.2
    · have := (facts c).figure_ hl; simp [comment] at h2; exact absurd h2.1 this.2.2.2
  have hr : comment (c :: r) = false := by
    cases r with
    | nil => simp [comment]
    | cons x r => exact h2
  refine (step_ext (h2.trans hr.symm) (fun hh => absurd hh (by rw [hr]; simp)) (fun hl => ?_) (fun hl => ?_)).symm
  · rw [step_letter hl] at h hn
    split at h
    · exact tw_app (Or.inr (Or.inr h))
    · rename_i hh; rw [if_neg hh] at hn; exact absurd rfl hn
  · rw [step_figure hl] at h hn
    split at h
    · exact tw_app (Or.inr (Or.inr h))
    · rename_i hh; rw [hh] at hn; exact absurd rfl hn

theorem res_cons_err {t : Tok} {R : Res} {q : Nat} (h : R.cons t = .err q) : R = .err q := by
  cases R with
  | ok l => cases h
  | err p => exact h

/-- An error: where it lies, what stands before it, what it begins with; it remains whatever follows a blank. -/
theorem err_split : ∀ (n : Nat) (l : List UInt8) (p q : Nat), l.length ≤ n → lexAt l p = .err q →
    ∃ M, q = p + M ∧ M < l.length ∧ (∃ ts, lexAt (l.take M) p = .ok ts) ∧ (∃ c r, l.drop M = c :: r ∧ step c r = .err) ∧ ∀ (d : UInt8) (more : List UInt8), part d = false → d ≠ 47 → lexAt (l ++ d :: more) p = .err q
  | n, [], p, q, hn, h => by rw [lexAt_nil] at h; cases h
  | 0, c :: r, p, q, hn, h => by simp at hn
  | n + 1, c :: r, p, q, hn, h => by
    have hn' : r.length ≤ n := by simpa using hn
    have common : ∀ k, 1 ≤ k → (step c r).ext = k → step c r ≠ .err → ∀ (q : Nat), lexAt ((c :: r).drop k) (p + k) = .err q →
        ∃ M, k ≤ M ∧ q = p + M ∧ M < (c :: r).length ∧ (∃ ts, lexAt (((c :: r).take M).drop k) (p + k) = .ok ts) ∧ step c (r.take (M - 1)) = step c r ∧ (∃ c' r', (c :: r).drop M = c' :: r' ∧ step c' r' = .err) ∧
          ∀ (d : UInt8) (more : List UInt8), part d = false → d ≠ 47 → step c (r ++ d :: more) = step c r ∧ lexAt ((c :: (r ++ d :: more)).drop k) (p + k) = .err q := by
      intro k hk he hne q hq
      have hkl : k < (c :: r).length := by
        rcases Nat.lt_or_ge k (c :: r).length with h | h
        · exact h
        · rw [List.drop_of_length_le h, lexAt_nil] at hq; cases hq
      obtain ⟨M, rfl, hM, ⟨ts, hts⟩, ⟨c', r', hcr, her⟩, hmore⟩ := err_split n _ _ _ (by simp only [List.length_drop, List.length_cons]; omega) hq
      rw [List.length_drop] at hM
      refine ⟨k + M, by omega, by omega, by omega, ⟨ts, ?_⟩, ?_, ⟨c', r', ?_, her⟩, fun d more h1 h2 => ⟨?_, ?_⟩⟩
      · rw [List.drop_take, Nat.add_sub_cancel_left]; exact hts
      · have e : r.take (k + M - 1) ++ r.drop (k + M - 1) = r := List.take_append_drop _ _
        have e1 := step_cut (c := c) (r := r.take (k + M - 1)) (b := r.drop (k + M - 1))
        rw [e] at e1
        refine e1 hne ?_
        rw [he]
        simp only [List.length_cons, List.length_take]
        simp only [List.length_cons] at hM hkl
        omega
      · rw [← hcr, List.drop_drop]
      · exact step_blank h1 h2 fun _ => by rw [he]; exact hkl
      · have e : c :: (r ++ d :: more) = (c :: r) ++ d :: more := rfl
        rw [e, List.drop_append_of_le_length (by omega)]
        exact hmore d more h1 h2
    cases hs : step c r with
    | err =>
      rw [lexAt_err hs] at h
      injection h with h
      subst h
      refine ⟨0, rfl, by simp, ⟨[], rfl⟩, ⟨c, r, rfl, hs⟩, fun d more h1 h2 => ?_⟩
      have e := step_blank (c := c) (r := r) (b := more) h1 h2 (fun hc => by rw [step_comment hc] at hs; cases hs)
      exact lexAt_err (e.trans hs) p
    | skip k =>
      rw [lexAt_skip hs] at h
      have hk := step_skip_pos hs
      obtain ⟨M, hkM, hq, hM, ⟨ts, hts⟩, hst, herr, hmore⟩ := common k hk (by rw [hs]; rfl) (by rw [hs]; exact fun h => by cases h) q h
      refine ⟨M, hq, hM, ⟨ts, ?_⟩, herr, fun d more h1 h2 => ?_⟩
      · have e : (c :: r).take M = c :: r.take (M - 1) := by
          obtain ⟨m, rfl⟩ : ∃ m, M = m + 1 := ⟨M - 1, by omega⟩
          rfl
        rw [e] at hts ⊢
        rw [lexAt_skip (hst.trans hs)]
        exact hts
      · obtain ⟨e1, e2⟩ := hmore d more h1 h2
        show lexAt (c :: (r ++ d :: more)) p = _
        rw [lexAt_skip (e1.trans hs)]
        exact e2
    | tok t k =>
      rw [lexAt_tok hs] at h
      have hk := step_tok_pos hs
      obtain ⟨M, hkM, hq, hM, ⟨ts, hts⟩, hst, herr, hmore⟩ := common k hk (by rw [hs]; rfl) (by rw [hs]; exact fun h => by cases h) q (res_cons_err h)
      refine ⟨M, hq, hM, ⟨{ t with pos := p } :: ts, ?_⟩, herr, fun d more h1 h2 => ?_⟩
      · have e : (c :: r).take M = c :: r.take (M - 1) := by
          obtain ⟨m, rfl⟩ : ∃ m, M = m + 1 := ⟨M - 1, by omega⟩
          rfl
        rw [e] at hts ⊢
        rw [lexAt_tok (hst.trans hs), hts]
        rfl
      · obtain ⟨e1, e2⟩ := hmore d more h1 h2
        show lexAt (c :: (r ++ d :: more)) p = _
        rw [lexAt_tok (e1.trans hs), e2]
        rfl

theorem lex_err {l : List UInt8} {q : Nat} (h : lex l = .err q) : q < l.length ∧ (∃ ts, lex (l.take q) = .ok ts) ∧ lex (l.drop q) = .err 0 ∧ ∀ more, lex (l ++ 32 :: more) = .err q := by
  obtain ⟨M, rfl, h1, h2, ⟨c, r, h3, h4⟩, h5⟩ := err_split _ l 0 q (Nat.le_refl _) h
  rw [Nat.zero_add] at *
  refine ⟨h1, h2, ?_, fun more => h5 32 more rfl (by decide)⟩
  rw [h3]
  exact lexAt_err h4 0
end Go.Proofs.YtjonaidancomgaaDoor.Lx
