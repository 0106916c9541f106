/- Parts of the proof, joined into one text: QyAgnP, QyMixB, QyMixC, QyEql. -/
import Derived.Test.YtjonaidancomgaaDoorZQyBegin
import Derived.Test.YtjonaidancomgaaDoorZQyPrint
import Derived.Test.YtjonaidancomgaaDoorZQyBack
import Derived.Test.YtjonaidancomgaaDoorZQyAgain
import Derived.Test.YtjonaidancomgaaDoorZLxI
import Derived.Test.YtjonaidancomgaaDoorZLxWord
import Derived.Test.YtjonaidancomgaaDoorZQyMixA
import Derived.Test.YtjonaidancomgaaDoorZQyMem
import Derived.Laws.StructEq

namespace Go.Proofs.YtjonaidancomgaaDoor.Qy
open Lx

theorem text_valid {l : List Lx.Tok} (h : ∀ t ∈ l, Lx.valid t = true) : Lx.text l = some (joinSp (l.map Tok.out)) := by
  unfold Lx.text
  rw [if_pos (List.all_eq_true.2 h)]
theorem toksT_len {q : Query} (h : Valid q) : (toksT q).length ≤ 300 := by
  have h1 := sepT_len 1 (q.shown.map fun n => [nameT (q.names.getD n.toNat [])]) (fun x hx => by
    obtain ⟨n, _, rfl⟩ := List.mem_map.1 hx
    simp)
  have h2 := sepT_len 12 (q.atoms.map (atomT q.names) ++ q.tests.map (testT q.names)) (fun x hx => by
    rcases List.mem_append.1 hx with hx | hx
    · obtain ⟨n, _, rfl⟩ := List.mem_map.1 hx
      simp [atomT]
    · obtain ⟨n, _, rfl⟩ := List.mem_map.1 hx
      unfold testT operT
      split
      · simp
      · split
        · simp
        · split <;> simp)
  have a1 := h.sh; have a2 := h.cs
  simp only [List.length_map, List.length_append] at h1 h2
  unfold toksT
  simp only [List.length_append, List.length_cons, List.length_nil]
  omega
/-- What a valid query is printed to parses to the query. -/
theorem parse_print {q : Query} (h : valid q = true) : ∃ s, Lx.text (toksT q) = some s ∧ parse s = .ok q ∧ s.length ≤ 9900 := by
  have hV := (valid_iff q).1 h
  have hv := toksT_valid hV
  have ht := text_valid hv
  have hlen : (joinSp ((toksT q).map Tok.out)).length ≤ 9900 := by
    have := joinSp_len ((toksT q).map Tok.out) (fun x hx => by
      obtain ⟨t, ht, rfl⟩ := List.mem_map.1 hx
      exact valid_out (hv t ht))
    have h2 := toksT_len hV
    rw [List.length_map] at this
    omega
  obtain ⟨m, h1, h2⟩ := lex_text ht
  refine ⟨_, ht, ?_, hlen⟩
  unfold parse
  rw [if_neg (by omega), h1]
  exact parse_valid h h2 _
theorem print_parse {q : Query} (h : valid q = true) : ∃ s, printR q = (Lx.bs s, 0) ∧ parse s = .ok q ∧ s.length ≤ 9900 := by
  obtain ⟨s, h1, h2, h3⟩ := parse_print h
  refine ⟨s, ?_, h2, h3⟩
  unfold printR
  rw [h, h1]
  rfl
/-- What parses is valid. -/
theorem parse_ok_valid {s : List UInt8} {q : Query} (h : parse s = .ok q) : valid q = true := by
  unfold parse at h
  split at h
  · cases h
  · split at h
    · cases h
    · rename_i l hl
      exact parse_again (fun t ht => (lex_texts hl t ht).1) h
/-- A failure that has a number. -/
def NZ {α : Type} (r : R α) : Prop := ∀ p e, r = .bad p e → e ≠ 0
theorem NZ.bind {α β : Type} {r : R α} {f : α → St → R β} (h : NZ r) (hf : ∀ a s, NZ (f a s)) : NZ (r.bind f) := by
  intro p e he
  cases r with
  | ok a s => exact hf a s p e he
  | bad p' e' =>
    have : (R.bad p' e' : R β) = .bad p e := he
    injection this with h1 h2
    subst h2
    exact h p' e' rfl
theorem NZ.ok {α : Type} (a : α) (s : St) : NZ (R.ok a s) := fun _ _ h => by cases h
theorem NZ.fail {α : Type} (last : Int) (s : St) {e : Int} (he : e ≠ 0) : NZ (fail last s e : R α) := fun p x h => by
  unfold Qy.fail at h
  injection h with h1 h2
  subst h2; exact he
section
variable (last : Int)
theorem nz_need (k : Int) (t : List UInt8) (s : St) : NZ (need last k t s) := by
  unfold need
  split
  · exact .ok _ _
  · exact .fail _ _ (by decide)
theorem nz_number (m : Int) (s : St) : NZ (number last m s) := by
  unfold number
  split
  · split
    · exact .ok _ _
    · exact .fail _ _ (by decide)
  · exact .fail _ _ (by decide)
theorem nz_variable (f : Bool) (s : St) : NZ (variable_ last f s) := by
  unfold variable_
  repeat' split
  all_goals first | exact .ok _ _ | exact .fail _ _ (by decide)
theorem nz_argument (s : St) : NZ (argument last s) := by
  unfold argument
  repeat' split
  all_goals exact NZ.bind (by first | exact nz_number _ _ _ | exact nz_variable _ _ _) (fun _ _ => .ok _ _)
theorem nz_sign (c : UInt8) (s : St) : NZ (signT last c s) := nz_need _ _ _ _
theorem nz_word (t : List UInt8) (s : St) : NZ (word last t s) := nz_need _ _ _ _
theorem nz_atom (k : Int) (s : St) : NZ (atom last k s) :=
  (nz_sign _ _ _).bind fun _ _ => (nz_argument _ _).bind fun _ _ => (nz_sign _ _ _).bind fun _ _ => (nz_argument _ _).bind fun _ _ => (nz_sign _ _ _).bind fun _ _ => (nz_sign _ _ _).bind fun _ _ => (nz_argument _ _).bind fun _ _ => (nz_word _ _ _).bind fun _ _ => (nz_number _ _ _).bind fun _ _ => (nz_word _ _ _).bind fun _ _ => (nz_number _ _ _).bind fun _ _ => .ok _ _
theorem nz_oper (s : St) : NZ (oper last s) := by
  unfold oper
  repeat' split
  all_goals first | exact .ok _ _ | exact (nz_sign _ _ _).bind fun _ _ => .ok _ _
theorem nz_test (s : St) : NZ (test last s) := (nz_argument _ _).bind fun _ _ => (nz_oper _ _).bind fun _ _ => (nz_argument _ _).bind fun _ _ => .ok _ _
theorem nz_showOne (s : St) : NZ (showOne last s) := (nz_variable _ _ _).bind fun _ _ => .ok _ _
theorem nz_shows : ∀ (f : Nat) (s : St), NZ (shows last f s)
  | 0, s => .ok _ _
  | f + 1, s => by
    unfold shows
    split
    · exact (nz_showOne _ _).bind fun _ _ => nz_shows f _
    · exact .ok _ _
theorem nz_cond (s : St) : NZ (cond last s) := by
  unfold cond
  split
  · exact nz_test _ _
  · exact nz_atom _ _ _
theorem nz_conds : ∀ (f : Nat) (s : St), NZ (conds last f s)
  | 0, s => .ok _ _
  | f + 1, s => by
    unfold conds
    refine (nz_cond _ _).bind fun _ _ => ?_
    split
    · split
      · exact .fail _ _ (by decide)
      · exact nz_conds f _
    · exact .ok _ _
theorem nz_parseT (s : St) : NZ (parseT last s) :=
  (nz_word _ _ _).bind fun _ _ => (nz_showOne _ _).bind fun _ _ => (nz_shows _ _ _).bind fun _ _ => (nz_word _ _ _).bind fun _ _ => (nz_conds _ _ _).bind fun _ _ => (nz_sign _ _ _).bind fun _ _ => by
    split
    · exact .ok _ _
    · exact .fail _ _ (by decide)
end
theorem parse_bad {s : List UInt8} {p e : Int} (h : parse s = .bad p e) : e ≠ 0 := by
  unfold parse at h
  split at h
  · injection h with h1 h2; subst h2; decide
  · split at h
    · injection h with h1 h2; subst h2; decide
    · unfold parseToks at h
      split at h
      · cases h
      · rename_i l _ p' e' hp
        injection h with h1 h2
        subst h2
        exact nz_parseT _ _ _ _ hp
end Go.Proofs.YtjonaidancomgaaDoor.Qy

namespace Go.Proofs.YtjonaidancomgaaDoor.Qy
open Lx

theorem order_in {top : Int} : ∀ (l : List Int) (k f : Int), order top k l = some f → ∀ n ∈ l, 0 ≤ n ∧ n < top
  | [], _, _, _, n, hn => by simp at hn
  | a :: l, k, f, h, n, hn => by
    obtain ⟨h0, _, h2, h3⟩ := order_cons h
    rcases List.mem_cons.1 hn with rfl | hn
    · exact ⟨h0, h2⟩
    · exact order_in l _ f h3 n hn

theorem ok_in {q : Query} (H : Ok q) : ∀ n ∈ q.shown ++ (q.atoms.flatMap Atom.vars ++ q.tests.flatMap Test.vars), 0 ≤ n ∧ n < q.names.length := by
  have h := H.vars
  unfold Query.vars at h
  rw [args_vars] at h
  exact order_in _ _ _ h
theorem mem_as {is : List Item} {x : Atom} (h : Item.at_ x ∈ is) : x ∈ is.flatMap Item.as := List.mem_flatMap.2 ⟨_, h, by simp [Item.as]⟩
theorem mem_ts {is : List Item} {x : Test} (h : Item.te x ∈ is) : x ∈ is.flatMap Item.ts := List.mem_flatMap.2 ⟨_, h, by simp [Item.ts]⟩
theorem mem_items {q : Query} {is : List Item} (ha : is.flatMap Item.as = q.atoms) (ht : is.flatMap Item.ts = q.tests) {i : Item} (hi : i ∈ is) : i ∈ items q := by
  unfold items
  cases i with
  | at_ x => exact List.mem_append_left _ (List.mem_map.2 ⟨x, ha ▸ mem_as hi, rfl⟩)
  | te x => exact List.mem_append_right _ (List.mem_map.2 ⟨x, ht ▸ mem_ts hi, rfl⟩)
theorem items_in {q : Query} (H : Ok q) {i : Item} (hi : i ∈ items q) : ∀ n ∈ i.vars, 0 ≤ n ∧ n < q.names.length := fun n hn => by
  refine ok_in H n (List.mem_append_right _ ?_)
  rw [← items_vars]
  exact List.mem_flatMap.2 ⟨i, hi, hn⟩
theorem ren_as (M : List Int) (is : List Item) : (is.map (Item.ren M)).flatMap Item.as = (is.flatMap Item.as).map (Atom.ren M) := by
  induction is with
  | nil => rfl
  | cons i is ih => cases i <;> simp [Item.ren, Item.as, ih]
theorem ren_ts (M : List Int) (is : List Item) : (is.map (Item.ren M)).flatMap Item.ts = (is.flatMap Item.ts).map (Test.ren M) := by
  induction is with
  | nil => rfl
  | cons i is ih => cases i <;> simp [Item.ren, Item.ts, ih]
theorem arg_ren_vars (M : List Int) (a : Arg) : (a.ren M).vars = a.vars.map (ren M) := by
  obtain ⟨v, n⟩ := a
  cases v <;> rfl
theorem item_ren_vars (M : List Int) (i : Item) : (i.ren M).vars = i.vars.map (ren M) := by
  cases i <;> simp [Item.ren, Item.vars, Atom.vars, Test.vars, Atom.ren, Test.ren, arg_ren_vars]
theorem ren_vars (M : List Int) (is : List Item) : (is.map (Item.ren M)).flatMap Item.vars = (is.flatMap Item.vars).map (ren M) := by
  induction is with
  | nil => rfl
  | cons i is ih => simp [item_ren_vars, ih]
theorem arg_ren_ok {M : List Int} {a : Arg} (h : ArgOk a) : ArgOk (a.ren M) := by
  obtain ⟨v, n⟩ := a
  cases v with
  | true => exact Or.inl rfl
  | false => exact h
theorem item_ren_ok {M : List Int} {i : Item} (h : i.Ok) : (i.ren M).Ok := by
  cases i with
  | at_ x =>
    obtain ⟨a1, a2, a3, a4, a5, a6, a7, a8, a9⟩ := h
    exact ⟨a1, a2, a3, a4, a5, a6, arg_ren_ok a7, arg_ren_ok a8, arg_ren_ok a9⟩
  | te x =>
    obtain ⟨a1, a2, a7, a8⟩ := h
    exact ⟨a1, a2, arg_ren_ok a7, arg_ren_ok a8⟩
theorem count_items (is : List Item) : is.length = (is.flatMap Item.as).length + (is.flatMap Item.ts).length := by
  induction is with
  | nil => rfl
  | cons i is ih => cases i <;> simp [Item.as, Item.ts, ih] <;> omega
theorem names_nodup {ns : List (List UInt8)} {M : List Int} (hn : ns.Nodup) (hM : M.Nodup) (hin : ∀ n ∈ M, 0 ≤ n ∧ n < (ns.length : Int)) : (M.map (nmOf ns)).Nodup := by
  unfold List.Nodup
  rw [List.pairwise_map]
  refine List.Pairwise.imp_of_mem ?_ hM
  intro a b ha hb hab e
  obtain ⟨a0, a1⟩ := hin a ha
  obtain ⟨b0, b1⟩ := hin b hb
  have h1 : a.toNat < ns.length := by omega
  have h2 : b.toNat < ns.length := by omega
  unfold nmOf at e
  rw [show ns.getD a.toNat [] = ns[a.toNat] by simp [List.getD, List.getElem?_eq_getElem h1], show ns.getD b.toNat [] = ns[b.toNat] by simp [List.getD, List.getElem?_eq_getElem h2]] at e
  have := nodup_inj hn h1 h2 e
  exact hab (by omega)

theorem parse_mixed {q : Query} (h : valid q = true) {is : List Item} (ha : is.flatMap Item.as = q.atoms) (ht : is.flatMap Item.ts = q.tests) {m : List Lx.Tok} (hm : same (toksI q.names q.shown is) m = true) (last : Int) : parseToks m last = .ok q := by
  have H := valid_ok h
  have hio : ∀ i ∈ is, Item.Ok i := fun i hi => items_ok H i (mem_items ha ht hi)
  have hcnt := count_items is
  rw [ha, ht] at hcnt
  have hc1 := H.conds1
  have hc2 := H.conds16
  have hall : ∀ n ∈ q.shown ++ is.flatMap Item.vars, 0 ≤ n ∧ n < q.names.length := fun n hn => by
    rcases List.mem_append.1 hn with hn | hn
    · exact ok_in H n (List.mem_append_left _ hn)
    · obtain ⟨i, hi, hn⟩ := List.mem_flatMap.1 hn
      exact items_in H (mem_items ha ht hi) n hn
  have hmet0 : Met [] ⟨[], q.names, q.shown, q.atoms, q.tests⟩ := ⟨List.nodup_nil, fun n hn => by simp at hn⟩
  have hnum := ixList_num (q.shown ++ is.flatMap Item.vars) [] hmet0 hall
  have hren := ixList_ren (q.shown ++ is.flatMap Item.vars) [] (List.prefix_refl _)
  obtain ⟨M, hM⟩ : ∃ M, M = (ixList [] (q.shown ++ is.flatMap Item.vars)).2 := ⟨_, rfl⟩
  rw [← hM] at hnum hren
  obtain ⟨hr1, hr2⟩ := hren
  rw [hr1] at hnum
  have hord := hnum.order M.length [] (by omega)
  rw [List.append_nil, List.map_append, show (([] : List Int).length : Int) = 0 from rfl, order, ← ren_vars] at hord
  have hMn := hnum.met.nodup
  have hMi : ∀ n ∈ M, 0 ≤ n ∧ n < (q.names.length : Int) := hnum.met.inside
  have hroom := room q.names.length M hMn hMi
  have h8 := H.names8
  have hlen : (M.map (nmOf q.names)).length = M.length := List.length_map ..
  have hg : Good (M.map (nmOf q.names)) := ⟨by rw [hlen]; omega, fun n hn => by
    obtain ⟨i, hi, rfl⟩ := List.mem_map.1 hn
    obtain ⟨i0, i1⟩ := hMi i hi
    have hlt : i.toNat < q.names.length := by omega
    unfold nmOf
    rw [show q.names.getD i.toNat [] = q.names[i.toNat] by simp [List.getD, List.getElem?_eq_getElem hlt]]
    exact (H.names _ (List.getElem_mem _)).2, names_nodup H.nodup hMn hMi⟩
  have hsM : ∀ n ∈ q.shown, n ∈ M := fun n hn => hr2 n (List.mem_append_left _ hn)
  have hiM : ∀ n ∈ is.flatMap Item.vars, n ∈ M := fun n hn => hr2 n (List.mem_append_right _ hn)
  have hinj : ∀ a ∈ M, ∀ b ∈ M, ren M a = ren M b → a = b := fun a ha b hb e => ren_inj ha hb e
  have haM : ∀ n ∈ q.atoms.flatMap Atom.vars, n ∈ M := fun n hn => by
    rw [← ha] at hn
    obtain ⟨x, hx, hn⟩ := List.mem_flatMap.1 hn
    obtain ⟨i, hi, hx⟩ := List.mem_flatMap.1 hx
    refine hiM n (List.mem_flatMap.2 ⟨i, hi, ?_⟩)
    cases i with
    | at_ y => obtain rfl : x = y := by simpa [Item.as] using hx
               exact hn
    | te y => simp [Item.as] at hx
  have htM : ∀ n ∈ q.tests.flatMap Test.vars, n ∈ M := fun n hn => by
    rw [← ht] at hn
    obtain ⟨x, hx, hn⟩ := List.mem_flatMap.1 hn
    obtain ⟨i, hi, hx⟩ := List.mem_flatMap.1 hx
    refine hiM n (List.mem_flatMap.2 ⟨i, hi, ?_⟩)
    cases i with
    | te y => obtain rfl : x = y := by simpa [Item.ts] using hx
              exact hn
    | at_ y => simp [Item.ts] at hx
  have hsnd : (q.shown.map (ren M)).Nodup := by
    unfold List.Nodup
    rw [List.pairwise_map]
    exact List.Pairwise.imp_of_mem (fun ha hb hab e => hab (hinj _ (hsM _ ha) _ (hsM _ hb) e)) H.shown
  rw [← toksI_ren hsM hiM] at hm
  have hsh := H.show1
  have hvars := H.vars
  unfold Query.vars at hvars
  rw [args_vars] at hvars
  cases hs : q.shown with
  | nil => rw [hs] at hsh; simp at hsh
  | cons n0 sl =>
    cases hi : is with
    | nil => rw [hi] at hcnt; simp at hcnt; omega
    | cons i0 il =>
      have hp : parseT last ⟨m, [], [], [], []⟩ = .ok () ⟨[], (M.map (nmOf q.names)).take ((M.length : Int)).toNat, q.shown.map (ren M), (is.map (Item.ren M)).flatMap Item.as, (is.map (Item.ren M)).flatMap Item.ts⟩ := by
        rw [hs, hi] at hm hord
        rw [hs] at hsnd
        rw [hs, hi]
        have hio' : ∀ j ∈ i0.ren M :: il.map (Item.ren M), Item.Ok j := fun j hj => by
          have hj' : j ∈ (i0 :: il).map (Item.ren M) := hj
          obtain ⟨k, hk, rfl⟩ := List.mem_map.1 hj'
          exact item_ren_ok (hio k (hi ▸ hk))
        have hc' : (i0.ren M :: il.map (Item.ren M)).length ≤ 16 := by
          rw [hi] at hcnt
          simp only [List.length_cons, List.length_map] at hcnt ⊢
          omega
        exact parseT_ok last hg hsnd hio' hc' (by rw [hlen]; exact hord) hm
      rw [ren_as, ren_ts, ha, ht] at hp
      unfold parseToks
      rw [hp]
      simp only
      congr 1
      obtain ⟨k1, e1, q1, o1⟩ := ixList_rng q.shown 0 _ _ (Int.le_refl 0) hvars
      obtain ⟨k2, e2, q2, o2⟩ := ixAtoms_rng q.atoms k1 _ (q.tests.flatMap Test.vars) q1 o1
      obtain ⟨k3, e3, q3, o3⟩ := ixTests_rng q.tests k2 _ [] q2 (by rw [List.append_nil]; exact o2)
      rw [order] at o3
      injection o3 with o3
      subst o3
      rw [show rng 0 = [] from rfl] at e1
      obtain ⟨f1, g1⟩ := ixList_map hinj q.shown [] (by simp) hsM
      rw [e1] at f1 g1
      obtain ⟨f2, g2⟩ := ixAtoms_map hinj q.atoms (rng k1) g1 haM
      rw [e2] at f2 g2
      obtain ⟨f3, g3⟩ := ixTests_map hinj q.tests (rng k2) g2 htM
      rw [e3] at f3 g3
      simp only at f1 f2 f3 g3
      have f1' : ixList [] (q.shown.map (ren M)) = (q.shown, (rng k1).map (ren M)) := f1
      have f2' : ixAtoms ((rng k1).map (ren M)) (q.atoms.map (Atom.ren M)) = (q.atoms, (rng k2).map (ren M)) := f2
      have f3' : ixTests ((rng k2).map (ren M)) (q.tests.map (Test.ren M)) = (q.tests, (rng q.names.length).map (ren M)) := f3
      unfold renumber
      simp only
      rw [f1']
      simp only
      rw [f2']
      simp only
      rw [f3']
      simp only
      have hn : ((rng q.names.length).map (ren M)).map (fun i => ((M.map (nmOf q.names)).take ((M.length : Int)).toNat).getD i.toNat []) = q.names := by
        rw [Int.toNat_natCast, ← hlen, List.take_length, List.map_map]
        have e : (rng q.names.length).map ((fun i => (M.map (nmOf q.names)).getD i.toNat []) ∘ ren M) = (rng q.names.length).map (fun i => q.names.getD i.toNat []) := List.map_congr_left fun i hi => getD_ren (g3 i hi)
        rw [e, rng_names]
      rw [hn]

/-- The query with one condition. -/
def oneS (q : Query) (i : Item) : St := ⟨[], q.names, q.shown, i.as, i.ts⟩
theorem oneS_items (q : Query) (i : Item) : itemsS (oneS q i) = [i] := by cases i <;> rfl
theorem one_valid {q : Query} (h : valid q = true) {i : Item} (hi : i ∈ items q) : valid (renumber (oneS q i)) = true ∧ toksT (renumber (oneS q i)) = toksI q.names q.shown [i] := by
  have H := valid_ok h
  have hok := items_ok H i hi
  have hin := items_in H hi
  have hsh : ∀ n ∈ q.shown, 0 ≤ n ∧ n < (q.names.length : Int) := fun n hn => ok_in H n (List.mem_append_left _ hn)
  refine ⟨renumber_valid (s := oneS q i) ⟨⟨H.names8, H.names, H.nodup, fun t ht => by simp [oneS] at ht⟩, hsh, H.shown, room _ _ H.shown hsh, ?_, ?_⟩ ?_ ?_ H.show1, ?_⟩
  · intro x hx
    cases i with
    | at_ y => obtain rfl : x = y := by simpa [oneS, Item.as] using hx
               exact ⟨hok, hin⟩
    | te y => simp [oneS, Item.as] at hx
  · intro x hx
    cases i with
    | te y => obtain rfl : x = y := by simpa [oneS, Item.ts] using hx
              exact ⟨hok, hin⟩
    | at_ y => simp [oneS, Item.ts] at hx
  · cases i <;> simp [oneS, total, Item.as, Item.ts]
  · cases i <;> simp [oneS, total, Item.as, Item.ts]
  · rw [renumber_toks, oneS_items]
    rfl

/-- What a text is lexed as, whatever follows it. -/
def Lexes (s : List UInt8) (l : List Lx.Tok) : Prop := ∀ (rest : List UInt8) (p : Nat), Sep rest → ∃ m, same l m = true ∧ lexAt (s ++ rest) p = (lexAt rest (p + s.length)).app m
theorem same_app {a b c d : List Lx.Tok} (h : same a c = true) (h' : same b d = true) : same (a ++ b) (c ++ d) = true := by
  induction a generalizing c with
  | nil => rw [same_nil h]; exact h'
  | cons x r ih =>
    cases c with
    | nil => simp [same] at h
    | cons u m =>
      simp only [same, Bool.and_eq_true] at h
      simp only [List.cons_append, same, Bool.and_eq_true]
      exact ⟨h.1, ih h.2⟩
theorem app_app (a b : List Lx.Tok) (r : Res) : (r.app b).app a = r.app (a ++ b) := by cases r <;> simp [Res.app]
theorem cons_app (t : Lx.Tok) (r : Res) : r.cons t = r.app [t] := by cases r <;> rfl
theorem lexes_tok {t : Lx.Tok} (h : Lx.valid t = true) : Lexes t.out [t] := fun rest p hs => by
  refine ⟨[{ t with pos := p }], by simp [same, same1_pos], ?_⟩
  rw [lexAt_word h hs p, cons_app]
theorem lexes_space {a b : List UInt8} {l k : List Lx.Tok} (ha : Lexes a l) (hb : Lexes b k) : Lexes (a ++ 32 :: b) (l ++ k) := fun rest p hs => by
  obtain ⟨m1, s1, e1⟩ := ha (32 :: (b ++ rest)) p (sep_space rfl)
  obtain ⟨m2, s2, e2⟩ := hb rest (p + a.length + 1) hs
  refine ⟨m1 ++ m2, same_app s1 s2, ?_⟩
  rw [List.append_assoc, List.cons_append, e1, lexAt_skip (k := 1) (step_space rfl), List.drop_one, List.tail_cons, e2, app_app]
  congr 2
  simp only [List.length_append, List.length_cons]
  omega
theorem sign_valid {c : UInt8} (h : sign c = true) : Lx.valid (sgT c) = true := by
  show (sign c && decide ((0 : Int) = 0)) = true
  rw [h]; rfl
theorem lexes_comma {a b : List UInt8} {l k : List Lx.Tok} (ha : Lexes a l) (hb : Lexes b k) : Lexes (a ++ (44 :: 32 :: b)) (l ++ sgT 44 :: k) := fun rest p hs => by
  have h44 := lexes_tok (t := sgT 44) (by decide +kernel)
  obtain ⟨m1, s1, e1⟩ := ha (44 :: 32 :: (b ++ rest)) p (Or.inr ⟨44, _, rfl, by decide +kernel, by decide +kernel⟩)
  obtain ⟨m2, s2, e2⟩ := h44 (32 :: (b ++ rest)) (p + a.length) (sep_space rfl)
  obtain ⟨m3, s3, e3⟩ := hb rest (p + a.length + 2) hs
  refine ⟨m1 ++ (m2 ++ m3), same_app s1 (same_app (a := [sgT 44]) s2 s3), ?_⟩
  have e2' : lexAt (44 :: 32 :: (b ++ rest)) (p + a.length) = (lexAt (32 :: (b ++ rest)) (p + a.length + 1)).app m2 := e2
  rw [List.append_assoc, List.cons_append, List.cons_append, e1, e2', lexAt_skip (k := 1) (step_space rfl), List.drop_one, List.tail_cons, e3, app_app, app_app, List.append_assoc]
  congr 2
  simp only [List.length_append, List.length_cons]
  omega
theorem lexes_join : ∀ (l : List Lx.Tok), l ≠ [] → (∀ t ∈ l, Lx.valid t = true) → Lexes (joinSp (l.map Tok.out)) l
  | [], h, _ => absurd rfl h
  | [t], _, hv => lexes_tok (hv t (by simp))
  | t :: u :: l, _, hv => lexes_space (lexes_tok (hv t (by simp))) (lexes_join (u :: l) (by simp) fun x hx => hv x (List.mem_cons_of_mem _ hx))
theorem lexes_end {a : List UInt8} {l : List Lx.Tok} (ha : Lexes a l) : ∃ m, lex (a ++ [59]) = .ok m ∧ same (l ++ [sgT 59]) m = true := by
  have h59 := lexes_tok (t := sgT 59) (by decide +kernel)
  obtain ⟨m1, s1, e1⟩ := ha [59] 0 (Or.inr ⟨59, _, rfl, by decide +kernel, by decide +kernel⟩)
  obtain ⟨m2, s2, e2⟩ := h59 [] (0 + a.length) sep_nil
  have e2' : lexAt [59] (0 + a.length) = (lexAt [] (0 + a.length + 1)).app m2 := e2
  refine ⟨m1 ++ m2, ?_, same_app s1 s2⟩
  unfold lex
  rw [e1, e2', lexAt_nil, app_app]
  simp [Res.app]
theorem join_app : ∀ (a b : List (List UInt8)), a ≠ [] → b ≠ [] → joinSp (a ++ b) = joinSp a ++ 32 :: joinSp b
  | [], _, h, _ => absurd rfl h
  | [x], y :: b, _, _ => rfl
  | x :: y :: a, b, _, hb => by
    have ih := join_app (y :: a) b (by simp) hb
    rw [List.cons_append, List.cons_append, joinSp, ← List.cons_append, ih, joinSp]
    simp

/-- The tokens ahead of the conditions. -/
def headT (q : Query) : List Lx.Tok := nameT wShow :: (sepT (q.shown.map fun n => [nmT q.names n]) ++ [nameT wWhere])
theorem toksI_head (q : Query) (is : List Item) : toksI q.names q.shown is = headT q ++ (sepT (is.map (Item.toks q.names)) ++ [sgT 59]) := by
  unfold toksI headT
  simp
theorem toks_ne (ns : List (List UInt8)) (i : Item) : i.toks ns ≠ [] := by cases i <;> simp [Item.toks, atomT, testT]
/-- A condition's text, and the head's. -/
def condS (q : Query) (i : Item) : List UInt8 := joinSp ((i.toks q.names).map Tok.out)
def headS (q : Query) : List UInt8 := joinSp ((headT q).map Tok.out)
theorem one_print {q : Query} (h : valid q = true) {i : Item} (hi : i ∈ items q) : printR (renumber (oneS q i)) = (Lx.bs (headS q ++ 32 :: condS q i ++ [32, 59]), 0) := by
  obtain ⟨hv, ht⟩ := one_valid h hi
  obtain ⟨s, h1, _, _⟩ := parse_print hv
  have e : s = headS q ++ 32 :: condS q i ++ [32, 59] := by
    unfold Lx.text at h1
    split at h1
    · injection h1 with h1
      rw [← h1, ht, toksI_head]
      show joinSp ((headT q ++ (sepT [i.toks q.names] ++ [sgT 59])).map Tok.out) = _
      rw [sepT, List.map_append, List.map_append, join_app _ _ (by simp [headT]) (by simp), join_app _ _ (by simp [toks_ne]) (by simp)]
      simp [headS, condS, joinSp, sgT, Tok.out]
    · cases h1
  rw [e] at h1
  unfold printR
  rw [hv, h1]
  rfl

/-- The source of a query whose conditions stand in this order. -/
def condsS (q : Query) : List Item → List UInt8
  | [] => []
  | [i] => condS q i
  | i :: j :: r => condS q i ++ 44 :: 32 :: condsS q (j :: r)
theorem condsS_snoc (q : Query) (i : Item) : ∀ is : List Item, is ≠ [] → condsS q (is ++ [i]) = condsS q is ++ 44 :: 32 :: condS q i
  | [], h => absurd rfl h
  | [j], _ => rfl
  | j :: k :: r, _ => by
    have ih := condsS_snoc q i (k :: r) (by simp)
    rw [List.cons_append, List.cons_append, condsS, ← List.cons_append, ih, condsS]
    simp
def srcS (q : Query) (is : List Item) : List UInt8 := headS q ++ 32 :: condsS q is
theorem item_valid {q : Query} (h : valid q = true) {i : Item} (hi : i ∈ items q) : (∀ t ∈ i.toks q.names, Lx.valid t = true) ∧ ∀ t ∈ headT q, Lx.valid t = true := by
  obtain ⟨hv, ht⟩ := one_valid h hi
  have hall := toksT_valid ((valid_iff _).1 hv)
  rw [ht, toksI_head] at hall
  exact ⟨fun t hti => hall t (List.mem_append_right _ (List.mem_append_left _ (by show t ∈ sepT [i.toks q.names]; rw [sepT]; exact hti))), fun t hti => hall t (List.mem_append_left _ hti)⟩
theorem lexes_conds {q : Query} (h : valid q = true) : ∀ (is : List Item), is ≠ [] → (∀ i ∈ is, i ∈ items q) → Lexes (condsS q is) (sepT (is.map (Item.toks q.names)))
  | [], h, _ => absurd rfl h
  | [i], _, hi => by
    show Lexes (condS q i) (i.toks q.names)
    exact lexes_join _ (toks_ne _ _) (item_valid h (hi i (by simp))).1
  | i :: j :: r, _, hi =>
    lexes_comma (lexes_join _ (toks_ne _ _) (item_valid h (hi i (by simp))).1) (lexes_conds h (j :: r) (by simp) fun k hk => hi k (List.mem_cons_of_mem _ hk))
theorem toks_few (ns : List (List UInt8)) (i : Item) : (i.toks ns).length ≤ 12 := by
  cases i with
  | at_ x => simp [Item.toks, atomT]
  | te x =>
    simp only [Item.toks, testT, operT]
    split
    · simp
    · split
      · simp
      · split <;> simp
theorem condS_len {q : Query} (h : valid q = true) {i : Item} (hi : i ∈ items q) : (condS q i).length ≤ 396 ∧ (headS q).length ≤ 1000 := by
  obtain ⟨h1, h2⟩ := item_valid h hi
  have H := valid_ok h
  have h8 := H.show8
  have j1 := joinSp_len ((i.toks q.names).map Tok.out) (fun x hx => by
    obtain ⟨t, ht, rfl⟩ := List.mem_map.1 hx
    exact valid_out (h1 t ht))
  have j2 := joinSp_len ((headT q).map Tok.out) (fun x hx => by
    obtain ⟨t, ht, rfl⟩ := List.mem_map.1 hx
    exact valid_out (h2 t ht))
  have h3 := sepT_len 1 (q.shown.map fun n => [nmT q.names n]) (fun x hx => by
    obtain ⟨n, _, rfl⟩ := List.mem_map.1 hx
    simp)
  have h4 := toks_few q.names i
  have h5 : (headT q).length = (sepT (q.shown.map fun n => [nmT q.names n])).length + 2 := by
    unfold headT
    simp
  rw [List.length_map] at j1 j2 h3
  unfold condS headS
  omega
theorem conds_len {q : Query} (h : valid q = true) : ∀ (is : List Item), (∀ i ∈ is, i ∈ items q) → (condsS q is).length ≤ 398 * is.length
  | [], _ => by simp [condsS]
  | [i], hi => by
    have := (condS_len h (hi i (by simp))).1
    show (condS q i).length ≤ _
    simp only [List.length_cons, List.length_nil]
    omega
  | i :: j :: r, hi => by
    have h1 := (condS_len h (hi i (by simp))).1
    have h2 := conds_len h (j :: r) fun k hk => hi k (List.mem_cons_of_mem _ hk)
    show (condS q i ++ 44 :: 32 :: condsS q (j :: r)).length ≤ _
    simp only [List.length_append, List.length_cons] at h2 ⊢
    omega
theorem mixed_src {q : Query} (h : valid q = true) {is : List Item} (ha : is.flatMap Item.as = q.atoms) (ht : is.flatMap Item.ts = q.tests) : parse (srcS q is ++ [59]) = .ok q := by
  have H := valid_ok h
  have hcnt := count_items is
  rw [ha, ht] at hcnt
  have hc1 := H.conds1
  have hc2 := H.conds16
  have hmem : ∀ i ∈ is, i ∈ items q := fun i hi => mem_items ha ht hi
  obtain ⟨i0, hi0⟩ : ∃ i, i ∈ is := by
    cases is with
    | nil => simp at hcnt; omega
    | cons i r => exact ⟨i, by simp⟩
  have hne : is ≠ [] := fun e => by rw [e] at hi0; simp at hi0
  have hl1 := conds_len h is hmem
  have hl2 := (condS_len h (hmem i0 hi0)).2
  have hlx : Lexes (srcS q is) (headT q ++ sepT (is.map (Item.toks q.names))) := lexes_space (lexes_join _ (by simp [headT]) (item_valid h (hmem i0 hi0)).2) (lexes_conds h is hne hmem)
  obtain ⟨m, e1, e2⟩ := lexes_end hlx
  have hs : same (toksI q.names q.shown is) m = true := by
    rw [toksI_head, ← List.append_assoc]
    exact e2
  have hlen : (srcS q is ++ [59]).length ≤ 65536 := by
    unfold srcS
    simp only [List.length_append, List.length_cons, List.length_nil]
    omega
  unfold parse
  rw [if_neg (by omega), e1]
  exact parse_mixed h ha ht hs _
end Go.Proofs.YtjonaidancomgaaDoor.Qy

namespace Go.Proofs.YtjonaidancomgaaDoor.Qy
open Lx

theorem joinSp_cons (x : List UInt8) : ∀ l : List (List UInt8), joinSp (x :: l) = x ++ l.flatMap (fun y => 32 :: y)
  | [] => by simp [joinSp]
  | y :: l => by
    rw [joinSp, joinSp_cons y l]
    simp
/-- The head so far: some names. -/
def headW (l : List (List UInt8)) : List UInt8 := match l with
  | [] => [115, 104, 111, 119, 32]
  | n :: r => [115, 104, 111, 119, 32] ++ n ++ r.flatMap (fun n => [32, 44, 32] ++ n)
theorem headW_snoc (l : List (List UInt8)) (x : List UInt8) : headW (l ++ [x]) = headW l ++ (if l = [] then [] else [32, 44, 32]) ++ x := by
  cases l with
  | nil => simp [headW]
  | cons n r => simp [headW]
theorem headW_len : ∀ l : List (List UInt8), (∀ x ∈ l, x.length ≤ 32) → (headW l).length ≤ 5 + 35 * l.length
  | [], _ => by simp [headW]
  | n :: r, h => by
    have h1 := h n (by simp)
    have h2 : ∀ l : List (List UInt8), (∀ x ∈ l, x.length ≤ 32) → (l.flatMap (fun n => [32, 44, 32] ++ n)).length ≤ 35 * l.length := by
      intro l
      induction l with
      | nil => simp
      | cons a l ih =>
        intro h
        have h3 := h a (by simp)
        have h4 := ih fun x hx => h x (List.mem_cons_of_mem _ hx)
        rw [List.flatMap_cons, List.length_append]
        simp only [List.length_append, List.length_cons, List.length_nil]
        omega
    have h5 := h2 r fun x hx => h x (List.mem_cons_of_mem _ hx)
    simp only [headW, List.length_append, List.length_cons, List.length_nil]
    omega
theorem isName_len {n : List UInt8} (h : isName n = true) : n.length ≤ 32 := by
  obtain ⟨c, r, rfl, _, _, h4⟩ := isName_part h
  exact h4
theorem nm_len {q : Query} (h : Ok q) {n : Int} (h0 : 0 ≤ n) (h1 : n < q.names.length) : (nmOf q.names n).length ≤ 32 := by
  have hlt : n.toNat < q.names.length := by omega
  unfold nmOf
  rw [show q.names.getD n.toNat [] = q.names[n.toNat] by simp [List.getD, List.getElem?_eq_getElem hlt]]
  exact isName_len (h.names _ (List.getElem_mem _)).1
def headE : List UInt8 := [32, 119, 104, 101, 114, 101, 32]
theorem headW_all (q : Query) (h : q.shown ≠ []) : headW (q.shown.map fun n => q.names.getD n.toNat []) ++ headE = headS q ++ [32] := by
  unfold headS headT
  cases hs : q.shown with
  | nil => exact absurd hs h
  | cons n r =>
    have e0 : sepT ((n :: r).map fun n => [nmT q.names n]) = [nmT q.names n] ++ (r.map fun n => [nmT q.names n]).flatMap (fun y => sgT 44 :: y) := sepT_cons _ _
    have e1 : ((r.map fun n => [nmT q.names n]).flatMap (fun y => sgT 44 :: y)).map Tok.out = r.flatMap fun n => [[44], q.names.getD n.toNat []] := by
      rw [List.flatMap_map, List.map_flatMap]
      rfl
    have e2 : (nameT wShow :: (sepT ((n :: r).map fun n => [nmT q.names n]) ++ [nameT wWhere])).map Tok.out = [115, 104, 111, 119] :: (q.names.getD n.toNat [] :: (r.flatMap fun n => [[44], q.names.getD n.toNat []]) ++ [[119, 104, 101, 114, 101]]) := by
      rw [e0, List.map_cons, List.map_append, List.map_append, e1]
      rfl
    rw [e2, joinSp_cons, List.map_cons]
    simp only [headW, headE, List.flatMap_cons, List.flatMap_append, List.flatMap_nil, List.flatMap_map, List.flatMap_assoc]
    simp
section
variable (H C : List UInt8)
theorem cut_front : (Lx.bs (H ++ C ++ ([32, 59] : List UInt8))).extract 0 H.length = Lx.bs H := by
  apply Lx.bs_of'
  have := Lx.ext_list (Lx.bs (H ++ C ++ ([32, 59] : List UInt8))) 0 H.length
  rw [Nat.zero_add] at this
  rw [this, Lx.bs_list, List.drop_zero]
  simp
theorem cut_end : (Lx.bs (H ++ C ++ ([32, 59] : List UInt8))).extract ((H ++ C ++ ([32, 59] : List UInt8)).length - 2) (H ++ C ++ ([32, 59] : List UInt8)).length = Lx.bs [32, 59] := by
  apply Lx.bs_of'
  have := Lx.ext_list (Lx.bs (H ++ C ++ ([32, 59] : List UInt8))) ((H ++ C ++ ([32, 59] : List UInt8)).length - 2) 2
  rw [show (H ++ C ++ ([32, 59] : List UInt8)).length - 2 + 2 = (H ++ C ++ ([32, 59] : List UInt8)).length by simp; omega] at this
  rw [this, Lx.bs_list, show (H ++ C ++ ([32, 59] : List UInt8)).length - 2 = (H ++ C).length by simp; omega, List.drop_left]
  rfl
theorem cut_mid : (Lx.bs (H ++ C ++ ([32, 59] : List UInt8))).extract H.length ((H ++ C ++ ([32, 59] : List UInt8)).length - 2) = Lx.bs C := by
  apply Lx.bs_of'
  have := Lx.ext_list (Lx.bs (H ++ C ++ ([32, 59] : List UInt8))) H.length C.length
  rw [show (H ++ C ++ ([32, 59] : List UInt8)).length - 2 = H.length + C.length by simp; omega]
  rw [this, Lx.bs_list, List.append_assoc, List.drop_left]
  simp
end
theorem one_text (q : Query) (i : Item) : headS q ++ 32 :: condS q i ++ [32, 59] = (headS q ++ [32]) ++ condS q i ++ [32, 59] := by simp
/-- The conditions joined so far. -/
theorem srcS_zero (q : Query) : srcS q [] = headS q ++ [32] := rfl
theorem srcS_snoc (q : Query) (is : List Item) (i : Item) : srcS q (is ++ [i]) = srcS q is ++ (if is = [] then [] else [44, 32]) ++ condS q i := by
  unfold srcS
  by_cases h : is = []
  · subst h; simp [condsS]
  · rw [condsS_snoc q i is h, if_neg h]
    simp
theorem items_at {q : Query} {k : Nat} {x : Atom} (h : q.atoms[k]? = some x) : Item.at_ x ∈ items q := by
  unfold items
  exact List.mem_append_left _ (List.mem_map.2 ⟨x, List.mem_of_getElem? h, rfl⟩)
theorem items_te {q : Query} {k : Nat} {x : Test} (h : q.tests[k]? = some x) : Item.te x ∈ items q := by
  unfold items
  exact List.mem_append_right _ (List.mem_map.2 ⟨x, List.mem_of_getElem? h, rfl⟩)
theorem src_len {q : Query} (h : valid q = true) (is : List Item) (hi : ∀ i ∈ is, i ∈ items q) (h16 : is.length ≤ 16) : (srcS q is).length ≤ 8000 := by
  have H := valid_ok h
  have h1 := conds_len h is hi
  have hc1 := H.conds1
  have h2 : (headS q).length ≤ 1000 := by
    cases ha : q.atoms with
    | cons x r => exact (condS_len h (items_at (k := 0) (x := x) (by rw [ha]; rfl))).2
    | nil =>
      cases ht : q.tests with
      | cons x r => exact (condS_len h (items_te (k := 0) (x := x) (by rw [ht]; rfl))).2
      | nil => rw [ha, ht] at hc1; simp at hc1
  unfold srcS
  simp only [List.length_append, List.length_cons]
  omega
end Go.Proofs.YtjonaidancomgaaDoor.Qy

namespace Go.Proofs.YtjonaidancomgaaDoor
open Go.RowKit

def atomV (x : Qy.Atom) : Value := .agg #[.int .i64 x.kind, .bool x.subj.var, .int .i64 x.subj.n, .bool x.obj.var, .int .i64 x.obj.n, .bool x.val.var, .int .i64 x.val.n, .int .i64 x.term, .int .i64 x.known]
def testV (x : Qy.Test) : Value := .agg #[.int .i64 x.op, .bool x.a.var, .int .i64 x.a.n, .bool x.b.var, .int .i64 x.b.n]
theorem eqBool (d : Nat) (w : World) (x y : Bool) : (Op.equalIn (d + 1) 4 (.bool x) (.bool y)).run Tryd.prog w = .ok (x == y) w := run_equalIn_bool w d 4 x y Tryd.underlying4
theorem eqInt (d : Nat) (w : World) (x y : Int) : (Op.equalIn (d + 1) 3 (.int .i64 x) (.int .i64 y)).run Tryd.prog w = .ok (x == y) w := run_equalIn_int w d 3 .i64 .i64 x y Tryd.underlying3
theorem eqArg (d : Nat) (a b : Qy.Arg) (w : World) : (Op.equalIn (d + 1 + 1) 40 (.agg #[.bool a.var, .int .i64 a.n]) (.agg #[.bool b.var, .int .i64 b.n])).run Tryd.prog w = .ok (a.var == b.var && a.n == b.n) w := by
  rw [run_equalIn_struct w (d + 1) 40 _ _ (by kernel_rfl) (by kernel_rfl)]
  have p0 : ∀ (w : World) (x : Bool) (n : Int), (part 4 #[.bool x, .int .i64 n] 0).run Tryd.prog w = .ok (.bool x) w := fun _ _ _ => by kernel_rfl
  have p1 : ∀ (w : World) (x : Bool) (n : Int), (part 3 #[.bool x, .int .i64 n] 1).run Tryd.prog w = .ok (.int .i64 n) w := fun _ _ _ => by kernel_rfl
  simp only [Program.fieldsOf, Tryd.underlying40]
  cases h1 : a.var == b.var <;> cases h2 : a.n == b.n <;> simp [Op.eqFields, p0, p1, eqBool, eqInt, h1, h2]
theorem eqAtom (x y : Qy.Atom) (w : World) : (Op.equal 43 (atomV x) (atomV y)).run Tryd.prog w = .ok (decide (x = y)) w := by
  have e : decide (x = y) = (x.kind == y.kind && ((x.subj.var == y.subj.var && x.subj.n == y.subj.n) && ((x.obj.var == y.obj.var && x.obj.n == y.obj.n) && ((x.val.var == y.val.var && x.val.n == y.val.n) && (x.term == y.term && x.known == y.known))))) := by
    obtain ⟨a, ⟨b, c⟩, ⟨d, e⟩, ⟨f, g⟩, i, j⟩ := x
    obtain ⟨a', ⟨b', c'⟩, ⟨d', e'⟩, ⟨f', g'⟩, i', j'⟩ := y
    rw [Bool.eq_iff_iff]
    simp only [decide_eq_true_eq, Qy.Atom.mk.injEq, Qy.Arg.mk.injEq, Bool.and_eq_true, beq_iff_eq]
  rw [e]
  show (Op.equalIn (9997 + 1 + 1 + 1) 43 (atomV x) (atomV y)).run Tryd.prog w = _
  unfold atomV
  rw [run_equalIn_struct w (9997 + 1 + 1) 43 _ _ (by kernel_rfl) (by kernel_rfl)]
  have p0 : ∀ (w : World) (z : Qy.Atom), (part 3 #[.int .i64 z.kind, .bool z.subj.var, .int .i64 z.subj.n, .bool z.obj.var, .int .i64 z.obj.n, .bool z.val.var, .int .i64 z.val.n, .int .i64 z.term, .int .i64 z.known] 0).run Tryd.prog w = .ok (.int .i64 z.kind) w := fun _ _ => by kernel_rfl
  have p1 : ∀ (w : World) (z : Qy.Atom), (part 40 #[.int .i64 z.kind, .bool z.subj.var, .int .i64 z.subj.n, .bool z.obj.var, .int .i64 z.obj.n, .bool z.val.var, .int .i64 z.val.n, .int .i64 z.term, .int .i64 z.known] 1).run Tryd.prog w = .ok (.agg #[.bool z.subj.var, .int .i64 z.subj.n]) w := fun _ _ => by kernel_rfl
  have p3 : ∀ (w : World) (z : Qy.Atom), (part 40 #[.int .i64 z.kind, .bool z.subj.var, .int .i64 z.subj.n, .bool z.obj.var, .int .i64 z.obj.n, .bool z.val.var, .int .i64 z.val.n, .int .i64 z.term, .int .i64 z.known] 3).run Tryd.prog w = .ok (.agg #[.bool z.obj.var, .int .i64 z.obj.n]) w := fun _ _ => by kernel_rfl
  have p5 : ∀ (w : World) (z : Qy.Atom), (part 40 #[.int .i64 z.kind, .bool z.subj.var, .int .i64 z.subj.n, .bool z.obj.var, .int .i64 z.obj.n, .bool z.val.var, .int .i64 z.val.n, .int .i64 z.term, .int .i64 z.known] 5).run Tryd.prog w = .ok (.agg #[.bool z.val.var, .int .i64 z.val.n]) w := fun _ _ => by kernel_rfl
  have p7 : ∀ (w : World) (z : Qy.Atom), (part 3 #[.int .i64 z.kind, .bool z.subj.var, .int .i64 z.subj.n, .bool z.obj.var, .int .i64 z.obj.n, .bool z.val.var, .int .i64 z.val.n, .int .i64 z.term, .int .i64 z.known] 7).run Tryd.prog w = .ok (.int .i64 z.term) w := fun _ _ => by kernel_rfl
  have p8 : ∀ (w : World) (z : Qy.Atom), (part 3 #[.int .i64 z.kind, .bool z.subj.var, .int .i64 z.subj.n, .bool z.obj.var, .int .i64 z.obj.n, .bool z.val.var, .int .i64 z.val.n, .int .i64 z.term, .int .i64 z.known] 8).run Tryd.prog w = .ok (.int .i64 z.known) w := fun _ _ => by kernel_rfl
  simp only [Program.fieldsOf, Tryd.underlying43]
  cases h1 : x.kind == y.kind
  · simp [Op.eqFields, p0, eqInt, h1]
  cases h2 : (x.subj.var == y.subj.var && x.subj.n == y.subj.n)
  · simp only [Op.eqFields, Sem.run_bind, Sem.run_ite, p0, p1, eqInt, eqArg, h1, h2, Result.andThen_ok]; simp
  cases h3 : (x.obj.var == y.obj.var && x.obj.n == y.obj.n)
  · simp only [Op.eqFields, Sem.run_bind, Sem.run_ite, p0, p1, p3, eqInt, eqArg, h1, h2, h3, Result.andThen_ok]; simp
  cases h4 : (x.val.var == y.val.var && x.val.n == y.val.n)
  · simp only [Op.eqFields, Sem.run_bind, Sem.run_ite, p0, p1, p3, p5, eqInt, eqArg, h1, h2, h3, h4, Result.andThen_ok]; simp
  cases h5 : x.term == y.term
  · simp only [Op.eqFields, Sem.run_bind, Sem.run_ite, p0, p1, p3, p5, p7, eqInt, eqArg, h1, h2, h3, h4, h5, Result.andThen_ok]; simp
  cases h6 : x.known == y.known
  · simp only [Op.eqFields, Sem.run_bind, Sem.run_ite, p0, p1, p3, p5, p7, p8, eqInt, eqArg, h1, h2, h3, h4, h5, h6, Result.andThen_ok]; simp
  · simp only [Op.eqFields, Sem.run_bind, Sem.run_ite, p0, p1, p3, p5, p7, p8, eqInt, eqArg, h1, h2, h3, h4, h5, h6, Result.andThen_ok]; simp
theorem eqTest (x y : Qy.Test) (w : World) : (Op.equal 45 (testV x) (testV y)).run Tryd.prog w = .ok (decide (x = y)) w := by
  have e : decide (x = y) = (x.op == y.op && ((x.a.var == y.a.var && x.a.n == y.a.n) && (x.b.var == y.b.var && x.b.n == y.b.n))) := by
    obtain ⟨a, ⟨b, c⟩, ⟨d, e⟩⟩ := x
    obtain ⟨a', ⟨b', c'⟩, ⟨d', e'⟩⟩ := y
    rw [Bool.eq_iff_iff]
    simp only [decide_eq_true_eq, Qy.Test.mk.injEq, Qy.Arg.mk.injEq, Bool.and_eq_true, beq_iff_eq]
  rw [e]
  show (Op.equalIn (9997 + 1 + 1 + 1) 45 (testV x) (testV y)).run Tryd.prog w = _
  unfold testV
  rw [run_equalIn_struct w (9997 + 1 + 1) 45 _ _ (by kernel_rfl) (by kernel_rfl)]
  have p0 : ∀ (w : World) (z : Qy.Test), (part 3 #[.int .i64 z.op, .bool z.a.var, .int .i64 z.a.n, .bool z.b.var, .int .i64 z.b.n] 0).run Tryd.prog w = .ok (.int .i64 z.op) w := fun _ _ => by kernel_rfl
  have p1 : ∀ (w : World) (z : Qy.Test), (part 40 #[.int .i64 z.op, .bool z.a.var, .int .i64 z.a.n, .bool z.b.var, .int .i64 z.b.n] 1).run Tryd.prog w = .ok (.agg #[.bool z.a.var, .int .i64 z.a.n]) w := fun _ _ => by kernel_rfl
  have p3 : ∀ (w : World) (z : Qy.Test), (part 40 #[.int .i64 z.op, .bool z.a.var, .int .i64 z.a.n, .bool z.b.var, .int .i64 z.b.n] 3).run Tryd.prog w = .ok (.agg #[.bool z.b.var, .int .i64 z.b.n]) w := fun _ _ => by kernel_rfl
  simp only [Program.fieldsOf, Tryd.underlying45]
  cases h1 : x.op == y.op
  · simp [Op.eqFields, p0, eqInt, h1]
  cases h2 : (x.a.var == y.a.var && x.a.n == y.a.n)
  · simp only [Op.eqFields, Sem.run_bind, Sem.run_ite, p0, p1, eqInt, eqArg, h1, h2, Result.andThen_ok]; simp
  cases h3 : (x.b.var == y.b.var && x.b.n == y.b.n)
  · simp only [Op.eqFields, Sem.run_bind, Sem.run_ite, p0, p1, p3, eqInt, eqArg, h1, h2, h3, Result.andThen_ok]; simp
  · simp only [Op.eqFields, Sem.run_bind, Sem.run_ite, p0, p1, p3, eqInt, eqArg, h1, h2, h3, Result.andThen_ok]; simp
theorem neqAtom (x y : Qy.Atom) (w : World) : (binOp .neq 43 (atomV x) (atomV y)).run Tryd.prog w = .ok (.bool (!decide (x = y))) w := by
  have h := eqAtom x y w
  unfold atomV at h ⊢
  simp only [binOp]
  simp [h]
theorem neqTest (x y : Qy.Test) (w : World) : (binOp .neq 45 (testV x) (testV y)).run Tryd.prog w = .ok (.bool (!decide (x = y))) w := by
  have h := eqTest x y w
  unfold testV at h ⊢
  simp only [binOp]
  simp [h]
end Go.Proofs.YtjonaidancomgaaDoor
