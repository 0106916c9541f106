/- Parts of the proof, joined into one text: QyFin, QyEnd, QyRound. -/
import Derived.Test.YtjonaidancomgaaDoorZQyStartB
import Derived.Sort.QuietThIn
import Derived.Sort.QuietTacIn
import Derived.RangeFuncCalls
import Derived.OrdersHeld
import Derived.Test.YtjonaidancomgaaDoorZQyMxB

namespace Go.Proofs.YtjonaidancomgaaDoor
open Go.RowKit

namespace Qy
def ixArgs : List Int → List Arg → List Arg × List Int
  | m, [] => ([], m)
  | m, a :: r => ((ixArg m a).1 :: (ixArgs (ixArg m a).2 r).1, (ixArgs (ixArg m a).2 r).2)
theorem ixArgs_app : ∀ (a : List Arg) (m : List Int) (b : List Arg), ixArgs m (a ++ b) = ((ixArgs m a).1 ++ (ixArgs (ixArgs m a).2 b).1, (ixArgs (ixArgs m a).2 b).2)
  | [], m, b => rfl
  | x :: r, m, b => by
    show ((ixArg m x).1 :: (ixArgs (ixArg m x).2 (r ++ b)).1, (ixArgs (ixArg m x).2 (r ++ b)).2) = _
    rw [ixArgs_app r]
    rfl
theorem ixAtoms_args : ∀ (l : List Atom) (m : List Int), (ixAtoms m l).1.flatMap aArgs = (ixArgs m (l.flatMap aArgs)).1 ∧ (ixAtoms m l).2 = (ixArgs m (l.flatMap aArgs)).2
  | [], m => ⟨rfl, rfl⟩
  | x :: r, m => by
    obtain ⟨h1, h2⟩ := ixAtoms_args r (ixArg (ixArg (ixArg m x.subj).2 x.obj).2 x.val).2
    rw [List.flatMap_cons, ixArgs_app]
    exact ⟨by
      show aArgs _ ++ (ixAtoms (ixArg (ixArg (ixArg m x.subj).2 x.obj).2 x.val).2 r).1.flatMap aArgs = _
      rw [h1]; rfl, by
      show (ixAtoms (ixArg (ixArg (ixArg m x.subj).2 x.obj).2 x.val).2 r).2 = _
      rw [h2]; rfl⟩
theorem ixTests_args : ∀ (l : List Test) (m : List Int), (ixTests m l).1.flatMap tArgs = (ixArgs m (l.flatMap tArgs)).1 ∧ (ixTests m l).2 = (ixArgs m (l.flatMap tArgs)).2
  | [], m => ⟨rfl, rfl⟩
  | x :: r, m => by
    obtain ⟨h1, h2⟩ := ixTests_args r (ixArg (ixArg m x.a).2 x.b).2
    rw [List.flatMap_cons, ixArgs_app]
    exact ⟨by
      show tArgs _ ++ (ixTests (ixArg (ixArg m x.a).2 x.b).2 r).1.flatMap tArgs = _
      rw [h1]; rfl, by
      show (ixTests (ixArg (ixArg m x.a).2 x.b).2 r).2 = _
      rw [h2]; rfl⟩
theorem ixArgs_vars : ∀ (gs : List Arg) (m : List Int), (ixArgs m gs).1.flatMap Arg.vars = (ixList m (gs.flatMap Arg.vars)).1 ∧ (ixArgs m gs).2 = (ixList m (gs.flatMap Arg.vars)).2
  | [], m => ⟨rfl, rfl⟩
  | ⟨v, n⟩ :: r, m => by
    rw [List.flatMap_cons, ixList_app]
    cases v with
    | true =>
      obtain ⟨h1, h2⟩ := ixArgs_vars r (ix m n).2
      exact ⟨by
        show (ix m n).1 :: (ixArgs (ix m n).2 r).1.flatMap Arg.vars = _
        rw [h1]; rfl, by
        show (ixArgs (ix m n).2 r).2 = _
        rw [h2]; rfl⟩
    | false =>
      obtain ⟨h1, h2⟩ := ixArgs_vars r m
      exact ⟨by
        show (ixArgs m r).1.flatMap Arg.vars = _
        rw [h1]; rfl, by
        show (ixArgs m r).2 = _
        rw [h2]; rfl⟩
theorem ixArg_same (m : List Int) (a : Arg) : (ixArg m a).1.var = a.var ∧ (a.var = false → (ixArg m a).1 = a) := by
  obtain ⟨v, n⟩ := a
  cases v
  · exact ⟨rfl, fun _ => rfl⟩
  · exact ⟨rfl, fun h => by cases h⟩
theorem ixArgs_same : ∀ (gs : List Arg) (m : List Int), (ixArgs m gs).1.map Arg.var = gs.map Arg.var ∧ ∀ (i : Nat) (y y' : Arg), gs[i]? = some y → (ixArgs m gs).1[i]? = some y' → y'.var = y.var ∧ (y.var = false → y' = y)
  | [], m => ⟨rfl, fun i y y' h => by simp at h⟩
  | a :: r, m => by
    obtain ⟨h1, h2⟩ := ixArgs_same r (ixArg m a).2
    refine ⟨?_, fun i y y' hy hy' => ?_⟩
    · show (ixArg m a).1.var :: (ixArgs (ixArg m a).2 r).1.map Arg.var = _
      rw [h1, (ixArg_same m a).1]; rfl
    · cases i with
      | zero =>
        simp at hy
        subst hy
        have : (ixArg m a).1 = y' := by simpa [ixArgs] using hy'
        subst this
        exact ixArg_same m a
      | succ i => exact h2 i y y' (by simpa using hy) (by simpa [ixArgs] using hy')
theorem ixArgs_len (gs : List Arg) (m : List Int) : (ixArgs m gs).1.length = gs.length := by
  have := congrArg List.length (ixArgs_same gs m).1
  simpa using this
theorem ixAtoms_at : ∀ (l : List Atom) (m : List Int), (ixAtoms m l).1.length = l.length ∧ ∀ (k : Nat) (x y : Atom), l[k]? = some x → (ixAtoms m l).1[k]? = some y → y.kind = x.kind ∧ y.term = x.term ∧ y.known = x.known
  | [], m => ⟨rfl, fun k x y h => by simp at h⟩
  | a :: r, m => by
    obtain ⟨h1, h2⟩ := ixAtoms_at r (ixArg (ixArg (ixArg m a.subj).2 a.obj).2 a.val).2
    refine ⟨?_, fun k x y hx hy => ?_⟩
    · show (_ :: (ixAtoms (ixArg (ixArg (ixArg m a.subj).2 a.obj).2 a.val).2 r).1).length = _
      rw [List.length_cons, h1]; rfl
    · cases k with
      | zero =>
        simp at hx
        subst hx
        have : (⟨a.kind, (ixArg m a.subj).1, (ixArg (ixArg m a.subj).2 a.obj).1, (ixArg (ixArg (ixArg m a.subj).2 a.obj).2 a.val).1, a.term, a.known⟩ : Atom) = y := by simpa [ixAtoms] using hy
        subst this
        exact ⟨rfl, rfl, rfl⟩
      | succ k => exact h2 k x y (by simpa using hx) (by simpa [ixAtoms] using hy)
theorem ixTests_at : ∀ (l : List Test) (m : List Int), (ixTests m l).1.length = l.length ∧ ∀ (k : Nat) (x y : Test), l[k]? = some x → (ixTests m l).1[k]? = some y → y.op = x.op
  | [], m => ⟨rfl, fun k x y h => by simp at h⟩
  | a :: r, m => by
    obtain ⟨h1, h2⟩ := ixTests_at r (ixArg (ixArg m a.a).2 a.b).2
    refine ⟨?_, fun k x y hx hy => ?_⟩
    · show (_ :: (ixTests (ixArg (ixArg m a.a).2 a.b).2 r).1).length = _
      rw [List.length_cons, h1]; rfl
    · cases k with
      | zero =>
        simp at hx
        subst hx
        have : (⟨a.op, (ixArg m a.a).1, (ixArg (ixArg m a.a).2 a.b).1⟩ : Test) = y := by simpa [ixTests] using hy
        subst this
        rfl
      | succ k => exact h2 k x y (by simpa using hx) (by simpa [ixTests] using hy)
theorem sel_back : ∀ (l : List Addr) (gs gs' : List Arg), gs'.map Arg.var = gs.map Arg.var → ∀ (i : Nat) (p : Addr) (y' : Arg), l[i]? = some p → gs'[i]? = some y' → y'.var = true → ∃ k : Nat, (sel l gs)[k]? = some (⟨p.block, p.off + 1, none⟩ : Addr) ∧ (gs'.flatMap Arg.vars)[k]? = some y'.n
  | [], gs, gs', _, i, p, y', h, _, _ => by simp at h
  | q :: l, gs, [], _, i, p, y', _, h, _ => by simp at h
  | q :: l, [], z :: gs', hm, i, p, y', _, _, _ => by simp at hm
  | q :: l, x :: gs, z :: gs', hm, i, p, y', hl, hg, hv => by
    rw [List.map_cons, List.map_cons] at hm
    injection hm with hm1 hm2
    have es : sel (q :: l) (x :: gs) = (if x.var then [⟨q.block, q.off + 1, none⟩] else []) ++ sel l gs := by unfold sel; rw [List.zip_cons_cons, List.flatMap_cons]
    have ev : (z :: gs').flatMap Arg.vars = (if z.var then [z.n] else []) ++ gs'.flatMap Arg.vars := by rw [List.flatMap_cons]; rfl
    rw [es, ev]
    cases i with
    | zero =>
      simp at hl hg
      subst hl; subst hg
      rw [← hm1, hv]
      exact ⟨0, rfl, rfl⟩
    | succ i =>
      obtain ⟨k, h1, h2⟩ := sel_back l gs gs' hm2 i p y' (by simpa using hl) (by simpa using hg) hv
      rw [← hm1]
      cases z.var
      · exact ⟨k, by simpa using h1, by simpa using h2⟩
      · exact ⟨k + 1, by simpa using h1, by simpa using h2⟩
end Qy
theorem flat_place {α β : Type} (c : Nat) (g : β → List α) (hg : ∀ x, (g x).length = c) : ∀ (l : List β) (k r : Nat) (x : β) (y : α), l[k]? = some x → (g x)[r]? = some y → (l.flatMap g)[c * k + r]? = some y
  | [], k, r, x, y, h, _ => by simp at h
  | z :: l, 0, r, x, y, h, h2 => by
    simp at h
    subst h
    have hlt := (List.getElem?_eq_some_iff.1 h2).1
    rw [List.flatMap_cons, Nat.mul_zero, Nat.zero_add, List.getElem?_append_left hlt, h2]
  | z :: l, k + 1, r, x, y, h, h2 => by
    have := flat_place c g hg l k r x y (by simpa using h) h2
    rw [List.flatMap_cons, List.getElem?_append_right (by rw [hg, Nat.mul_succ]; omega), hg, ← this]
    congr 1
    rw [Nat.mul_succ]; omega
theorem range_at {α : Type} (c : Nat) (f : Nat → List α) : ∀ (n : Nat), (∀ k, k < n → (f k).length = c) → ∀ (k r : Nat) (y : α), k < n → (f k)[r]? = some y → ((List.range n).flatMap f)[c * k + r]? = some y
  | 0, _, k, r, y, h, _ => by omega
  | n + 1, hf, k, r, y, h, h2 => by
    have hl := flat_len_eq c f n (fun k hk => hf k (by omega))
    rw [range_step]
    by_cases e : k = n
    · subst e
      rw [List.getElem?_append_right (by omega), hl, Nat.add_sub_cancel_left, h2]
    · have hr : r < c := by rw [← hf k h]; exact (List.getElem?_eq_some_iff.1 h2).1
      have : c * k + r < c * n := by
        have := Nat.mul_le_mul_left c (show k + 1 ≤ n by omega)
        rw [Nat.mul_succ] at this
        omega
      rw [List.getElem?_append_left (by omega)]
      exact range_at c f n (fun k hk => hf k (by omega)) k r y (by omega) h2

section
variable {W0 W : World} {B : Nat} {AS AA AT : Option Addr} {shown : List Int} {atoms : List Qy.Atom} {tests : List Qy.Test}
/-- Where arguments lie. -/
theorem Qy.arg_mem {n2 n3 : Nat} {a : Addr} (ha : a ∈ Qy.argsAt AA AT n2 n3) : incA a ∈ Qy.S2 AA n2 ∨ incA a ∈ Qy.S3 AT n3 := by
  have : incA a ∈ (Qy.argsAt AA AT n2 n3).map incA := List.mem_map_of_mem ha
  rw [Qy.args_inc] at this
  exact List.mem_append.1 this
theorem Qy.args_nodup (h : Apart3 AS AA AT) (n2 n3 : Nat) : (Qy.argsAt AA AT n2 n3).Nodup := by
  have h1 := Qy.vars_nodup h 0 n2 n3 []
  have h23 : (Qy.S2 AA n2 ++ Qy.S3 AT n3).Nodup := List.nodup_append.2 ⟨(Qy.s2_ok AA n2).1, (Qy.s3_ok AT n3).1, fun x hx y hy e => by
    subst e
    obtain ⟨u, e1, e2, _⟩ := (Qy.s2_ok AA n2).2 x hx
    obtain ⟨v, e3, e4, _⟩ := (Qy.s3_ok AT n3).2 x hy
    exact h.x23 u v e1 e3 (by rw [← e2, ← e4])⟩
  rw [← Qy.args_inc] at h23
  exact List.Pairwise.of_map incA (fun a b hab e => hab (by rw [e])) h23

theorem Qy.s2_arg {n2 : Nat} {a : Addr} (h : incA a ∈ Qy.S2 AA n2) : ∃ x, AA = some x ∧ a.block = x.block ∧ ∃ i, i < n2 ∧ (a.off = x.off + i * 9 + 1 ∨ a.off = x.off + i * 9 + 3 ∨ a.off = x.off + i * 9 + 5) := by
  obtain ⟨x, e1, e2, _, i, hi, e3⟩ := (Qy.s2_ok AA n2).2 _ h
  exact ⟨x, e1, e2, i, hi, by have e4 : (incA a).off = a.off + 1 := rfl
                              rw [e4] at e3; omega⟩
theorem Qy.s3_arg {n3 : Nat} {a : Addr} (h : incA a ∈ Qy.S3 AT n3) : ∃ x, AT = some x ∧ a.block = x.block ∧ ∃ i, i < n3 ∧ (a.off = x.off + i * 5 + 1 ∨ a.off = x.off + i * 5 + 3) := by
  obtain ⟨x, e1, e2, _, i, hi, e3⟩ := (Qy.s3_ok AT n3).2 _ h
  exact ⟨x, e1, e2, i, hi, by have e4 : (incA a).off = a.off + 1 := rfl
                              rw [e4] at e3; omega⟩
/-- What is no variable's number among an atom's cells. -/
theorem Qy.plain2 (hap : Apart3 AS AA AT) {n1 n2 n3 : Nat} {gs : List Qy.Arg} {x a : Addr} (e : AA = some x) {i : Nat} (hb : a.block = x.block) (ho : a.off = x.off + i * 9 ∨ a.off = x.off + i * 9 + 1 ∨ a.off = x.off + i * 9 + 3 ∨ a.off = x.off + i * 9 + 5 ∨ a.off = x.off + i * 9 + 7 ∨ a.off = x.off + i * 9 + 8) : a ∉ Qy.varsAt AS AA AT n1 n2 n3 gs := fun hm => by
  rcases Qy.vars_mem hm with h | h | h
  · obtain ⟨u, e1, e2, _⟩ := (Qy.s1_ok AS n1).2 a h
    exact hap.x12 u x e1 e (by rw [← e2, hb])
  · obtain ⟨u, e1, e2, _, j, _, h3⟩ := (Qy.s2_ok AA n2).2 a h
    rw [e] at e1
    injection e1 with e1
    subst e1
    omega
  · obtain ⟨u, e1, e2, _⟩ := (Qy.s3_ok AT n3).2 a h
    exact hap.x23 x u e e1 (by rw [← e2, hb])
theorem Qy.plain3 (hap : Apart3 AS AA AT) {n1 n2 n3 : Nat} {gs : List Qy.Arg} {x a : Addr} (e : AT = some x) {i : Nat} (hb : a.block = x.block) (ho : a.off = x.off + i * 5 ∨ a.off = x.off + i * 5 + 1 ∨ a.off = x.off + i * 5 + 3) : a ∉ Qy.varsAt AS AA AT n1 n2 n3 gs := fun hm => by
  rcases Qy.vars_mem hm with h | h | h
  · obtain ⟨u, e1, e2, _⟩ := (Qy.s1_ok AS n1).2 a h
    exact hap.x13 u x e1 e (by rw [← e2, hb])
  · obtain ⟨u, e1, e2, _⟩ := (Qy.s2_ok AA n2).2 a h
    exact hap.x23 u x e1 e (by rw [← e2, hb])
  · obtain ⟨u, e1, e2, _, j, _, h3⟩ := (Qy.s3_ok AT n3).2 a h
    rw [e] at e1
    injection e1 with e1
    subst e1
    omega
theorem rb_a {x : Addr} (e : AA = some x) : x.block ∈ rbOf AS AA AT := by rw [e]; unfold rbOf blkOf; simp
theorem rb_t {x : Addr} (e : AT = some x) : x.block ∈ rbOf AS AA AT := by rw [e]; unfold rbOf blkOf; simp

theorem Qy.vars_in {s : Qy.St} (h : Qy.Inv s) : ∀ n ∈ Qy.allVars s.shown (Qy.allArgs s.atoms s.tests), 0 ≤ n ∧ n < s.names.length := by
  intro n hn
  unfold Qy.allVars Qy.allArgs at hn
  rw [List.flatMap_append] at hn
  rcases List.mem_append.1 hn with h1 | h1
  · exact h.shown n h1
  · rcases List.mem_append.1 h1 with h2 | h2
    · obtain ⟨a, h3, h4⟩ := List.mem_flatMap.1 h2
      obtain ⟨x, h5, h6⟩ := List.mem_flatMap.1 h3
      refine (h.atoms x h5).2 n ?_
      simp [Qy.aArgs] at h6
      unfold Qy.Atom.vars
      rcases h6 with rfl | rfl | rfl <;> simp [h4]
    · obtain ⟨a, h3, h4⟩ := List.mem_flatMap.1 h2
      obtain ⟨x, h5, h6⟩ := List.mem_flatMap.1 h3
      refine (h.tests x h5).2 n ?_
      simp [Qy.tArgs] at h6
      unfold Qy.Test.vars
      rcases h6 with rfl | rfl <;> simp [h4]

variable (hap : Apart3 AS AA AT) (hS : Lies W0 B AS 1 (shown.map intC)) (hA : Lies W0 B AA 9 (atoms.map atomC)) (hT : Lies W0 B AT 5 (tests.map testC))
  (cells : ∀ (k : Nat) (a : Addr) (v : Int), (Qy.varsAt AS AA AT shown.length atoms.length tests.length (Qy.allArgs atoms tests))[k]? = some a → ((Qy.ixList [] (Qy.allVars shown (Qy.allArgs atoms tests))).1)[k]? = some v → W.cell? a = some (.int .i64 v))
  (rest : ∀ a : Addr, a.block ∈ rbOf AS AA AT → a ∉ Qy.varsAt AS AA AT shown.length atoms.length tests.length (Qy.allArgs atoms tests) → W.cell? a = W0.cell? a)
include hap hS hA hT cells rest
theorem Qy.arg_now (i : Nat) (a : Addr) (y' : Qy.Arg) (ha : (Qy.argsAt AA AT atoms.length tests.length)[i]? = some a) (hy : ((Qy.ixArgs (Qy.ixList [] shown).2 (Qy.allArgs atoms tests)).1)[i]? = some y') :
    ∃ b o, a = ⟨b, o, none⟩ ∧ W.cell? ⟨b, o, none⟩ = some (.bool y'.var) ∧ W.cell? ⟨b, o + 1, none⟩ = some (.int .i64 y'.n) := by
  have h1 : 0 < shown.length → ∃ b o, AS = some ⟨b, o, none⟩ := fun h => by
    obtain ⟨b, o, e, _⟩ := hS.at_ 0 _ (by rw [List.getElem?_map, List.getElem?_eq_getElem h]; rfl)
    exact ⟨b, o, e⟩
  have h2 : 0 < atoms.length → ∃ b o, AA = some ⟨b, o, none⟩ := fun h => by
    obtain ⟨b, o, e, _⟩ := hA.at_ 0 _ (by rw [List.getElem?_map, List.getElem?_eq_getElem h]; rfl)
    exact ⟨b, o, e⟩
  have h3 : 0 < tests.length → ∃ b o, AT = some ⟨b, o, none⟩ := fun h => by
    obtain ⟨b, o, e, _⟩ := hT.at_ 0 _ (by rw [List.getElem?_map, List.getElem?_eq_getElem h]; rfl)
    exact ⟨b, o, e⟩
  obtain ⟨y, hy0⟩ : ∃ y, (Qy.allArgs atoms tests)[i]? = some y := ⟨_, List.getElem?_eq_getElem (by rw [← Qy.ixArgs_len _ (Qy.ixList [] shown).2]; exact (List.getElem?_eq_some_iff.1 hy).1)⟩
  obtain ⟨b, o, rfl, _, c1, c2⟩ := Qy.arg_cells hA hT i a y ha hy0
  obtain ⟨e1, e2⟩ := (Qy.ixArgs_same (Qy.allArgs atoms tests) (Qy.ixList [] shown).2).2 i y y' hy0 hy
  have hm := List.mem_of_getElem? ha
  -- the block is one of the rows', the first cell is no variable's number
  have hfirst : b ∈ rbOf AS AA AT ∧ (⟨b, o, none⟩ : Addr) ∉ Qy.varsAt AS AA AT shown.length atoms.length tests.length (Qy.allArgs atoms tests) := by
    rcases Qy.arg_mem hm with h | h
    · obtain ⟨x, e3, e4, j, _, e5⟩ := Qy.s2_arg h
      exact ⟨(show b = x.block from e4) ▸ rb_a e3, Qy.plain2 hap e3 (i := j) e4 (by omega)⟩
    · obtain ⟨x, e3, e4, j, _, e5⟩ := Qy.s3_arg h
      exact ⟨(show b = x.block from e4) ▸ rb_t e3, Qy.plain3 hap e3 (i := j) e4 (by omega)⟩
  refine ⟨b, o, rfl, by rw [rest _ hfirst.1 hfirst.2, c1, e1], ?_⟩
  cases hv : y.var
  · rw [e2 hv]
    refine (rest _ hfirst.1 (fun hin => ?_)).trans c2
    unfold Qy.varsAt at hin
    rcases List.mem_append.1 hin with h | h
    · obtain ⟨u, e3, e4, _⟩ := (Qy.s1_ok AS shown.length).2 _ h
      rcases Qy.arg_mem hm with h5 | h5
      · obtain ⟨x, e6, e7, _⟩ := Qy.s2_arg h5
        exact hap.x12 u x e3 e6 (by rw [← e7, ← e4])
      · obtain ⟨x, e6, e7, _⟩ := Qy.s3_arg h5
        exact hap.x13 u x e3 e6 (by rw [← e7, ← e4])
    · obtain ⟨k, hk⟩ := List.getElem?_of_mem h
      obtain ⟨hl, hs⟩ := Qy.sel_vars (Qy.argsAt AA AT atoms.length tests.length) (Qy.allArgs atoms tests) (Qy.args_len_eq h2 h3)
      obtain ⟨v, hv2⟩ : ∃ v, ((Qy.allArgs atoms tests).flatMap Qy.Arg.vars)[k]? = some v := ⟨_, List.getElem?_eq_getElem (by rw [← hl]; exact (List.getElem?_eq_some_iff.1 hk).1)⟩
      obtain ⟨i2, p, y2, e3, e4, e5, e6, _⟩ := hs k _ v hk hv2
      obtain ⟨b2, o2, rfl, _, _, _⟩ := Qy.arg_cells hA hT i2 p y2 e3 e4
      injection e6 with e6 e7
      have e8 : b = b2 := e6
      have e9 : o = o2 := by have : o + 1 = o2 + 1 := e7
                             omega
      subst e8; subst e9
      have : i = i2 := (List.getElem?_inj (List.getElem?_eq_some_iff.1 ha).1 (Qy.args_nodup hap _ _)).1 (ha.trans e3.symm)
      subst this
      rw [hy0] at e4
      injection e4 with e4
      subst e4
      rw [hv] at e5
      cases e5
  · obtain ⟨k, k1, k2⟩ := Qy.sel_back (Qy.argsAt AA AT atoms.length tests.length) (Qy.allArgs atoms tests) _ (Qy.ixArgs_same _ (Qy.ixList [] shown).2).1 i _ y' ha hy (by rw [e1, hv])
    have l1 : ((List.range shown.length).flatMap (Qy.inShow AS)).length = 1 * shown.length := flat_len_eq 1 _ _ (fun k hk => by obtain ⟨b, o, e⟩ := h1 (by omega); rw [e]; rfl)
    refine cells (shown.length + k) _ _ ?_ ?_
    · unfold Qy.varsAt
      rw [List.getElem?_append_right (by omega), l1, Nat.one_mul, Nat.add_sub_cancel_left]
      exact k1
    · unfold Qy.allVars
      rw [Qy.ixList_app, ← (Qy.ixArgs_vars _ _).1, List.getElem?_append_right (by rw [Qy.ixList_len]; omega), Qy.ixList_len, Nat.add_sub_cancel_left]
      exact k2
omit hap hA hT rest in
theorem Qy.shown_now : Lies W B AS 1 ((Qy.ixList [] shown).1.map intC) := by
  refine ⟨fun k cs hk => ?_, by have := hS.len; rw [List.length_map] at this ⊢; rw [Qy.ixList_len]; exact this⟩
  rw [List.getElem?_map] at hk
  obtain ⟨v, hv, rfl⟩ := Option.map_eq_some_iff.1 hk
  have hlt : k < shown.length := by rw [← Qy.ixList_len shown []]; exact (List.getElem?_eq_some_iff.1 hv).1
  obtain ⟨b, o, e, hb, _⟩ := hS.at_ k _ (by rw [List.getElem?_map, List.getElem?_eq_getElem hlt]; rfl)
  refine ⟨b, o, e, hb, fun j u hj => ?_⟩
  match j, hj with
  | 0, hj =>
    simp [intC] at hj
    subst hj
    rw [Nat.mul_one, Nat.add_zero]
    refine cells k _ v ?_ ?_
    · have l1 : ((List.range shown.length).flatMap (Qy.inShow AS)).length = 1 * shown.length := flat_len_eq 1 _ _ (fun k hk => by rw [e]; rfl)
      have := range_at 1 (Qy.inShow AS) shown.length (fun k hk => by rw [e]; rfl) k 0 ⟨b, o + k, none⟩ hlt (by rw [e]; rfl)
      rw [Nat.one_mul, Nat.add_zero] at this
      unfold Qy.varsAt
      rw [List.getElem?_append_left (by omega)]
      exact this
    · unfold Qy.allVars
      rw [Qy.ixList_app, List.getElem?_append_left (by rw [Qy.ixList_len]; exact hlt)]
      exact hv
  | j + 1, hj => simp [intC] at hj
theorem Qy.atoms_now : Lies W B AA 9 ((Qy.ixAtoms (Qy.ixList [] shown).2 atoms).1.map atomC) := by
  obtain ⟨hlen, hat⟩ := Qy.ixAtoms_at atoms (Qy.ixList [] shown).2
  refine ⟨fun k cs hk => ?_, by have := hA.len; rw [List.length_map] at this ⊢; rw [hlen]; exact this⟩
  rw [List.getElem?_map] at hk
  obtain ⟨y, hy, rfl⟩ := Option.map_eq_some_iff.1 hk
  have hlt : k < atoms.length := by rw [← hlen]; exact (List.getElem?_eq_some_iff.1 hy).1
  obtain ⟨x, hx⟩ : ∃ x, atoms[k]? = some x := ⟨_, List.getElem?_eq_getElem hlt⟩
  obtain ⟨b, o, e, hb, hc⟩ := hA.at_ k (atomC x) (by rw [List.getElem?_map, hx]; rfl)
  obtain ⟨q1, q2, q3⟩ := hat k x y hx hy
  have hargs : ∀ (r : Nat) (g : Qy.Arg), (Qy.aArgs y)[r]? = some g → r < 3 → W.cell? ⟨b, o + k * 9 + 1 + 2 * r, none⟩ = some (.bool g.var) ∧ W.cell? ⟨b, o + k * 9 + 1 + 2 * r + 1, none⟩ = some (.int .i64 g.n) := fun r g hg hr => by
    have l2 : ((List.range atoms.length).flatMap (Qy.inAtom AA)).length = 3 * atoms.length := flat_len_eq 3 _ _ (fun k hk => by rw [e]; rfl)
    have p1 : (Qy.argsAt AA AT atoms.length tests.length)[3 * k + r]? = some ⟨b, o + k * 9 + 1 + 2 * r, none⟩ := by
      unfold Qy.argsAt
      rw [List.getElem?_append_left (by omega)]
      refine range_at 3 _ _ (fun k hk => by rw [e]; rfl) k r _ hlt ?_
      rw [e]
      rcases r with _ | _ | _ | r
      · rfl
      · rfl
      · rfl
      · omega
    have p2 : ((Qy.ixArgs (Qy.ixList [] shown).2 (Qy.allArgs atoms tests)).1)[3 * k + r]? = some g := by
      unfold Qy.allArgs
      rw [Qy.ixArgs_app, ← (Qy.ixAtoms_args _ _).1, List.getElem?_append_left (by rw [flatg_len 3 Qy.aArgs (fun _ => rfl), hlen]; omega)]
      exact flat_place 3 Qy.aArgs (fun _ => rfl) _ k r y g hy hg
    obtain ⟨b', o', e', c1, c2⟩ := Qy.arg_now hap hS hA hT cells rest _ _ g p1 p2
    injection e' with e1 e2
    subst e1; subst e2
    exact ⟨c1, c2⟩
  have hrest : ∀ j u, (atomC x)[j]? = some u → j = 0 ∨ j = 7 ∨ j = 8 → W.cell? ⟨b, o + k * 9 + j, none⟩ = some u := fun j u hu hj =>
    (rest ⟨b, o + k * 9 + j, none⟩ (rb_a (x := ⟨b, o, none⟩) e) (Qy.plain2 hap e (i := k) rfl (by rcases hj with rfl | rfl | rfl <;> simp))).trans (hc j u hu)
  refine ⟨b, o, e, hb, fun j u hj => ?_⟩
  have a0 := hargs 0 _ rfl (by omega); have a1 := hargs 1 _ rfl (by omega); have a2 := hargs 2 _ rfl (by omega)
  match j, hj with
  | 0, hj => simp [atomC, argC] at hj; subst hj; exact hrest 0 _ (by simp [atomC, argC, q1]) (by omega)
  | 1, hj => simp [atomC, argC] at hj; subst hj; exact a0.1
  | 2, hj => simp [atomC, argC] at hj; subst hj; exact a0.2
  | 3, hj => simp [atomC, argC] at hj; subst hj; exact a1.1
  | 4, hj => simp [atomC, argC] at hj; subst hj; exact a1.2
  | 5, hj => simp [atomC, argC] at hj; subst hj; exact a2.1
  | 6, hj => simp [atomC, argC] at hj; subst hj; exact a2.2
  | 7, hj => simp [atomC, argC] at hj; subst hj; exact hrest 7 _ (by simp [atomC, argC, q2]) (by omega)
  | 8, hj => simp [atomC, argC] at hj; subst hj; exact hrest 8 _ (by simp [atomC, argC, q3]) (by omega)
  | j + 9, hj => simp [atomC, argC] at hj
theorem Qy.tests_now : Lies W B AT 5 ((Qy.ixTests (Qy.ixAtoms (Qy.ixList [] shown).2 atoms).2 tests).1.map testC) := by
  obtain ⟨hlen, hat⟩ := Qy.ixTests_at tests (Qy.ixAtoms (Qy.ixList [] shown).2 atoms).2
  refine ⟨fun k cs hk => ?_, by have := hT.len; rw [List.length_map] at this ⊢; rw [hlen]; exact this⟩
  rw [List.getElem?_map] at hk
  obtain ⟨y, hy, rfl⟩ := Option.map_eq_some_iff.1 hk
  have hlt : k < tests.length := by rw [← hlen]; exact (List.getElem?_eq_some_iff.1 hy).1
  obtain ⟨x, hx⟩ : ∃ x, tests[k]? = some x := ⟨_, List.getElem?_eq_getElem hlt⟩
  obtain ⟨b, o, e, hb, hc⟩ := hT.at_ k (testC x) (by rw [List.getElem?_map, hx]; rfl)
  have q1 := hat k x y hx hy
  have h2 : 0 < atoms.length → ∃ b o, AA = some ⟨b, o, none⟩ := fun h => by
    obtain ⟨b, o, e, _⟩ := hA.at_ 0 _ (by rw [List.getElem?_map, List.getElem?_eq_getElem h]; rfl)
    exact ⟨b, o, e⟩
  have hargs : ∀ (r : Nat) (g : Qy.Arg), (Qy.tArgs y)[r]? = some g → r < 2 → W.cell? ⟨b, o + k * 5 + 1 + 2 * r, none⟩ = some (.bool g.var) ∧ W.cell? ⟨b, o + k * 5 + 1 + 2 * r + 1, none⟩ = some (.int .i64 g.n) := fun r g hg hr => by
    have l2 : ((List.range atoms.length).flatMap (Qy.inAtom AA)).length = 3 * atoms.length := flat_len_eq 3 _ _ (fun k hk => by obtain ⟨b, o, e⟩ := h2 (by omega); rw [e]; rfl)
    have hla := (Qy.ixAtoms_at atoms (Qy.ixList [] shown).2).1
    have p1 : (Qy.argsAt AA AT atoms.length tests.length)[3 * atoms.length + (2 * k + r)]? = some ⟨b, o + k * 5 + 1 + 2 * r, none⟩ := by
      unfold Qy.argsAt
      rw [List.getElem?_append_right (by omega), l2, Nat.add_sub_cancel_left]
      refine range_at 2 _ _ (fun k hk => by rw [e]; rfl) k r _ hlt ?_
      rw [e]
      rcases r with _ | _ | r
      · rfl
      · rfl
      · omega
    have p2 : ((Qy.ixArgs (Qy.ixList [] shown).2 (Qy.allArgs atoms tests)).1)[3 * atoms.length + (2 * k + r)]? = some g := by
      unfold Qy.allArgs
      rw [Qy.ixArgs_app, ← (Qy.ixAtoms_args _ _).1, ← (Qy.ixAtoms_args _ _).2, ← (Qy.ixTests_args _ _).1, List.getElem?_append_right (by rw [flatg_len 3 Qy.aArgs (fun _ => rfl), hla]; omega), flatg_len 3 Qy.aArgs (fun _ => rfl), hla, Nat.add_sub_cancel_left]
      exact flat_place 2 Qy.tArgs (fun _ => rfl) _ k r y g hy hg
    obtain ⟨b', o', e', c1, c2⟩ := Qy.arg_now hap hS hA hT cells rest _ _ g p1 p2
    injection e' with e1 e2
    subst e1; subst e2
    exact ⟨c1, c2⟩
  have hrest : ∀ u, (testC x)[0]? = some u → W.cell? ⟨b, o + k * 5, none⟩ = some u := fun u hu =>
    (rest ⟨b, o + k * 5, none⟩ (rb_t (x := ⟨b, o, none⟩) e) (Qy.plain3 hap e (i := k) rfl (by simp))).trans (hc 0 u hu)
  refine ⟨b, o, e, hb, fun j u hj => ?_⟩
  have a0 := hargs 0 _ rfl (by omega); have a1 := hargs 1 _ rfl (by omega)
  match j, hj with
  | 0, hj => simp [testC, argC] at hj; subst hj; exact hrest _ (by simp [testC, q1])
  | 1, hj => simp [testC, argC] at hj; subst hj; exact a0.1
  | 2, hj => simp [testC, argC] at hj; subst hj; exact a0.2
  | 3, hj => simp [testC, argC] at hj; subst hj; exact a1.1
  | 4, hj => simp [testC, argC] at hj; subst hj; exact a1.2
  | j + 5, hj => simp [testC, argC] at hj
omit hap hS hA hT cells rest
theorem Qy.met_now (shown : List Int) (atoms : List Qy.Atom) (tests : List Qy.Test) : (Qy.ixTests (Qy.ixAtoms (Qy.ixList [] shown).2 atoms).2 tests).2 = (Qy.ixList [] (Qy.allVars shown (Qy.allArgs atoms tests))).2 := by
  rw [(Qy.ixTests_args _ _).2, (Qy.ixAtoms_args _ _).2]
  unfold Qy.allVars Qy.allArgs
  rw [Qy.ixList_app, ← (Qy.ixArgs_vars _ _).2, Qy.ixArgs_app]
end
end Go.Proofs.YtjonaidancomgaaDoor

namespace Go.Proofs.YtjonaidancomgaaDoor
open Go.RowKit Go.Maps Go.WideMaps

theorem same_put {w : World} {D : Nat} {ds : Option (List Deferred)} (h : w.heap[D]? = some (.deferred ds)) (o : Obj) (a : Addr) (v : Value) (hv : w.cell? a = some v) : (w.putObj D o).cell? a = some v := by
  refine (World.cell?_of_block (World.putObj_heap_other (fun e => ?_))).trans hv
  unfold World.cell? at hv
  rw [e, h] at hv
  cases hv
theorem below_put {n D : Nat} {w w' : World} (h : Below n w w') (hD : n ≤ D) (o : Obj) : Below n w (w'.putObj D o) :=
  ⟨h.os, h.tape, h.output, by have := h.size; simpa [World.putObj] using this, fun k hk => (World.putObj_heap_other (by omega)).trans (h.block k hk)⟩
theorem blk_put {w : World} {D b : Nat} {t : TypeId} {cs : Array Value} {ds : Option (List Deferred)} (hb : Blk w b t cs) (h : w.heap[D]? = some (.deferred ds)) (o : Obj) : Blk (w.putObj D o) b t cs :=
  (World.putObj_heap_other (fun e => by unfold Blk at hb; rw [e, h] at hb; cases hb)).trans hb
theorem Lies.same {w w' : World} {B B' : Nat} {A : Option Addr} {sz : Nat} {l : List (List Value)} (h : Lies w B A sz l) (hs : ∀ (a : Addr) (v : Value), w.cell? a = some v → w'.cell? a = some v) (hB : B ≤ B') : Lies w' B' A sz l :=
  ⟨fun k cs hk => by
    obtain ⟨b, o, e, hlt, hc⟩ := h.at_ k cs hk
    exact ⟨b, o, e, by omega, fun j v hj => hs _ _ (hc j v hj)⟩, h.len⟩
theorem QAt.same {w w' : World} {B B' : Nat} {v : Value} {q : Qy.Query} (h : QAt w B v q) (hs : ∀ (a : Addr) (v : Value), w.cell? a = some v → w'.cell? a = some v) (hB : B ≤ B') : QAt w' B' v q := by
  obtain ⟨⟨A0, c0, A1, c1, A2, c2, A3, c3, e, h0, h1, h2, h3⟩, ht⟩ := h
  exact ⟨⟨A0, c0, A1, c1, A2, c2, A3, c3, e, h0.same hs hB, h1.same hs hB, h2.same hs hB, h3.same hs hB⟩, ht⟩
theorem Qy.renumber_eq (s : Qy.St) : Qy.renumber s = ⟨(Qy.ixList [] (Qy.allVars s.shown (Qy.allArgs s.atoms s.tests))).2.map fun i => s.names.getD i.toNat [], (Qy.ixList [] s.shown).1, (Qy.ixAtoms (Qy.ixList [] s.shown).2 s.atoms).1, (Qy.ixTests (Qy.ixAtoms (Qy.ixList [] s.shown).2 s.atoms).2 s.tests).1⟩ := by
  rw [← Qy.met_now]
  rfl
/-- A cell that is stored again holds what it held. -/
theorem cell_again {w : World} {p : Addr} {v : Value} (h : w.cell? p = some v) (a : Addr) (u : Value) (hu : w.cell? a = some u) : (w.setCell p v).cell? a = some u := by
  by_cases e : a = p
  · subst e
    rw [h] at hu
    injection hu with hu
    subst hu
    exact World.cell?_setCell_same' w a v (by rw [h]; rfl)
  · rw [World.cell?_setCell_other w p a v (fun h => e h.symm)]
    exact hu
/-- The rows that lay before the loop lie in it. -/
theorem lies_start {w6 : World} {N sz : Nat} {A : Option Addr} {vS vA vT : Value} {l : List (List Value)} (h : Lies w6 w6.heap.size A sz l) (hne : ∀ a, A = some a → a.block ≠ N) : Lies (loopStart w6 N vS vA vT) w6.heap.size A sz l :=
  ⟨fun k cs hk => by
    obtain ⟨b, o, e, hlt, hc⟩ := h.at_ k cs hk
    exact ⟨b, o, e, hlt, fun j v hj => (loopStart_cell hlt (hne _ e)).trans (hc j v hj)⟩, h.len⟩
theorem query_now {w w6 W : World} {G N g p ixb mb : Nat} {psr : Array Value} {vPN vN : Value} {s : Qy.St} {AS AA AT : Option Addr} {cS cA cT : Nat} {cq : Array Value}
    (ho : POwn G s.names s.shown s.atoms s.tests vN (.slice AS s.shown.length cS) (.slice AA s.atoms.length cA) (.slice AT s.tests.length cT) w6) (hN : Blk w6 N 27 cq)
    (hS : Lies w6 w6.heap.size AS 1 (s.shown.map intC)) (hA : Lies w6 w6.heap.size AA 9 (s.atoms.map atomC)) (hT : Lies w6 w6.heap.size AT 5 (s.tests.map testC)) (htx : ∀ t ∈ s.names, t.length ≤ 140737488351232) (hV : (Qy.ixList [] (Qy.allVars s.shown (Qy.allArgs s.atoms s.tests))).2.length ≤ 140737488351232)
    (hP : PIx N g p ixb mb w (loopStart w6 N (.slice AS s.shown.length cS) (.slice AA s.atoms.length cA) (.slice AT s.tests.length cT)) psr vPN (.slice AS s.shown.length cS) (.slice AA s.atoms.length cA) (.slice AT s.tests.length cT) s.names
      (Qy.varsAt AS AA AT s.shown.length s.atoms.length s.tests.length (Qy.allArgs s.atoms s.tests)) (rbOf AS AA AT) (Qy.ixList [] (Qy.allVars s.shown (Qy.allArgs s.atoms s.tests))).2 (Qy.ixList [] (Qy.allVars s.shown (Qy.allArgs s.atoms s.tests))).1 W) (hsz : w6.heap.size ≤ W.heap.size)
    {vq : Value} (hown : W.ownsRow (loopStart w6 N (.slice AS s.shown.length cS) (.slice AA s.atoms.length cA) (.slice AT s.tests.length cT)).heap.size 9 1 vq (Qy.ixList [] (Qy.allVars s.shown (Qy.allArgs s.atoms s.tests))).2.length (((Qy.ixList [] (Qy.allVars s.shown (Qy.allArgs s.atoms s.tests))).2.map fun i => s.names.getD i.toNat []).flatMap strC)) :
    QAt W W.heap.size (.agg #[vq, .slice AS s.shown.length cS, .slice AA s.atoms.length cA, .slice AT s.tests.length cT]) (Qy.renumber s) := by
  have hap := own_apart3 ho
  have n1 : ∀ a, AS = some a → a.block ≠ N := fun a e => by
    obtain ⟨⟨cs, h⟩, _⟩ := own_addr ho.s e
    exact Blk.ne h hN (by decide)
  have n2 : ∀ a, AA = some a → a.block ≠ N := fun a e => by
    obtain ⟨⟨cs, h⟩, _⟩ := own_addr ho.a e
    exact Blk.ne h hN (by decide)
  have n3 : ∀ a, AT = some a → a.block ≠ N := fun a e => by
    obtain ⟨⟨cs, h⟩, _⟩ := own_addr ho.t e
    exact Blk.ne h hN (by decide)
  have hS0 := lies_start (vS := .slice AS s.shown.length cS) (vA := .slice AA s.atoms.length cA) (vT := .slice AT s.tests.length cT) hS n1
  have hA0 := lies_start (vS := .slice AS s.shown.length cS) (vA := .slice AA s.atoms.length cA) (vT := .slice AT s.tests.length cT) hA n2
  have hT0 := lies_start (vS := .slice AS s.shown.length cS) (vA := .slice AA s.atoms.length cA) (vT := .slice AT s.tests.length cT) hT n3
  have r1 := Qy.shown_now hS0 hP.cells
  have r2 := Qy.atoms_now hap hS0 hA0 hT0 hP.cells hP.rest
  have r3 := Qy.tests_now hap hS0 hA0 hT0 hP.cells hP.rest
  obtain ⟨AN, cN, rfl, _, hLN⟩ := own_lies hown (((Qy.ixList [] (Qy.allVars s.shown (Qy.allArgs s.atoms s.tests))).2.map fun i => s.names.getD i.toNat []).map strC) (by rw [List.flatMap_def]) (fun c hc => by obtain ⟨x, _, rfl⟩ := List.mem_map.1 hc; rfl) (by simp) (by omega)
  rw [Qy.renumber_eq]
  refine ⟨⟨AN, cN, AS, cS, AA, cA, AT, cT, ?_, hLN, r1.mono hsz, r2.mono hsz, r3.mono hsz⟩, fun n hn => ?_⟩
  · simp only
    rw [List.length_map, Qy.ixList_len, (Qy.ixAtoms_at _ _).1, (Qy.ixTests_at _ _).1]
  · obtain ⟨i, _, rfl⟩ := List.mem_map.1 hn
    rw [List.getD_eq_getElem?_getD]
    cases h : s.names[i.toNat]? with
    | none => simp
    | some t => exact htx t (List.mem_of_getElem? h)
end Go.Proofs.YtjonaidancomgaaDoor

namespace Go.Proofs.YtjonaidancomgaaDoor
open Go.RowKit

/-- No operation of the region is a defer. -/
def noDefer (ops : Array Oper) : Bool := ops.toList.all fun o => match o.op with | .defer _ => false | _ => true
theorem noDefer_spec {ops : Array Oper} (h : noDefer ops = true) {i : Nat} {o : Oper} (ho : ops[i]? = some o) : ∀ c, o.op ≠ .defer c := fun c e => by
  unfold noDefer at h
  rw [List.all_eq_true] at h
  have := h o (by
    rw [← Array.getElem?_toList] at ho
    exact List.mem_of_getElem? ho)
  rw [e] at this
  cases this
section
variable {F : Fence} {n l : Nat} {P : Program} {ops : Array Oper} {Q : Exit → Act → World → Prop} {md : Region.Mode}
theorem wpOpIn_round (_hro : F.round = none) (hd : noDefer ops = true) {i : Nat} {K : Act → World → Prop} {a : Act} {w : World} (h : wpOpIn F n P ops Q i K a w) : wpOpIn (F.inRound l) n P ops Q i K a w := by
  unfold wpOpIn at h ⊢
  cases ho : ops[i]? with
  | none => rw [ho] at h; exact h
  | some o =>
    rw [ho] at h
    simp only at h ⊢
    have hn := noDefer_spec hd ho
    split
    · rename_i hw
      rw [if_pos hw] at h
      unfold Oper.wpIn at h ⊢
      refine ⟨h.1, ?_⟩
      have h2 := h.2
      rw [Oper.semAt_eq _ _ _ hn] at h2 ⊢
      exact h2
    · rename_i hw
      rw [if_neg hw] at h
      exact h
theorem wpAnyIn_round (hro : F.round = none) (hd : noDefer ops = true) : ∀ (fuel : Nat) (listed : Array Bool) (a : Act) (w : World), wpAnyIn F n P md ops Q fuel listed a w → wpAnyIn (F.inRound l) n P md ops Q fuel listed a w
  | 0, _, _, _, h => h
  | fuel + 1, _, _, _, h => ⟨h.1, fun i hi => wpOpIn_round hro hd (wpOpIn_mono (fun a w h => wpAnyIn_round hro hd fuel _ a w h) (h.2 i hi))⟩
theorem wpIn_region_quiet_round {id : Nat} {a : Act} {w : World} {ol : List Oper} (hro : F.round = none) (hm : P.follows .mixedOrders = true) (hB : Region.lexB .any ol.toArray = true) (hd : noDefer ol.toArray = true)
    (h : wpQuietIn F n P ol.toArray (fun w' => ∃ n, w' = w.drewN n) (fun a' => ∀ w', (∃ n, w' = w.drewN n) → Q .normal a' w') ol a) : (Code.region id ol.toArray true).wpIn (F.inRound l) n P Q a w := by
  simp only [Region.lexB, Bool.and_eq_true] at hB
  refine wpIn_region_any hm (wpAnyIn_round hro hd _ _ _ _ (wpAnyIn_of_quiet (C := fun w' => ∃ n, w' = w.drewN n) (Q := fun a' => ∀ w', (∃ n, w' = w.drewN n) → Q .normal a' w') hro (fun _ w' hw' h => h w' hw') _ _ _ _ ⟨1, rfl⟩ ?_))
  have := wpAnyQIn_lex (F := F) (n := n) (C := fun w' => ∃ n, w' = w.drewN n) (md := .any) hB.1 ol.toArray.toList 0 (Array.replicate ol.toArray.size false) a (by simp) (by simpa using hB.2) (by simpa using h)
  simpa using this
theorem wpOpIn_of_wpOp (hL : ¬ LetsOut Q) {i : Nat} {K : Act → World → Prop} {a : Act} {w : World} (h : wpOp P ops Q i K a w) : wpOpIn Fence.wide n P ops Q i K a w := by
  unfold wpOp at h
  unfold wpOpIn
  cases ho : ops[i]? with
  | none => rw [ho] at h; exact h
  | some o =>
    rw [ho] at h
    simp only at h ⊢
    split
    · rename_i hw
      rw [if_pos hw] at h
      rcases h with h | ⟨_, h⟩
      · unfold Oper.wp at h
        unfold Oper.wpIn
        refine ⟨fun _ _ => trivial, ?_⟩
        show o.uponIn Fence.wide n P a K Q ((Oper.semAt none a.eval o).run P w)
        rw [Oper.semAt_none]
        generalize (execOp a.eval o).run P w = r at h
        cases r with
        | ok x w' =>
          cases x with
          | value v => exact h
          | skip => exact h
          | defer d => exact h
          | enter f args => exact ⟨fun h => (by cases h), callsIn_wide.2 h⟩
          | row row args => exact ⟨fun h => (by cases h), fun c cs _ => let ⟨v, w', r, s⟩ := h c cs; ⟨v, w', r, stepsIn_wide.2 s⟩⟩
          | _ => exact h.elim
        | halt x w' => cases x <;> exact h
      · exact absurd h hL
    · rename_i hw
      rw [if_neg hw] at h
      exact ⟨fun _ _ => trivial, h⟩
theorem wpAnyIn_of_wpAny (hL : ¬ LetsOut Q) : ∀ (fuel : Nat) (listed : Array Bool) (a : Act) (w : World), wpAny P md ops Q fuel listed a w → wpAnyIn Fence.wide n P md ops Q fuel listed a w
  | 0, _, _, _, h => h
  | fuel + 1, _, _, _, h => ⟨h.1, fun i hi => wpOpIn_of_wpOp hL (wpOp_mono (fun a w h => wpAnyIn_of_wpAny hL fuel _ a w h) (h.2 i hi))⟩
/-- A region with loads, inside a round: the loads are taken first, under S. -/
theorem wpIn_region_held_round {S : World → Prop} {id : Nat} {a : Act} {w : World} (hL : ¬ LetsOut Q) (hm : P.follows .mixedOrders = true) (hd : noDefer ops = true)
    (h : wpAnyH P .any ops Q S ops.size (Array.replicate ops.size false) a w.drew) : (Code.region id ops true).wpIn (Fence.wide.inRound l) n P Q a w :=
  wpIn_region_any hm (wpAnyIn_round rfl hd _ _ _ _ (wpAnyIn_of_wpAny hL _ _ _ _ (wpAny_of_held _ _ _ _ h)))
end
end Go.Proofs.YtjonaidancomgaaDoor
