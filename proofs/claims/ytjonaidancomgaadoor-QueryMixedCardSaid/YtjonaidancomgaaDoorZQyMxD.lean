/- Parts of the proof, joined into one text: QyMxD. -/
import Derived.Test.YtjonaidancomgaaDoorZQyMxB
import Derived.Test.YtjonaidancomgaaDoorZQyPrint

namespace Go.Proofs.YtjonaidancomgaaDoor
open Go.RowKit Go.Maps Go.WideMaps

theorem Qy.ix_len (m : List Int) (n : Int) : (Qy.ix m n).2.length ≤ m.length + 1 := by
  unfold Qy.ix
  split <;> simp
theorem Qy.ixListM_len : ∀ (l m : List Int), (Qy.ixList m l).2.length ≤ m.length + l.length
  | [], m => by simp [Qy.ixList]
  | n :: l, m => by
    have h1 := Qy.ix_len m n
    have h2 := Qy.ixListM_len l (Qy.ix m n).2
    show (Qy.ixList (Qy.ix m n).2 l).2.length ≤ _
    simp only [List.length_cons]
    omega
theorem Qy.ixArg_len (m : List Int) (a : Qy.Arg) : (Qy.ixArg m a).2.length ≤ m.length + 1 := by
  unfold Qy.ixArg
  split
  · exact Qy.ix_len _ _
  · simp
theorem Qy.ixAtoms_len : ∀ (l : List Qy.Atom) (m : List Int), (Qy.ixAtoms m l).2.length ≤ m.length + 3 * l.length
  | [], m => by simp [Qy.ixAtoms]
  | x :: l, m => by
    have h1 := Qy.ixArg_len m x.subj
    have h2 := Qy.ixArg_len (Qy.ixArg m x.subj).2 x.obj
    have h3 := Qy.ixArg_len (Qy.ixArg (Qy.ixArg m x.subj).2 x.obj).2 x.val
    have h4 := Qy.ixAtoms_len l (Qy.ixArg (Qy.ixArg (Qy.ixArg m x.subj).2 x.obj).2 x.val).2
    show (Qy.ixAtoms (Qy.ixArg (Qy.ixArg (Qy.ixArg m x.subj).2 x.obj).2 x.val).2 l).2.length ≤ _
    simp only [List.length_cons]
    omega
theorem Qy.ixTests_len : ∀ (l : List Qy.Test) (m : List Int), (Qy.ixTests m l).2.length ≤ m.length + 2 * l.length
  | [], m => by simp [Qy.ixTests]
  | x :: l, m => by
    have h1 := Qy.ixArg_len m x.a
    have h2 := Qy.ixArg_len (Qy.ixArg m x.a).2 x.b
    have h4 := Qy.ixTests_len l (Qy.ixArg (Qy.ixArg m x.a).2 x.b).2
    show (Qy.ixTests (Qy.ixArg (Qy.ixArg m x.a).2 x.b).2 l).2.length ≤ _
    simp only [List.length_cons]
    omega
theorem Qy.ixListM_snoc (n : Int) : ∀ (l m : List Int), Qy.ixList m (l ++ [n]) = ((Qy.ixList m l).1 ++ [(Qy.ix (Qy.ixList m l).2 n).1], (Qy.ix (Qy.ixList m l).2 n).2)
  | [], m => rfl
  | a :: l, m => by
    have ih := Qy.ixListM_snoc n l (Qy.ix m a).2
    show ((Qy.ix m a).1 :: (Qy.ixList (Qy.ix m a).2 (l ++ [n])).1, (Qy.ixList (Qy.ix m a).2 (l ++ [n])).2) = _
    rw [ih]; rfl
/-- A condition's arguments renumbered. -/
def Qy.ixA1 (m : List Int) (x : Qy.Atom) : Qy.Atom × List Int := let (a, m) := Qy.ixArg m x.subj; let (b, m) := Qy.ixArg m x.obj; let (c, m) := Qy.ixArg m x.val; (⟨x.kind, a, b, c, x.term, x.known⟩, m)
def Qy.ixT1 (m : List Int) (x : Qy.Test) : Qy.Test × List Int := let (a, m) := Qy.ixArg m x.a; let (b, m) := Qy.ixArg m x.b; (⟨x.op, a, b⟩, m)
theorem Qy.ixAtoms_snoc (x : Qy.Atom) : ∀ (l : List Qy.Atom) (m : List Int), Qy.ixAtoms m (l ++ [x]) = ((Qy.ixAtoms m l).1 ++ [(Qy.ixA1 (Qy.ixAtoms m l).2 x).1], (Qy.ixA1 (Qy.ixAtoms m l).2 x).2)
  | [], m => rfl
  | a :: l, m => by
    have e : ∀ r, Qy.ixAtoms m (a :: r) = ((Qy.ixA1 m a).1 :: (Qy.ixAtoms (Qy.ixA1 m a).2 r).1, (Qy.ixAtoms (Qy.ixA1 m a).2 r).2) := fun _ => rfl
    rw [List.cons_append, e, e, Qy.ixAtoms_snoc x l (Qy.ixA1 m a).2]; rfl
theorem Qy.ixTests_snoc (x : Qy.Test) : ∀ (l : List Qy.Test) (m : List Int), Qy.ixTests m (l ++ [x]) = ((Qy.ixTests m l).1 ++ [(Qy.ixT1 (Qy.ixTests m l).2 x).1], (Qy.ixT1 (Qy.ixTests m l).2 x).2)
  | [], m => rfl
  | a :: l, m => by
    have e : ∀ r, Qy.ixTests m (a :: r) = ((Qy.ixT1 m a).1 :: (Qy.ixTests (Qy.ixT1 m a).2 r).1, (Qy.ixTests (Qy.ixT1 m a).2 r).2) := fun _ => rfl
    rw [List.cons_append, e, e, Qy.ixTests_snoc x l (Qy.ixT1 m a).2]; rfl
theorem Qy.ix_mem {m : List Int} {n a : Int} (h : a ∈ (Qy.ix m n).2) : a ∈ m ∨ a = n := by
  unfold Qy.ix at h
  split at h
  · exact .inl h
  · rcases List.mem_append.1 h with h | h
    · exact .inl h
    · exact .inr (by simpa using h)
theorem Qy.ixListM_mem : ∀ (l m : List Int) (a : Int), a ∈ (Qy.ixList m l).2 → a ∈ m ∨ a ∈ l
  | [], m, a, h => .inl h
  | n :: l, m, a, h => by
    rcases Qy.ixListM_mem l (Qy.ix m n).2 a h with h | h
    · rcases Qy.ix_mem h with h | h
      · exact .inl h
      · exact .inr (by simp [h])
    · exact .inr (List.mem_cons_of_mem _ h)
theorem Qy.ixArg_mem {m : List Int} {x : Qy.Arg} {a : Int} (h : a ∈ (Qy.ixArg m x).2) : a ∈ m ∨ a ∈ x.vars := by
  obtain ⟨v, n⟩ := x
  cases v with
  | true =>
    rcases Qy.ix_mem (show a ∈ (Qy.ix m n).2 from h) with h | h
    · exact .inl h
    · exact .inr (by simp [Qy.Arg.vars, h])
  | false => exact .inl h
theorem Qy.ixAtoms_mem : ∀ (l : List Qy.Atom) (m : List Int) (a : Int), a ∈ (Qy.ixAtoms m l).2 → a ∈ m ∨ a ∈ l.flatMap Qy.Atom.vars
  | [], m, a, h => .inl h
  | x :: l, m, a, h => by
    rw [List.flatMap_cons]
    rcases Qy.ixAtoms_mem l (Qy.ixA1 m x).2 a h with h | h
    · have h' : a ∈ (Qy.ixArg (Qy.ixArg (Qy.ixArg m x.subj).2 x.obj).2 x.val).2 := h
      rcases Qy.ixArg_mem h' with h | h
      · rcases Qy.ixArg_mem h with h | h
        · rcases Qy.ixArg_mem h with h | h
          · exact .inl h
          · exact .inr (List.mem_append_left _ (by simp [Qy.Atom.vars, h]))
        · exact .inr (List.mem_append_left _ (by simp [Qy.Atom.vars, h]))
      · exact .inr (List.mem_append_left _ (by simp [Qy.Atom.vars, h]))
    · exact .inr (List.mem_append_right _ h)
theorem Qy.ixTests_mem : ∀ (l : List Qy.Test) (m : List Int) (a : Int), a ∈ (Qy.ixTests m l).2 → a ∈ m ∨ a ∈ l.flatMap Qy.Test.vars
  | [], m, a, h => .inl h
  | x :: l, m, a, h => by
    rw [List.flatMap_cons]
    rcases Qy.ixTests_mem l (Qy.ixT1 m x).2 a h with h | h
    · have h' : a ∈ (Qy.ixArg (Qy.ixArg m x.a).2 x.b).2 := h
      rcases Qy.ixArg_mem h' with h | h
      · rcases Qy.ixArg_mem h with h | h
        · exact .inl h
        · exact .inr (List.mem_append_left _ (by simp [Qy.Test.vars, h]))
      · exact .inr (List.mem_append_left _ (by simp [Qy.Test.vars, h]))
    · exact .inr (List.mem_append_right _ h)
theorem Qy.ixA1_eq {M m1 m2 m3 : List Int} {x : Qy.Atom} {y1 y2 y3 : Qy.Arg} (h1 : (y1, m1) = Qy.ixArg M x.subj) (h2 : (y2, m2) = Qy.ixArg m1 x.obj) (h3 : (y3, m3) = Qy.ixArg m2 x.val) : Qy.ixA1 M x = (⟨x.kind, y1, y2, y3, x.term, x.known⟩, m3) := by
  unfold Qy.ixA1
  rw [← h1]; simp only
  rw [← h2]; simp only
  rw [← h3]
theorem Qy.ixT1_eq {M m1 m2 : List Int} {x : Qy.Test} {y1 y2 : Qy.Arg} (h1 : (y1, m1) = Qy.ixArg M x.a) (h2 : (y2, m2) = Qy.ixArg m1 x.b) : Qy.ixT1 M x = (⟨x.op, y1, y2⟩, m2) := by
  unfold Qy.ixT1
  rw [← h1]; simp only
  rw [← h2]
theorem take_snoc' {α : Type} {l : List α} {k : Nat} {x : α} (h : l[k]? = some x) : l.take (k + 1) = l.take k ++ [x] := by rw [List.take_add_one, h]; rfl

/-- index and arg, called in a world with a few draws or new blocks behind w0; all seen from the first world w. -/
def IdxE (B ob ib qb xb : Nat) (qcs : Array Value) (m sh : List Int) (at0 : List Qy.Atom) (ts : List Qy.Test) (ns : List (List UInt8)) (n : Int) (w w0 : World) (e : Ending) (w' : World) : Prop :=
  e = .returned (.int .i64 (Qy.ix m n).1) ∧ PrD B ob ib qb xb qcs (Qy.ix m n).2 sh at0 ts ns w' ∧ (∀ i, w'.cell? ⟨xb, i, none⟩ = w0.cell? ⟨xb, i, none⟩) ∧ KN w0 w' ∧ Below B w w'
theorem KN.below {w w' : World} (hb : Below w.heap.size w w') : KN w w' := ⟨hb.size, fun _ _ _ h _ _ => h.below hb h.lt⟩
theorem lIdxE {B ob ib qb xb : Nat} {qcs : Array Value} {m sh : List Int} {at0 : List Qy.Atom} {ts : List Qy.Test} {ns : List (List UInt8)} (n : Int) (w w0 W : World) (h : PrD B ob ib qb xb qcs m sh at0 ts ns w0) (hl : m.length ≤ 1000) (hw : Below B w w0) (hW : Below w0.heap.size w0 W) :
    Calls Tryd.prog 21 #[.int .i64 n, .pointer (some ⟨ob, 0, none⟩)] W (IdxE B ob ib qb xb qcs m sh at0 ts ns n w w0) := by
  have hB : B ≤ w0.heap.size := by have := h.idx.lt; have := h.ge; omega
  refine (lIdxD n W (h.next hW) hl).mono fun e w' ⟨h1, h2, h3, h4, h5⟩ => ⟨h1, h2, fun i => ?_, (KN.below hW).trans h4, (hw.trans (hW.mono hB)).trans h5⟩
  obtain ⟨vo, vn, vs, va, vt, p1, p2, _⟩ := h.ex
  rw [h3 i, hW.cell (p := ⟨xb, i, none⟩) p2.lt]
def ArgE (B ob ib qb xb : Nat) (qcs : Array Value) (m sh : List Int) (at0 : List Qy.Atom) (ts : List Qy.Test) (ns : List (List UInt8)) (T : TypeId) (p : Nat) (cs : Array Value) (a : Qy.Arg) (w : World) (e : Ending) (w' : World) : Prop :=
  ∃ y m', (y, m') = Qy.ixArg m a ∧ m'.length ≤ m.length + 1 ∧ e = .returned (.agg #[.bool y.var, .int .i64 y.n]) ∧ PrL B ob ib qb xb qcs m' sh at0 ts ns T p cs w' ∧ Below B w w'
theorem lArgE {B ob ib qb xb : Nat} {qcs : Array Value} {m sh : List Int} {at0 : List Qy.Atom} {ts : List Qy.Test} {ns : List (List UInt8)} {T : TypeId} {p : Nat} {cs : Array Value} (a : Qy.Arg) (w w0 : World) (h : PrL B ob ib qb xb qcs m sh at0 ts ns T p cs w0) (hT : T ≠ 23 ∧ T ≠ 3) (hl : m.length ≤ 1000) (hw : Below B w w0) :
    Calls Tryd.prog 22 #[.agg #[.bool a.var, .int .i64 a.n], .pointer (some ⟨ib, 0, none⟩)] w0 (ArgE B ob ib qb xb qcs m sh at0 ts ns T p cs a w) :=
  (lArgD a w0 h.pr hl).mono fun _ _ ⟨h1, h2, h3, h4, h5⟩ => ⟨_, _, rfl, Qy.ixArg_len m a, h1, h.step hT h2 h3 h4, hw.trans h5⟩

def PrintedPost (X : ByteArray) (w : World) (e : Ending) (w' : World) : Prop := e = .returned (.tuple #[.string X, .bool true]) ∧ Below w.heap.size w w'

set_option maxRecDepth 20000 in
set_option maxHeartbeats 4000000 in
theorem lPrinted (A0 A1 A2 A3 : Option Addr) (c0 c1 c2 c3 : Nat) (names : List (List UInt8)) (shown : List Int) (atoms : List Qy.Atom) (tests : List Qy.Test) (X : ByteArray) (w : World) (he : EnvQ w)
    (h0 : Lies w w.heap.size A0 1 (names.map strC)) (h1 : Lies w w.heap.size A1 1 (shown.map intC)) (h2 : Lies w w.heap.size A2 9 (atoms.map atomC)) (h3 : Lies w w.heap.size A3 5 (tests.map testC))
    (htx : ∀ n ∈ names, n.length ≤ 140737488351232) (hin : ∀ n ∈ shown ++ (atoms.flatMap Qy.Atom.vars ++ tests.flatMap Qy.Test.vars), 0 ≤ n ∧ n < names.length) (hn0 : names.length ≤ 8) (hn1 : shown.length ≤ 8) (hn2 : atoms.length ≤ 16) (hn3 : tests.length ≤ 16)
    (hP : Qy.printR (Qy.renumber ⟨[], names, shown, atoms, tests⟩) = (X, 0)) (hX : 2 < X.size) (hX2 : X.size ≤ 1000000) :
    Calls Tryd.prog 7 #[.slice A0 names.length c0, .agg #[.slice none 0 0, .slice A1 shown.length c1, .slice A2 atoms.length c2, .slice A3 tests.length c3]] w (PrintedPost X w) := by
  obtain ⟨i0, hi0, hz0, hz1, hz2⟩ := info_parts Tryd.infoIntP
  obtain ⟨iA, hiA, hA0, hA1, hA2⟩ := info_parts Tryd.infoAtom
  obtain ⟨iT, hiT, hT0, hT1, hT2⟩ := info_parts Tryd.infoTest
  obtain ⟨iS, hiS, hS0, hS1, hS2⟩ := info_parts Tryd.infoStr
  obtain ⟨N0, hN0⟩ : ∃ n, n = names.length := ⟨_, rfl⟩
  obtain ⟨N1, hN1⟩ : ∃ n, n = shown.length := ⟨_, rfl⟩
  obtain ⟨N2, hN2⟩ : ∃ n, n = atoms.length := ⟨_, rfl⟩
  obtain ⟨N3, hN3⟩ : ∃ n, n = tests.length := ⟨_, rfl⟩
  rw [← hN0] at hn0 hin ⊢
  rw [← hN1] at hn1 ⊢
  rw [← hN2] at hn2 ⊢
  rw [← hN3] at hn3 ⊢
  have HN0 := Lib.hid hN0; have HN1 := Lib.hid hN1; have HN2 := Lib.hid hN2; have HN3 := Lib.hid hN3; have H0 := Lib.hid h0; have H1 := Lib.hid h1; have H2 := Lib.hid h2; have H3 := Lib.hid h3; have Htx := Lib.hid htx; have Hin := Lib.hid hin; have HP := Lib.hid hP; have HE := Lib.hid he
  clear hN0 hN1 hN2 hN3 h0 h1 h2 h3 htx hin hP he
  go_enter Tryd.func7, Tryd.ntmps7
  go_wp2_with fail
  obtain ⟨W0, hW0⟩ : ∃ W0, W0 = (((w.alloc (.cells #[.slice none 0 0, .slice A1 N1 c1, .slice A2 N2 c2, .slice A3 N3 c3] 27)).alloc (.cells #[.slice none 0 0] 23)).alloc (.cells #[idxF (w.heap.size + 1)] 64)).alloc (.cells #[.slice none 0 0, .slice none 0 0, .slice none 0 0, .slice none 0 0] 27) := ⟨_, rfl⟩
  change Code.wp _ _ _ _ ((((w.alloc (.cells #[.slice none 0 0, .slice A1 N1 c1, .slice A2 N2 c2, .slice A3 N3 c3] 27)).alloc (.cells #[.slice none 0 0] 23)).alloc (.cells #[idxF (w.heap.size + 1)] 64)).alloc (.cells #[.slice none 0 0, .slice none 0 0, .slice none 0 0, .slice none 0 0] 27))
  rw [← hW0]
  have hb0 : Below w.heap.size w W0 := by rw [hW0]; exact ((((Below.refl _ _).alloc (Nat.le_refl _) _).alloc (by simp) _).alloc (by simp; omega) _).alloc (by simp; omega) _
  obtain ⟨qcs, hqcs⟩ : ∃ qcs : Array Value, qcs = #[.slice none 0 0, .slice A1 N1 c1, .slice A2 N2 c2, .slice A3 N3 c3] := ⟨_, rfl⟩
  have hD0 : PrD w.heap.size (w.heap.size + 1) (w.heap.size + 1 + 1) w.heap.size (w.heap.size + 1 + 1 + 1) qcs [] [] [] [] [] W0 := by
    rw [hW0, hqcs]
    exact ⟨⟨_, _, _, _, _, ((Blk.new_at _ _ (by simp)).alloc _).alloc _, Blk.new_at _ _ (by simp), ⟨rfl, .inl ⟨rfl, rfl⟩⟩, ⟨rfl, .inl ⟨rfl, rfl⟩⟩, ⟨rfl, .inl ⟨rfl, rfl⟩⟩, ⟨rfl, .inl ⟨rfl, rfl⟩⟩, ⟨rfl, .inl ⟨rfl, rfl⟩⟩, .inl rfl⟩, (Blk.new_at _ _ (by simp)).alloc _, (((Blk.new _ _ _).alloc _).alloc _).alloc _, by omega, by omega⟩
  have HD0 := Lib.hid hD0; have HB0 := Lib.hid hb0; have Hq := Lib.hid hqcs
  clear hW0 hb0 hD0 hqcs
  go_loopw [26] (fun v26 wr => ∃ k : Nat, k ≤ N1 ∧ v26 = .int .i64 k ∧ Hid (PrD w.heap.size (w.heap.size + 1) (w.heap.size + 1 + 1) w.heap.size (w.heap.size + 1 + 1 + 1) qcs (Qy.ixList [] (shown.take k)).2 (Qy.ixList [] (shown.take k)).1 [] [] [] wr) ∧ Below w.heap.size w wr) (fun v26 _ => N1 - (intOf v26).toNat)
  case atStart => exact ⟨0, by omega, rfl, Lib.hid HD0.out, HB0.out⟩
  case round =>
    obtain ⟨k, hk, rfl, HD, hbel⟩ := hrel
    by_cases hlt : k < N1
    · obtain ⟨n, hn⟩ : ∃ n, shown[k]? = some n := ⟨_, List.getElem?_eq_getElem (by have := HN1.out; omega)⟩
      have h1 := H1.out.below hbel (Nat.le_refl _)
      obtain ⟨b1, o1, rfl, hb1, hc1⟩ := h1.at_ k (intC n) (by rw [List.getElem?_map, hn]; rfl)
      have k1 := hc1 0 _ rfl
      rw [Nat.mul_one, Nat.add_zero] at k1
      have hsn := Qy.ixListM_snoc n (shown.take k) []
      rw [← take_snoc' hn] at hsn
      obtain ⟨M, S, hMS⟩ : ∃ M S, (S, M) = Qy.ixList [] (shown.take k) := ⟨_, _, rfl⟩
      have hMl : M.length ≤ k := by
        have := Qy.ixListM_len (shown.take k) []
        rw [← hMS, List.length_take] at this
        simp only [List.length_nil] at this
        omega
      rw [← hMS] at hsn HD
      simp only at HD hsn
      have hSl : S.length ≤ k := by
        have : S = (Qy.ixList [] (shown.take k)).1 := by rw [← hMS]
        have h2 : ∀ (l m : List Int), (Qy.ixList m l).1.length = l.length := fun l => by
          induction l with
          | nil => intro m; rfl
          | cons a l ih => intro m; show ((Qy.ix m a).1 :: (Qy.ixList (Qy.ix m a).2 l).1).length = _; simp [ih]
        rw [this, h2, List.length_take]; omega
      obtain ⟨vo, vn, vs, va, vt, p1, p2, _⟩ := HD.out.ex
      have z1 := p2.cell 1; have zi := HD.out.idx.cell 0
      simp [idxF] at z1 zi
      have hxl := p2.lt
      have Hsn := Lib.hid hsn; have Hbel := Lib.hid hbel
      have Hix := Lib.hid (fun (W : World) (hW : Below wr.heap.size wr W) => lIdxE n w wr W HD.out (by omega) hbel hW)
      have Z1 := Lib.hid z1
      clear h1 hc1 hn hsn hMS hbel p1 p2
      go_wp2_with fail
      go_region_law (first
        | (refine step_append_lies _ rfl _ _ _ rfl w.heap.size 3 i0 _ 1 8 Tryd.underlying23 hi0 hz0 hz1 hz2 rfl (by omega) vs S.length _ rfl (HA.out.2.2.2.1.alloc _) ⟨w2.heap.size, 0, none⟩ 1 1 [.int .i64 (Qy.ix M n).1] rfl rfl (World.news_of_block (cs := #[.int .i64 (Qy.ix M n).1]) (t := 3) (fr := (0, 0)) (heap_alloc_new w2 _)) (by simp [Value.oneCell']) (by omega) (by unfold maxLen; omega) (by omega) (by simp; omega) (w2.heap.size + 1) (by simp) ?_; intro gg cap w3 hown3 hgrow3 hat3 hlt3; have hQ := HA.out.2.2.2.2 _ w3 gg cap _ ((Below.refl _ _).alloc (Nat.le_refl _) _) hgrow3 (hat3.imp id (fun h => by omega)) hown3; have d5 := hQ.1.1; have df5 := hQ.1.2; have HQ := Lib.hid hQ.2; clear hQ hown3 hgrow3 hat3)
        | (go_simp; go_at_call 21; refine (Hix.out _ (by first | exact Below.refl _ _ | exact (Below.refl _ _).drew | exact bel_drewN (Below.refl _ _) _ | exact (Below.refl _ _).drew.drew)).mono ?_; rintro e w2 ⟨rfl, hD2, hc2, _, hb2⟩; have z2 : w2.cell? ⟨w.heap.size + 1 + 1 + 1, 1, none⟩ = some vs := (hc2 1).trans Z1.out; have hA := hD2.app1 z2; have zf2 := hA.1; have zl2 := hA.2.1; have zB := hA.2.2.1; have HA := Lib.hid hA; have HB2 := Lib.hid hb2; clear hD2 hc2 hb2 hA))
      all_goals (try go_wp2_with fail)
      all_goals go_roundw
      all_goals first
        | exact ⟨k + 1, by omega, by go_num, Lib.hid (by rw [Hsn.out]; exact HQ.out.1), HB2.out.trans HQ.out.2⟩
        | (simp [intOf]; omega)
    · obtain rfl : k = N1 := by omega
      rw [show shown.take k = shown by rw [HN1.out]; exact List.take_length] at HD
      obtain ⟨M1, S1, hMS1⟩ : ∃ M S, (S, M) = Qy.ixList [] shown := ⟨_, _, rfl⟩
      have hM1 : M1.length ≤ 8 := by
        have := Qy.ixListM_len shown []
        rw [← hMS1, ← HN1.out] at this
        simp only [List.length_nil] at this
        omega
      rw [← hMS1] at HD
      simp only at HD
      have HMS1 := Lib.hid hMS1
      have zq := HD.out.box.cell 2
      rw [Hq.out] at zq
      simp at zq
      have Hbel := Lib.hid hbel
      clear hMS1 hlt hbel
      go_wp2_with fail
      go_loopw [42] (fun v42 wr => ∃ k : Nat, k ≤ N2 ∧ v42 = .int .i64 k ∧ Hid (PrD w.heap.size (w.heap.size + 1) (w.heap.size + 1 + 1) w.heap.size (w.heap.size + 1 + 1 + 1) qcs (Qy.ixAtoms M1 (atoms.take k)).2 S1 (Qy.ixAtoms M1 (atoms.take k)).1 [] [] wr) ∧ Below w.heap.size w wr) (fun v42 _ => N2 - (intOf v42).toNat)
      case atStart => exact ⟨0, by omega, rfl, Lib.hid HD.out, Hbel.out⟩
      case round =>
        obtain ⟨j, hj, rfl, HD, hbel⟩ := hrel
        by_cases hlt : j < N2
        · obtain ⟨x, hx⟩ : ∃ x, atoms[j]? = some x := ⟨_, List.getElem?_eq_getElem (by have := HN2.out; omega)⟩
          have h1 := H2.out.below hbel (Nat.le_refl _)
          obtain ⟨b2, o2, rfl, hb2, hc2⟩ := h1.at_ j (atomC x) (by rw [List.getElem?_map, hx]; rfl)
          have k0 := hc2 0 _ rfl; have k1 := hc2 1 _ rfl; have k2 := hc2 2 _ rfl; have k3 := hc2 3 _ rfl; have k4 := hc2 4 _ rfl; have k5 := hc2 5 _ rfl; have k6 := hc2 6 _ rfl; have k7 := hc2 7 _ rfl; have k8 := hc2 8 _ rfl
          rw [Nat.add_zero] at k0
          have hsn := Qy.ixAtoms_snoc x (atoms.take j) M1
          rw [← take_snoc' hx] at hsn
          obtain ⟨M, hM⟩ : ∃ M, M = (Qy.ixAtoms M1 (atoms.take j)).2 := ⟨_, rfl⟩
          obtain ⟨S, hS⟩ : ∃ S, S = (Qy.ixAtoms M1 (atoms.take j)).1 := ⟨_, rfl⟩
          have hMl : M.length ≤ 8 + 3 * j := by
            have := Qy.ixAtoms_len (atoms.take j) M1
            rw [← hM, List.length_take] at this
            omega
          have hSl : S.length ≤ j := by
            have h2 : ∀ (l : List Qy.Atom) (m : List Int), (Qy.ixAtoms m l).1.length = l.length := fun l => by
              induction l with
              | nil => intro m; rfl
              | cons a l ih => intro m; show ((Qy.ixA1 m a).1 :: (Qy.ixAtoms (Qy.ixA1 m a).2 l).1).length = _; simp [ih]
            rw [hS, h2, List.length_take]; omega
          rw [← hM, ← hS] at hsn HD
          have Hsn := Lib.hid hsn; have Hbel := Lib.hid hbel
          have hszr := hbel.size
          have hx9 : w.heap.size + 1 + 1 + 1 < wr.heap.size := by
            obtain ⟨_, _, _, _, _, -, p2, -⟩ := HD.out.ex
            exact p2.lt
          have L := Lib.hid (PrL.new HD.out 43 #[.int .i64 x.kind, .bool x.subj.var, .int .i64 x.subj.n, .bool x.obj.var, .int .i64 x.obj.n, .bool x.val.var, .int .i64 x.val.n, .int .i64 x.term, .int .i64 x.known])
          have HBL := Lib.hid (hbel.alloc hszr (.cells #[.int .i64 x.kind, .bool x.subj.var, .int .i64 x.subj.n, .bool x.obj.var, .int .i64 x.obj.n, .bool x.val.var, .int .i64 x.val.n, .int .i64 x.term, .int .i64 x.known] 43))
          clear h1 hc2 hx hsn hM hS hbel HD
          go_wp2_with fail
          refine (lArgE x.subj w _ L.out (by decide) (by omega) HBL.out).mono ?_
          rintro e w2 ⟨y1, m1, hy1, a1, rfl, L2, hb2'⟩
          have HY1 := Lib.hid hy1
          replace L := Lib.hid ((L2.set (by decide) 1 (.bool y1.var)).set (by decide) 2 (.int .i64 y1.n))
          have c1_0 := L2.blk.cell 0
          have c1_1 := L2.blk.cell 1
          have c1_2 := L2.blk.cell 2
          have c1_3 := L2.blk.cell 3
          have c1_4 := L2.blk.cell 4
          have c1_5 := L2.blk.cell 5
          have c1_6 := L2.blk.cell 6
          have c1_7 := L2.blk.cell 7
          have c1_8 := L2.blk.cell 8
          have f1_0 := L2.blk.free 1; have f1_1 := L2.blk.free 2
          simp at c1_0 c1_1 c1_2 c1_3 c1_4 c1_5 c1_6 c1_7 c1_8
          replace HBL := Lib.hid ((hb2'.setCell (p := ⟨wr.heap.size, 1, none⟩) hszr (.bool y1.var)).setCell (p := ⟨wr.heap.size, 2, none⟩) hszr (.int .i64 y1.n))
          clear hy1 L2 hb2' k0 k1 k2 k3 k4 k5 k6 k7 k8
          go_wp2_with fail
          refine (lArgE x.obj w _ L.out (by decide) (by omega) HBL.out).mono ?_
          rintro e w3 ⟨y2, m2, hy2, a2, rfl, L2, hb2'⟩
          have HY2 := Lib.hid hy2
          replace L := Lib.hid ((L2.set (by decide) 3 (.bool y2.var)).set (by decide) 4 (.int .i64 y2.n))
          have c2_0 := L2.blk.cell 0
          have c2_1 := L2.blk.cell 1
          have c2_2 := L2.blk.cell 2
          have c2_3 := L2.blk.cell 3
          have c2_4 := L2.blk.cell 4
          have c2_5 := L2.blk.cell 5
          have c2_6 := L2.blk.cell 6
          have c2_7 := L2.blk.cell 7
          have c2_8 := L2.blk.cell 8
          have f2_0 := L2.blk.free 3; have f2_1 := L2.blk.free 4
          simp at c2_0 c2_1 c2_2 c2_3 c2_4 c2_5 c2_6 c2_7 c2_8
          replace HBL := Lib.hid ((hb2'.setCell (p := ⟨wr.heap.size, 3, none⟩) hszr (.bool y2.var)).setCell (p := ⟨wr.heap.size, 4, none⟩) hszr (.int .i64 y2.n))
          clear hy2 L2 hb2' c1_0 c1_1 c1_2 c1_3 c1_4 c1_5 c1_6 c1_7 c1_8 f1_0 f1_1
          go_wp2_with fail
          refine (lArgE x.val w _ L.out (by decide) (by omega) HBL.out).mono ?_
          rintro e w4 ⟨y3, m3, hy3, a3, rfl, L2, hb2'⟩
          obtain ⟨vo, vn, vs, va, vt, -, p2, -⟩ := L2.pr.ex
          have z2 := p2.cell 2; have zf2 := p2.free 2
          simp at z2
          have Z2 : Hid (((w4.setCell ⟨wr.heap.size, 5, none⟩ (.bool y3.var)).setCell ⟨wr.heap.size, 6, none⟩ (.int .i64 y3.n)).cell? ⟨w.heap.size + 1 + 1 + 1, 2, none⟩ = some va) := Lib.hid (by
            rw [((p2.far (p := ⟨wr.heap.size, 5, none⟩) (show w.heap.size + 1 + 1 + 1 ≠ wr.heap.size by omega) (.bool y3.var)).far (p := ⟨wr.heap.size, 6, none⟩) (show w.heap.size + 1 + 1 + 1 ≠ wr.heap.size by omega) (.int .i64 y3.n)).cell 2]; rfl)
          have hx4 := p2.lt
          clear p2
          have HY3 := Lib.hid hy3
          replace L := Lib.hid ((L2.set (by decide) 5 (.bool y3.var)).set (by decide) 6 (.int .i64 y3.n))
          have c3_0 := L2.blk.cell 0
          have c3_1 := L2.blk.cell 1
          have c3_2 := L2.blk.cell 2
          have c3_3 := L2.blk.cell 3
          have c3_4 := L2.blk.cell 4
          have c3_5 := L2.blk.cell 5
          have c3_6 := L2.blk.cell 6
          have c3_7 := L2.blk.cell 7
          have c3_8 := L2.blk.cell 8
          have f3_0 := L2.blk.free 5; have f3_1 := L2.blk.free 6
          simp at c3_0 c3_1 c3_2 c3_3 c3_4 c3_5 c3_6 c3_7 c3_8
          replace HBL := Lib.hid ((hb2'.setCell (p := ⟨wr.heap.size, 5, none⟩) hszr (.bool y3.var)).setCell (p := ⟨wr.heap.size, 6, none⟩) hszr (.int .i64 y3.n))
          clear hy3 L2 hb2' c2_0 c2_1 c2_2 c2_3 c2_4 c2_5 c2_6 c2_7 c2_8 f2_0 f2_1
          have HX := Lib.hid (Qy.ixA1_eq HY1.out HY2.out HY3.out)
          rw [HX.out] at Hsn
          go_wp2_with (at_builtin; obtain ⟨W, hW⟩ : ∃ W, W = (w4.setCell ⟨wr.heap.size, 5, none⟩ (.bool y3.var)).setCell ⟨wr.heap.size, 6, none⟩ (.int .i64 y3.n) := ⟨_, rfl⟩; rw [← hW]; have hLW := L.out; have hZW := Z2.out; have hBW := HBL.out; have hWs : W.heap.size = w4.heap.size := (by rw [hW]; simp [World.setCell]); rw [← hW] at hLW hZW hBW; have HBW := Lib.hid hBW; have HA := Lib.hid (hLW.pr.app2 hZW); clear hW hLW hZW hBW c3_0 c3_1 c3_2 c3_3 c3_4 c3_5 c3_6 c3_7 c3_8 f3_0 f3_1 z2 zf2; refine wpList_append_lies _ rfl _ _ _ rfl w.heap.size 43 iA _ 9 72 Tryd.underlying24 hiA hA0 hA1 hA2 rfl (by omega) va S.length _ rfl (HA.out.2.2.2.1.alloc _) ⟨w4.heap.size, 0, none⟩ 1 1 [.int .i64 x.kind, .bool y1.var, .int .i64 y1.n, .bool y2.var, .int .i64 y2.n, .bool y3.var, .int .i64 y3.n, .int .i64 x.term, .int .i64 x.known] rfl rfl (World.news_of_block (cs := #[.int .i64 x.kind, .bool y1.var, .int .i64 y1.n, .bool y2.var, .int .i64 y2.n, .bool y3.var, .int .i64 y3.n, .int .i64 x.term, .int .i64 x.known]) (t := 43) (fr := (0, 0)) (by rw [← hWs]; exact heap_alloc_new W _)) (by simp [Value.oneCell']) (by omega) (by unfold maxLen; omega) (by omega) (by simp; omega) (W.heap.size + 1) (by simp) ?_; intro gg cap w3 hown3 hgrow3 hat3 hlt3; have hQ := HA.out.2.2.2.2 _ w3 gg cap ⟨x.kind, y1, y2, y3, x.term, x.known⟩ ((Below.refl _ _).alloc (Nat.le_refl _) _) hgrow3 hown3; have d5 := hQ.1.1; have df5 := hQ.1.2; have HQ := Lib.hid hQ.2; clear hQ hown3 hgrow3 hat3)
          go_roundw
          case rel => exact ⟨j + 1, by omega, by go_num, Lib.hid (by rw [Hsn.out]; exact HQ.out.1), HBW.out.trans HQ.out.2⟩
          case measure => simp [intOf]; omega
        · obtain rfl : j = N2 := by omega
          rw [show atoms.take j = atoms by rw [HN2.out]; exact List.take_length] at HD
          obtain ⟨M2, hM2⟩ : ∃ M, M = (Qy.ixAtoms M1 atoms).2 := ⟨_, rfl⟩
          obtain ⟨S2, hS2⟩ : ∃ S, S = (Qy.ixAtoms M1 atoms).1 := ⟨_, rfl⟩
          have hM2l : M2.length ≤ 8 + 3 * j := by
            have := Qy.ixAtoms_len atoms M1
            rw [← hM2, ← HN2.out] at this
            omega
          rw [← hM2, ← hS2] at HD
          have HM2 := Lib.hid hM2; have HS2 := Lib.hid hS2
          have zq3 := HD.out.box.cell 3
          rw [Hq.out] at zq3
          simp at zq3
          have Hbel2 := Lib.hid hbel
          clear hM2 hS2 hlt hbel zq
          go_wp2_with fail
          go_loopw [71] (fun v71 wr => ∃ i : Nat, i ≤ N3 ∧ v71 = .int .i64 i ∧ Hid (PrD w.heap.size (w.heap.size + 1) (w.heap.size + 1 + 1) w.heap.size (w.heap.size + 1 + 1 + 1) qcs (Qy.ixTests M2 (tests.take i)).2 S1 S2 (Qy.ixTests M2 (tests.take i)).1 [] wr) ∧ Below w.heap.size w wr) (fun v71 _ => N3 - (intOf v71).toNat)
          case atStart => exact ⟨0, by omega, rfl, Lib.hid HD.out, Hbel2.out⟩
          case round =>
          obtain ⟨i, hi, rfl, HD, hbel⟩ := hrel
          by_cases hlt : i < N3
          · obtain ⟨x, hx⟩ : ∃ x, tests[i]? = some x := ⟨_, List.getElem?_eq_getElem (by have := HN3.out; omega)⟩
            have h1 := H3.out.below hbel (Nat.le_refl _)
            obtain ⟨b2, o2, rfl, hb2, hc2⟩ := h1.at_ i (testC x) (by rw [List.getElem?_map, hx]; rfl)
            have k0 := hc2 0 _ rfl; have k1 := hc2 1 _ rfl; have k2 := hc2 2 _ rfl; have k3 := hc2 3 _ rfl; have k4 := hc2 4 _ rfl
            rw [Nat.add_zero] at k0
            have hsn := Qy.ixTests_snoc x (tests.take i) M2
            rw [← take_snoc' hx] at hsn
            obtain ⟨M, hM⟩ : ∃ M, M = (Qy.ixTests M2 (tests.take i)).2 := ⟨_, rfl⟩
            obtain ⟨S, hS⟩ : ∃ S, S = (Qy.ixTests M2 (tests.take i)).1 := ⟨_, rfl⟩
            have hMl : M.length ≤ 8 + 3 * j + 2 * i := by
              have := Qy.ixTests_len (tests.take i) M2
              rw [← hM, List.length_take] at this
              omega
            have hSl : S.length ≤ i := by
              have h2 : ∀ (l : List Qy.Test) (m : List Int), (Qy.ixTests m l).1.length = l.length := fun l => by
                induction l with
                | nil => intro m; rfl
                | cons a l ih => intro m; show ((Qy.ixT1 m a).1 :: (Qy.ixTests (Qy.ixT1 m a).2 l).1).length = _; simp [ih]
              rw [hS, h2, List.length_take]; omega
            rw [← hM, ← hS] at hsn HD
            have Hsn := Lib.hid hsn; have Hbel := Lib.hid hbel
            have hszr := hbel.size
            have hx9 : w.heap.size + 1 + 1 + 1 < wr.heap.size := by
              obtain ⟨_, _, _, _, _, -, p2, -⟩ := HD.out.ex
              exact p2.lt
            have L := Lib.hid (PrL.new HD.out 45 #[.int .i64 x.op, .bool x.a.var, .int .i64 x.a.n, .bool x.b.var, .int .i64 x.b.n])
            have HBL := Lib.hid (hbel.alloc hszr (.cells #[.int .i64 x.op, .bool x.a.var, .int .i64 x.a.n, .bool x.b.var, .int .i64 x.b.n] 45))
            clear h1 hc2 hx hsn hM hS hbel HD
            go_wp2_with fail
            refine (lArgE x.a w _ L.out (by decide) (by omega) HBL.out).mono ?_
            rintro e w2 ⟨y1, m1, hy1, a1, rfl, L2, hb2'⟩
            have HY1 := Lib.hid hy1
            replace L := Lib.hid ((L2.set (by decide) 1 (.bool y1.var)).set (by decide) 2 (.int .i64 y1.n))
            have c1_0 := L2.blk.cell 0
            have c1_1 := L2.blk.cell 1
            have c1_2 := L2.blk.cell 2
            have c1_3 := L2.blk.cell 3
            have c1_4 := L2.blk.cell 4
            have f1_0 := L2.blk.free 1; have f1_1 := L2.blk.free 2
            simp at c1_0 c1_1 c1_2 c1_3 c1_4
            replace HBL := Lib.hid ((hb2'.setCell (p := ⟨wr.heap.size, 1, none⟩) hszr (.bool y1.var)).setCell (p := ⟨wr.heap.size, 2, none⟩) hszr (.int .i64 y1.n))
            clear hy1 L2 hb2' k0 k1 k2 k3 k4
            go_wp2_with fail
            refine (lArgE x.b w _ L.out (by decide) (by omega) HBL.out).mono ?_
            rintro e w3 ⟨y2, m2, hy2, a2, rfl, L2, hb2'⟩
            obtain ⟨vo, vn, vs, va, vt, -, p2, -⟩ := L2.pr.ex
            have z2 := p2.cell 3; have zf2 := p2.free 3
            simp at z2
            have Z2 : Hid (((w3.setCell ⟨wr.heap.size, 3, none⟩ (.bool y2.var)).setCell ⟨wr.heap.size, 4, none⟩ (.int .i64 y2.n)).cell? ⟨w.heap.size + 1 + 1 + 1, 3, none⟩ = some vt) := Lib.hid (by
              rw [((p2.far (p := ⟨wr.heap.size, 3, none⟩) (show w.heap.size + 1 + 1 + 1 ≠ wr.heap.size by omega) (.bool y2.var)).far (p := ⟨wr.heap.size, 4, none⟩) (show w.heap.size + 1 + 1 + 1 ≠ wr.heap.size by omega) (.int .i64 y2.n)).cell 3]; rfl)
            have hx4 := p2.lt
            clear p2
            have HY2 := Lib.hid hy2
            replace L := Lib.hid ((L2.set (by decide) 3 (.bool y2.var)).set (by decide) 4 (.int .i64 y2.n))
            have c2_0 := L2.blk.cell 0
            have c2_1 := L2.blk.cell 1
            have c2_2 := L2.blk.cell 2
            have c2_3 := L2.blk.cell 3
            have c2_4 := L2.blk.cell 4
            have f2_0 := L2.blk.free 3; have f2_1 := L2.blk.free 4
            simp at c2_0 c2_1 c2_2 c2_3 c2_4
            replace HBL := Lib.hid ((hb2'.setCell (p := ⟨wr.heap.size, 3, none⟩) hszr (.bool y2.var)).setCell (p := ⟨wr.heap.size, 4, none⟩) hszr (.int .i64 y2.n))
            clear hy2 L2 hb2' c1_0 c1_1 c1_2 c1_3 c1_4 f1_0 f1_1
            have HX := Lib.hid (Qy.ixT1_eq HY1.out HY2.out)
            rw [HX.out] at Hsn
            go_wp2_with (at_builtin; obtain ⟨W, hW⟩ : ∃ W, W = (w3.setCell ⟨wr.heap.size, 3, none⟩ (.bool y2.var)).setCell ⟨wr.heap.size, 4, none⟩ (.int .i64 y2.n) := ⟨_, rfl⟩; rw [← hW]; have hLW := L.out; have hZW := Z2.out; have hBW := HBL.out; have hWs : W.heap.size = w3.heap.size := (by rw [hW]; simp [World.setCell]); rw [← hW] at hLW hZW hBW; have HBW := Lib.hid hBW; have HA := Lib.hid (hLW.pr.app3 hZW); clear hW hLW hZW hBW c2_0 c2_1 c2_2 c2_3 c2_4 f2_0 f2_1 z2 zf2; refine wpList_append_lies _ rfl _ _ _ rfl w.heap.size 45 iT _ 5 40 Tryd.underlying25 hiT hT0 hT1 hT2 rfl (by omega) vt S.length _ rfl (HA.out.2.2.2.1.alloc _) ⟨w3.heap.size, 0, none⟩ 1 1 [.int .i64 x.op, .bool y1.var, .int .i64 y1.n, .bool y2.var, .int .i64 y2.n] rfl rfl (World.news_of_block (cs := #[.int .i64 x.op, .bool y1.var, .int .i64 y1.n, .bool y2.var, .int .i64 y2.n]) (t := 45) (fr := (0, 0)) (by rw [← hWs]; exact heap_alloc_new W _)) (by simp [Value.oneCell']) (by omega) (by unfold maxLen; omega) (by omega) (by simp; omega) (W.heap.size + 1) (by simp) ?_; intro gg cap w5 hown3 hgrow3 hat3 hlt3; have hQ := HA.out.2.2.2.2 _ w5 gg cap ⟨x.op, y1, y2⟩ ((Below.refl _ _).alloc (Nat.le_refl _) _) hgrow3 hown3; have d5 := hQ.1.1; have df5 := hQ.1.2; have HQ := Lib.hid hQ.2; clear hQ hown3 hgrow3 hat3)
            go_roundw
            case rel => exact ⟨i + 1, by omega, by go_num, Lib.hid (by rw [Hsn.out]; exact HQ.out.1), HBW.out.trans HQ.out.2⟩
            case measure => simp [intOf]; omega
          · obtain rfl : i = N3 := by omega
            rw [show tests.take i = tests by rw [HN3.out]; exact List.take_length] at HD
            obtain ⟨M3, hM3⟩ : ∃ M, M = (Qy.ixTests M2 tests).2 := ⟨_, rfl⟩
            obtain ⟨S3, hS3⟩ : ∃ S, S = (Qy.ixTests M2 tests).1 := ⟨_, rfl⟩
            have hM3l : M3.length ≤ 8 + 3 * j + 2 * i := by
              have := Qy.ixTests_len tests M2
              rw [← hM3, ← HN3.out] at this
              omega
            rw [← hM3, ← hS3] at HD
            have HM3 := Lib.hid hM3; have HS3 := Lib.hid hS3
            have Hbel3 := Lib.hid hbel
            have hin : ∀ a ∈ M3, 0 ≤ a ∧ a < (N0 : Int) := fun a ha => by
              refine Hin.out a ?_
              rw [hM3] at ha
              rcases Qy.ixTests_mem _ _ _ ha with h | h
              · rw [HM2.out] at h
                rcases Qy.ixAtoms_mem _ _ _ h with h | h
                · rw [show M1 = (Qy.ixList [] shown).2 by rw [← HMS1.out]] at h
                  rcases Qy.ixListM_mem _ _ _ h with h | h
                  · simp at h
                  · exact List.mem_append_left _ h
                · exact List.mem_append_right _ (List.mem_append_left _ h)
              · exact List.mem_append_right _ (List.mem_append_right _ h)
            have Hin3 := Lib.hid hin
            obtain ⟨vo, vn, vs, va, vt, p1, p2, p3, -⟩ := HD.out.ex
            obtain ⟨Ao, co, rfl, hco, hLo⟩ := own_lies p3 (M3.map intC) (by rw [List.flatMap_def]) (fun c hc => by
              obtain ⟨x, _, rfl⟩ := List.mem_map.1 hc; rfl) (by rw [List.length_map]) (by omega)
            have zo := p1.cell 0
            simp at zo
            have Zo := Lib.hid zo
            obtain ⟨N4, hN4⟩ : ∃ n, n = M3.length := ⟨_, rfl⟩
            rw [← hN4] at zo hM3l Zo
            have HN4 := Lib.hid hN4
            clear hM3 hS3 hlt hbel zq3 p1 p2 p3 hco hLo hin hN4
            go_wp2_with fail
            go_loopw [94] (fun v94 wr => ∃ r : Nat, r ≤ N4 ∧ v94 = .int .i64 r ∧ Hid (PrD w.heap.size (w.heap.size + 1) (w.heap.size + 1 + 1) w.heap.size (w.heap.size + 1 + 1 + 1) qcs M3 S1 S2 S3 ((M3.take r).map (Qy.nmOf names)) wr) ∧ Hid (wr.cell? ⟨w.heap.size + 1, 0, none⟩ = some (.slice Ao N4 co)) ∧ Below w.heap.size w wr) (fun v94 _ => N4 - (intOf v94).toNat)
            case atStart => exact ⟨0, by omega, rfl, Lib.hid HD.out, Zo, Hbel3.out⟩
            case round =>
            obtain ⟨r, hr, rfl, HD, HZ, hbel⟩ := hrel
            by_cases hlt : r < N4
            · obtain ⟨n, hn⟩ : ∃ n, M3[r]? = some n := ⟨_, List.getElem?_eq_getElem (by have := HN4.out; omega)⟩
              obtain ⟨hn1, hn2⟩ := Hin3.out n (List.mem_of_getElem? hn)
              obtain ⟨z, rfl⟩ := Int.eq_ofNat_of_zero_le hn1
              obtain ⟨vo, vn, vs, va, vt, p1, p2, p3, p4, -⟩ := HD.out.ex
              obtain ⟨Ao', co', rfl, hco, hLo⟩ := own_lies p3 (M3.map intC) (by rw [List.flatMap_def]) (fun c hc => by
                obtain ⟨x, _, rfl⟩ := List.mem_map.1 hc; rfl) (by rw [List.length_map]) (by rw [← HN4.out]; omega)
              obtain ⟨bo, oo, rfl, hbo, hco2⟩ := hLo.at_ r (intC z) (by rw [List.getElem?_map, hn]; rfl)
              have e1 := p1.cell 0
              rw [HZ.out] at e1
              simp at e1
              obtain ⟨rfl, g1, g2⟩ := e1
              clear g1 g2
              have k1 := hco2 0 _ rfl
              rw [Nat.mul_one, Nat.add_zero] at k1
              obtain ⟨nm, hnm⟩ : ∃ nm, names[z]? = some nm := ⟨_, List.getElem?_eq_getElem (by have := HN0.out; omega)⟩
              obtain ⟨b0, o0, rfl, hb0, hc0⟩ := (H0.out.below hbel (Nat.le_refl _)).at_ z (strC nm) (by rw [List.getElem?_map, hnm]; rfl)
              have k2 := hc0 0 _ rfl
              rw [Nat.mul_one, Nat.add_zero] at k2
              have z0 := p2.cell 0
              simp at z0
              have Z0 := Lib.hid z0
              have hxl := p2.lt
              have HA := Lib.hid (HD.out.app0 Z0.out)
              have zf0 := HA.out.1; have zB := HA.out.2.2.1
              have Htk : Hid ((M3.take (r + 1)).map (Qy.nmOf names) = (M3.take r).map (Qy.nmOf names) ++ [nm]) := Lib.hid (by
                rw [take_snoc' hn, List.map_append]
                show _ ++ [Qy.nmOf names (z : Int)] = _
                unfold Qy.nmOf
                rw [show ((z : Int)).toNat = z from rfl, List.getD_eq_getElem?_getD, hnm]; rfl)
              obtain ⟨L, hL⟩ : ∃ L, L = (M3.take r).map (Qy.nmOf names) := ⟨_, rfl⟩
              have hLl : L.length ≤ r := by rw [hL, List.length_map, List.length_take]; omega
              rw [← hL] at HA Htk
              have Hbel := Lib.hid hbel; have hszr := hbel.size
              clear hn hn1 p1 p2 p3 p4 hco hLo hco2 hnm hc0 hL hbel
              go_wp2_with fail
              go_region_law (refine step_append_lies _ rfl _ _ _ rfl w.heap.size 9 iS _ 1 16 Tryd.underlying22 hiS hS0 hS1 hS2 rfl (by omega) vn L.length _ rfl ((HA.out.2.2.2.1.alloc _).drew) ⟨wr.heap.size, 0, none⟩ 1 1 [.string (Lx.bs nm)] rfl rfl (World.news_of_block (cs := #[.string (Lx.bs nm)]) (t := 9) (fr := (0, 0)) (heap_alloc_new wr _)) (by simp [Value.oneCell']) (by omega) (by unfold maxLen; omega) (by omega) (by simp; omega) (wr.heap.size + 1) (by simp) ?_; intro gg cap w3 hown3 hgrow3 hat3 hlt3; have hQ := HA.out.2.2.2.2 _ w3 gg cap _ (((Below.refl _ _).alloc (Nat.le_refl _) _).drew) hgrow3 hown3; have d5 := hQ.1.1; have df5 := hQ.1.2; have HQ := Lib.hid hQ.2; clear hQ hown3 hgrow3 hat3)
              all_goals (try go_wp2_with fail)
              all_goals go_roundw
              all_goals first
                | exact ⟨r + 1, by omega, by go_num, Lib.hid (by rw [Htk.out]; exact HQ.out.1), Lib.hid ((HQ.out.2.2 0).trans HZ.out), Hbel.out.trans HQ.out.2.1⟩
                | (simp [intOf]; omega)
            · obtain rfl : r = N4 := by omega
              rw [show M3.take r = M3 by rw [HN4.out]; exact List.take_length] at HD
              obtain ⟨vo, vn, vs, va, vt, -, p2, -, p4, p5, p6, p7, -⟩ := HD.out.ex
              have hR : Qy.renumber ⟨[], names, shown, atoms, tests⟩ = ⟨M3.map (Qy.nmOf names), S1, S2, S3⟩ := by
                have e : Qy.renumber ⟨[], names, shown, atoms, tests⟩ = ⟨(Qy.ixTests (Qy.ixAtoms (Qy.ixList [] shown).2 atoms).2 tests).2.map (Qy.nmOf names), (Qy.ixList [] shown).1, (Qy.ixAtoms (Qy.ixList [] shown).2 atoms).1, (Qy.ixTests (Qy.ixAtoms (Qy.ixList [] shown).2 atoms).2 tests).1⟩ := rfl
                rw [e, ← HMS1.out]
                simp only
                rw [← HM2.out, ← HS2.out, ← HM3.out, ← HS3.out]
              have hS1l : S1.length ≤ 1000 := by
                have h2 : ∀ (l m : List Int), (Qy.ixList m l).1.length = l.length := fun l => by
                  induction l with
                  | nil => intro m; rfl
                  | cons a l ih => intro m; show ((Qy.ix m a).1 :: (Qy.ixList (Qy.ix m a).2 l).1).length = _; simp [ih]
                have : S1 = (Qy.ixList [] shown).1 := by rw [← HMS1.out]
                rw [this, h2, ← HN1.out]; omega
              have hS2l : S2.length ≤ 1000 := by
                have h2 : ∀ (l : List Qy.Atom) (m : List Int), (Qy.ixAtoms m l).1.length = l.length := fun l => by
                  induction l with
                  | nil => intro m; rfl
                  | cons a l ih => intro m; show ((Qy.ixA1 m a).1 :: (Qy.ixAtoms (Qy.ixA1 m a).2 l).1).length = _; simp [ih]
                rw [HS2.out, h2, ← HN2.out]; omega
              have hS3l : S3.length ≤ 1000 := by
                have h2 : ∀ (l : List Qy.Test) (m : List Int), (Qy.ixTests m l).1.length = l.length := fun l => by
                  induction l with
                  | nil => intro m; rfl
                  | cons a l ih => intro m; show ((Qy.ixT1 m a).1 :: (Qy.ixTests (Qy.ixT1 m a).2 l).1).length = _; simp [ih]
                rw [HS3.out, h2, ← HN3.out]; omega
              obtain ⟨B0, e0, rfl, _, L0⟩ := own_lies p4 ((M3.map (Qy.nmOf names)).map strC) (by rw [List.flatMap_def]) (fun c hc => by
                obtain ⟨x, _, rfl⟩ := List.mem_map.1 hc; rfl) (by simp) (by rw [List.length_map, ← HN4.out]; omega)
              obtain ⟨B1, e1, rfl, _, L1⟩ := own_lies p5 (S1.map intC) (by rw [List.flatMap_def]) (fun c hc => by
                obtain ⟨x, _, rfl⟩ := List.mem_map.1 hc; rfl) (by simp) (by omega)
              obtain ⟨B2, e2, rfl, _, L2⟩ := own_lies p6 (S2.map atomC) (by rw [List.flatMap_def]) (fun c hc => by
                obtain ⟨x, _, rfl⟩ := List.mem_map.1 hc; rfl) (by simp) (by omega)
              obtain ⟨B3, e3, rfl, _, L3⟩ := own_lies p7 (S3.map testC) (by rw [List.flatMap_def]) (fun c hc => by
                obtain ⟨x, _, rfl⟩ := List.mem_map.1 hc; rfl) (by simp) (by omega)
              have q0 := p2.cell 0; have q1 := p2.cell 1; have q2 := p2.cell 2; have q3 := p2.cell 3
              simp at q0 q1 q2 q3
              have hQ : QAt wr wr.heap.size (.agg #[.slice B0 M3.length e0, .slice B1 S1.length e1, .slice B2 S2.length e2, .slice B3 S3.length e3]) (Qy.renumber ⟨[], names, shown, atoms, tests⟩) := by
                rw [hR]
                refine ⟨⟨B0, e0, B1, e1, B2, e2, B3, e3, by simp, L0, L1, L2, L3⟩, fun n hn => ?_⟩
                obtain ⟨a, ha, rfl⟩ := List.mem_map.1 hn
                obtain ⟨g0, g1⟩ := Hin3.out a ha
                have hlt : a.toNat < names.length := by have := HN0.out; omega
                unfold Qy.nmOf
                rw [show names.getD a.toNat [] = names[a.toNat] by simp [List.getD, List.getElem?_eq_getElem hlt]]
                exact Htx.out _ (List.getElem_mem _)
              have Hpr := Lib.hid (lPrint _ _ wr (HE.out.next hbel) hQ)
              have Hbel := Lib.hid hbel
              clear p2 p4 p5 p6 p7 hR L0 L1 L2 L3 hQ hbel hlt hS1l hS2l hS3l
              obtain ⟨l0, hl0⟩ : ∃ l, l = M3.length := ⟨_, rfl⟩
              obtain ⟨l1, hl1⟩ : ∃ l, l = S1.length := ⟨_, rfl⟩
              obtain ⟨l2, hl2⟩ : ∃ l, l = S2.length := ⟨_, rfl⟩
              obtain ⟨l3, hl3⟩ : ∃ l, l = S3.length := ⟨_, rfl⟩
              rw [← hl0] at q0 Hpr
              rw [← hl1] at q1 Hpr
              rw [← hl2] at q2 Hpr
              rw [← hl3] at q3 Hpr
              clear hl0 hl1 hl2 hl3
              go_wp2_with fail
              refine Hpr.out.mono ?_
              rintro e w5 ⟨rfl, hb5⟩
              rw [HP.out]
              have Hb5 := Lib.hid (Hbel.out.trans (hb5.mono Hbel.out.size))
              clear hb5 q0 q1 q2 q3 Hpr
              have hX3 : decide ((2 : Int) < (X.size : Int)) = true := by simp; omega
              go_wp2_with fail
              go_ret2
              exact ⟨rfl, Hb5.out⟩
end Go.Proofs.YtjonaidancomgaaDoor
