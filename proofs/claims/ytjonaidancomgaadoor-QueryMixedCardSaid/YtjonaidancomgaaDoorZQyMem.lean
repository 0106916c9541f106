/- Parts of the proof, joined into one text: QyMem, LxCard, LxOpen, QyEnv, QyKinds, QyLook, QyPar. -/
import Derived.Test.YtjonaidancomgaaDoorZLxI
import Derived.Test.YtjonaidancomgaaDoorZLxPlain
import Derived.Test.YtjonaidancomgaaDoorCards
import Derived.Test.YtjonaidancomgaaDoorTie
import Derived.Test.YtjonaidancomgaaDoorZLxA
import Derived.WalkKit
import Derived.ProofKit
import Derived.LaidMore
import Derived.OpenShut
import Derived.Below
import Derived.ChangeSame
import Derived.Stop.Joined
import Derived.Stop.LaidErr
import Derived.Lib.LaidTab
import Derived.Deep.DeepHandedRow
import Derived.Deep.DeepWitnessRowRef
import Derived.Deep.Slices
import Derived.Deep.Fields
import Derived.SliceStrings
import Derived.Test.YtjonaidancomgaaDoorZQyBack
import Derived.Maps.Own
import Derived.Maps.OwnOps
import Derived.Maps.Views
import Derived.Test.YtjonaidancomgaaDoorZLxE

namespace Go.Proofs.YtjonaidancomgaaDoor
open Go.RowKit

/-- A slice's address, below block B, from which on the elements of l lie, each of so many cells. -/
structure Lies (w : World) (B : Nat) (A : Option Addr) (sz : Nat) (l : List (List Value)) : Prop where
  at_ : ∀ k cs, l[k]? = some cs → ∃ b o, A = some ⟨b, o, none⟩ ∧ b < B ∧ ∀ j v, cs[j]? = some v → w.cell? ⟨b, o + k * sz + j, none⟩ = some v
  len : l.length ≤ 140737488351232
theorem Lies.below {w w' : World} {B B' : Nat} {A : Option Addr} {sz : Nat} {l : List (List Value)} (h : Lies w B A sz l) (hb : Below B' w w') (hB : B ≤ B') : Lies w' B A sz l :=
  ⟨fun k cs hk => by
    obtain ⟨b, o, e, hlt, hc⟩ := h.at_ k cs hk
    exact ⟨b, o, e, hlt, fun j v hj => (hb.cell (p := ⟨b, o + k * sz + j, none⟩) (show b < B' by omega)).trans (hc j v hj)⟩, h.len⟩
theorem Lies.mono {w : World} {B B' : Nat} {A : Option Addr} {sz : Nat} {l : List (List Value)} (h : Lies w B A sz l) (hB : B ≤ B') : Lies w B' A sz l :=
  ⟨fun k cs hk => by
    obtain ⟨b, o, e, hlt, hc⟩ := h.at_ k cs hk
    exact ⟨b, o, e, by omega, hc⟩, h.len⟩
theorem Lies.drewN {w : World} {B : Nat} {A : Option Addr} {sz : Nat} {l : List (List Value)} (h : Lies w B A sz l) (n : Nat) : Lies (w.drewN n) B A sz l := ⟨fun k cs hk => h.at_ k cs hk, h.len⟩
theorem Lies.nil (w : World) (B : Nat) (A : Option Addr) (sz : Nat) : Lies w B A sz [] := ⟨fun k cs h => by simp at h, by simp⟩

def strC (x : List UInt8) : List Value := [.string (Lx.bs x)]
def intC (n : Int) : List Value := [.int .i64 n]
def argC (a : Qy.Arg) : List Value := [.bool a.var, .int .i64 a.n]
def atomC (x : Qy.Atom) : List Value := .int .i64 x.kind :: (argC x.subj ++ argC x.obj ++ argC x.val ++ [.int .i64 x.term, .int .i64 x.known])
def testC (x : Qy.Test) : List Value := .int .i64 x.op :: (argC x.a ++ argC x.b)

/-- A query as a value: four slices. -/
structure QAt (w : World) (B : Nat) (v : Value) (q : Qy.Query) : Prop where
  form : ∃ A0 c0 A1 c1 A2 c2 A3 c3, v = .agg #[.slice A0 q.names.length c0, .slice A1 q.shown.length c1, .slice A2 q.atoms.length c2, .slice A3 q.tests.length c3] ∧
    Lies w B A0 1 (q.names.map strC) ∧ Lies w B A1 1 (q.shown.map intC) ∧ Lies w B A2 9 (q.atoms.map atomC) ∧ Lies w B A3 5 (q.tests.map testC)
  texts : ∀ n ∈ q.names, n.length ≤ 140737488351232

theorem lIn (n a b : Int) (w : World) : Calls Tryd.prog 13 #[.int .i64 n, .int .i64 a, .int .i64 b] w fun e w' => e = .returned (.bool (decide (a ≤ n) && decide (n ≤ b))) ∧ w = w' := by
  by_cases h : a ≤ n
  · go_enter Tryd.func13, Tryd.ntmps13
    go_wp2
    go_ret
    exact ⟨ret_bool (by simp [h]), rfl⟩
  · go_enter Tryd.func13, Tryd.ntmps13
    go_wp2
    go_ret
    exact ⟨ret_bool (by simp; omega), rfl⟩
theorem lConditions (A0 A1 A2 A3 : Option Addr) (n0 n1 n2 n3 c0 c1 c2 c3 : Nat) (w : World) (h2 : n2 ≤ 140737488351232) (h3 : n3 ≤ 140737488351232) :
    Calls Tryd.prog 14 #[.agg #[.slice A0 n0 c0, .slice A1 n1 c1, .slice A2 n2 c2, .slice A3 n3 c3]] w fun e w' => e = .returned (.int .i64 ((n2 + n3 : Nat) : Int)) ∧ Below w.heap.size w w' := by
  go_enter Tryd.func14, Tryd.ntmps14
  go_wp2
  go_ret
  exact ⟨ret_int (by omega), (Below.refl _ _).alloc (Nat.le_refl _) _⟩

/-- Few, as the reference counts (its sum may wrap). -/
def Qy.sumN (l : List (List UInt8)) : Int := l.foldl (fun n t => wrap64 (n + (t.length : Int))) 0
def Qy.few (q : Qy.Query) : Bool := decide ((q.names.length : Int) ≤ 20) && decide (Qy.sumN q.names ≤ 1000) && decide ((q.shown.length : Int) ≤ 20) && decide ((q.atoms.length : Int) ≤ 20) && decide ((q.tests.length : Int) ≤ 20)
theorem Qy.sumN_snoc (l : List (List UInt8)) (k : Nat) (t : List UInt8) (h : l[k]? = some t) : Qy.sumN (l.take (k + 1)) = wrap64 (Qy.sumN (l.take k) + (t.length : Int)) := by
  unfold Qy.sumN
  rw [List.take_add_one, h]
  simp [List.foldl_append]

set_option maxHeartbeats 1000000 in
theorem rQFew (v : Value) (q : Qy.Query) (w : World) (h : QAt w w.heap.size v q) : Calls Tryd.prog 5 #[v] w fun e w' => e = .returned (.bool (Qy.few q)) ∧ Below w.heap.size w w' := by
  obtain ⟨⟨A0, c0, A1, c1, A2, c2, A3, c3, rfl, h0, h1, h2, h3⟩, htx⟩ := h
  have z0 := h0.len; have z1 := h1.len; have z2 := h2.len; have z3 := h3.len
  rw [List.length_map] at z0 z1 z2 z3
  clear h1 h2 h3
  obtain ⟨n0, hn0⟩ : ∃ n0, n0 = q.names.length := ⟨_, rfl⟩
  obtain ⟨n1, hn1⟩ : ∃ n1, n1 = q.shown.length := ⟨_, rfl⟩
  obtain ⟨n2, hn2⟩ : ∃ n2, n2 = q.atoms.length := ⟨_, rfl⟩
  obtain ⟨n3, hn3⟩ : ∃ n3, n3 = q.tests.length := ⟨_, rfl⟩
  have hfew : Qy.few q = (decide ((n0 : Int) ≤ 20) && decide (Qy.sumN q.names ≤ 1000) && decide ((n1 : Int) ≤ 20) && decide ((n2 : Int) ≤ 20) && decide ((n3 : Int) ≤ 20)) := by
    rw [hn0, hn1, hn2, hn3]; rfl
  rw [← hn0] at z0 ⊢
  rw [← hn1] at z1 ⊢
  rw [← hn2] at z2 ⊢
  rw [← hn3] at z3 ⊢
  have Hn0 := Lib.hid hn0; have Hf := Lib.hid hfew
  clear hn0 hn1 hn2 hn3 hfew
  go_enter Tryd.func5, Tryd.ntmps5
  go_wp2
  go_loop [3, 4] (fun n i => ∃ k : Nat, k ≤ n0 ∧ i = .int .i64 k ∧ n = .int .i64 (Qy.sumN (q.names.take k))) (fun _ i => n0 - (intOf i).toNat)
  case atStart => exact ⟨0, by omega, rfl, rfl⟩
  case round =>
    obtain ⟨k, hk, rfl, rfl⟩ := hrel
    by_cases hlt : k < n0
    · obtain ⟨t, ht⟩ : ∃ t, q.names[k]? = some t := ⟨_, List.getElem?_eq_getElem (by have := Hn0.out; omega)⟩
      have htl := htx t (List.mem_of_getElem? ht)
      obtain ⟨b, o, rfl, hb, hc⟩ := h0.at_ k (strC t) (by rw [List.getElem?_map, ht]; rfl)
      have hc1 := hc 0 _ rfl
      rw [Nat.mul_one, Nat.add_zero] at hc1
      have hc2 := (cell_alloc_old w (.cells #[.slice (some ⟨b, o, none⟩) n0 c0, .slice A1 n1 c1, .slice A2 n2 c2, .slice A3 n3 c3] 27) b (o + k) hb).trans hc1
      have hls := Lx.bs_size t
      have Hs := Lib.hid (Qy.sumN_snoc q.names k t ht)
      clear hc hc1 ht h0
      obtain ⟨F, hF⟩ : ∃ F, F = Qy.sumN (q.names.take k) := ⟨_, rfl⟩
      rw [← hF] at Hs ⊢
      clear hF
      go_wp2
      go_round
      case rel => exact ⟨k + 1, by omega, by go_num, by rw [Hs.out]⟩
      case measure => simp [intOf]; omega
    · obtain rfl : k = n0 := by omega
      have e : q.names.take k = q.names := List.take_of_length_le (by rw [← Hn0.out]; exact Nat.le_refl _)
      rw [e]
      obtain ⟨F, hF⟩ : ∃ F, F = Qy.sumN q.names := ⟨_, rfl⟩
      rw [← hF] at Hf ⊢
      clear hF
      by_cases e0 : (k : Int) ≤ 20
      · by_cases e1 : F ≤ 1000
        · by_cases e2 : (n1 : Int) ≤ 20
          · by_cases e3 : (n2 : Int) ≤ 20
            all_goals
              go_wp2
              go_ret
              exact ⟨ret_bool (by rw [Hf.out]; simp [*] <;> omega), (Below.refl _ _).alloc (Nat.le_refl _) _⟩
          · go_wp2
            go_ret
            exact ⟨ret_bool (by rw [Hf.out]; simp [*] <;> omega), (Below.refl _ _).alloc (Nat.le_refl _) _⟩
        · go_wp2
          go_ret
          exact ⟨ret_bool (by rw [Hf.out]; simp [*] <;> omega), (Below.refl _ _).alloc (Nat.le_refl _) _⟩
      · go_wp2
        go_ret
        exact ⟨ret_bool (by rw [Hf.out]; simp [*] <;> omega), (Below.refl _ _).alloc (Nat.le_refl _) _⟩
end Go.Proofs.YtjonaidancomgaaDoor

namespace Go.Proofs.YtjonaidancomgaaDoor
open Go.RowKit Go.WideShapes Go.ChangeShapes
set_option maxRecDepth 100000

section
variable {H : Type} {enc : TypeId × Value → H} {P : Program}
theorem post_of_below {f : Func} {s : ChangeSpec} {apart fresh handsOn again : Bool} {W W' : World} {args : Array Value} {v : Value} {ds gs : List (DataW H)} {before pa pv : List MemPlace}
    (hW : DataW.Whole enc P f.params.toList s.vars apart W args.toList ds gs before)
    (hres : ∀ (b : Nat) (sp : Nat → Bool) (hd : Bool), DataW.TrodAll enc P W' b sp hd f.resultTypes.toList (v.resultList f.resultTypes.size) (s.fn H (ds ++ gs)).results [])
    (hargs : ∀ sp : Nat → Bool, (∀ p ∈ before, sp p.block = true) → DataW.TrodAll enc P W' 0 sp true f.params.toList args.toList (s.fn H (ds ++ gs)).args pa)
    (hvars : ∀ sp : Nat → Bool, (∀ p ∈ before, sp p.block = true) → DataW.TrodVars enc P W' sp s.vars (s.fn H (ds ++ gs)).vars pv)
    (hps : before = pa ++ pv) (hb : Below W.heap.size W W')
    (hok : ∀ (j : Nat) (t : TypeId) (r : Value), f.resultTypes[j]? = some t → (v.resultList f.resultTypes.size)[j]? = some r → Value.okWide P W' .any 0 t r) :
    s.post enc P f apart fresh handsOn again W args v W' := by
  have hlt : ∀ p ∈ before, p.block < W.heap.size := fun p hp => hW.lt p hp
  have hold : ∀ p ∈ before, (fun b => decide (b < W.heap.size)) p.block = true := fun p hp => by simpa using hlt p hp
  refine ⟨ds, gs, before, [], pa, pv, hW, hres _ _ _, hargs _ hold, hvars _ hold, World.keptBut_mono (fun p hp => ⟨hp, ?_⟩) (hb.frame (· ∈ before)), fun _ => ?_⟩
  · rw [hps, List.mem_append] at hp
    exact Or.inr hp
  · obtain ⟨_, _, _, _, _, hz, hn⟩ := hW
    refine ⟨hok, _, _, ([] ++ pa) ++ pv, ⟨[] ++ pa, pv, trodAll_append (hargs _ (fun _ _ => rfl)) (hres _ _ _), hvars _ (fun _ _ => rfl), rfl, ?_, ?_⟩, ?_⟩
    · intro b off hp
      have hin : MemPlace.cell b off ∈ before := by rw [hps]; simpa using hp
      rw [hb.frozen (hlt _ hin)]
      exact hz b off hin
    · intro ha
      have := hn ha
      rw [hps] at this
      simpa using this
    · intro p hp _
      rw [hps]
      simpa using hp
end

theorem own : ownKnob Tryd.prog.godebug = none := by kernel_rfl
theorem starErr : "*" ++ "errors.errorString" = "*errors.errorString" := by decide
theorem rowErr (u : TypeId) (h : Tryd.prog.typeName? 3 u = some "*errors.errorString") : u = 159 :=
  typeName_ptr_named (nm := "errors.errorString") (by rw [starErr]; kernel_rfl) (by kernel_rfl) (by decide) u (by rw [starErr]; exact h)

/-- WHAT THE LIST GIVES THE WALKS. -/
theorem env_of_laid {x y z : DataW Unit} {text : List UInt8} {r : List (String × DataW Unit)} {W : World} (hz : z = Lib.tabData .u64 Lib.pow10Tab)
    (h : laidMet Tryd.prog (("math/bits.deBruijn32tab", x) :: ("math/bits.deBruijn64tab", y) :: ("internal/strconv.uint64pow10", z) :: ("strconv.ErrRange", .iface "*errors.errorString" (.ptr (.agg [.lit (.string text)]))) :: r) W) : Env W := by
  subst hz
  have h1 := h.tail
  have h2 := h1.tail
  have h3 := h2.tail
  refine ⟨?_, ?_, ?_⟩
  · have ht := Lib.tabIs_of_head (P := Tryd.prog) (g := 4) (t := 153) (e := 138) (n := 20) (by kernel_rfl) (by kernel_rfl) Tryd.underlying153 Tryd.underlying138 (by kernel_rfl) (by kernel_rfl) h2
    unfold Lib.TabIs World.var? at ht
    rw [show Tryd.prog.globalNamed "internal/strconv.uint64pow10" = some 4 by kernel_rfl] at ht
    simp only [Option.bind_some] at ht
    split at ht
    · rename_i cs t fz hh
      cases ht
      exact ⟨t, fz, hh⟩
    · cases ht
  · obtain ⟨a, s, hv, _⟩ := laid_sentinel h3 (g := 3) (ti := 118) (by kernel_rfl) (by kernel_rfl) Tryd.underlying118 rowErr Tryd.underlying159 Tryd.underlying161 rfl rfl Tryd.underlying9 (by kernel_rfl) (by kernel_rfl)
    have := World.var?_cell (show Tryd.prog.globalNamed "strconv.ErrRange" = some 3 by kernel_rfl) hv 0
    exact ⟨_, _, by simpa using this⟩
  · obtain ⟨ps, ⟨g, t, cs, fuel, p, q, hg, _, hv, _⟩, _⟩ := h1
    obtain rfl := Option.some.inj ((show Tryd.prog.globalNamed "math/bits.deBruijn64tab" = some 6 by kernel_rfl).symm.trans hg)
    unfold World.var? at hv
    rw [hg] at hv
    simp only [Option.bind_some] at hv
    rcases Nat.lt_or_ge 6 W.heap.size with hh | hh
    · exact hh
    · rw [Array.getElem?_eq_none hh] at hv
      cases hv

/-- THE WITNESS's WORLD: the heap that the door's run leaves. -/
noncomputable def wit (os : Os) (args : Array Value) : World := (World.doorLaid Tryd.prog 67 os).forCall (fun _ _ => 0) ⟨#[], args, []⟩
theorem wit_vars (os : Os) (args : Array Value) : (wit os args).variablesRefB Tryd.prog = true := by kernel_rfl
theorem wit_rest (os : Os) (args : Array Value) : ((wit os args).heap.toList.drop Tryd.prog.globals.size).take ((begin Tryd.prog (fun _ _ => 0) default).world.heap.size - Tryd.prog.globals.size) =
      (begin Tryd.prog (fun _ _ => 0) default).world.heap.toList.drop Tryd.prog.globals.size := by kernel_rfl
end Go.Proofs.YtjonaidancomgaaDoor

namespace Go.Proofs.YtjonaidancomgaaDoor
open Go.RowKit Go.WideShapes Go.ChangeShapes Go.Deep


section
variable {H : Type} {enc : TypeId × Value → H} {P : Program} {w : World} {base : Nat} {spare : Nat → Bool} {held : Bool}
theorem open_slice_fields {t e : TypeId} {fs : Array Field} {fuel : Nat} {cs : List Value} {x : DataW H × List MemPlace} (ht : P.underlying t = some (.slice e)) (he : P.underlying e = some (.struct fs))
    (hone : oneCellFields P fs = true) (hC : P.cellsOf e = fs.size) (h : DataW.trod enc P w base spare held fuel t cs = some x) :
    (cs = [.slice none 0 0] ∧ x = (.nil, [])) ∨
    ∃ (a : Addr) (len cap m : Nat) (D : Nat → DataW H) (Pl : Nat → List MemPlace), cs = [.slice (some a) len cap] ∧ base ≤ a.block ∧ len ≤ cap ∧ cap ≤ maxLen ∧ m = (if spare a.block then cap else len) ∧
      x = (.slice ((List.range len).map D) ((List.range (m - len)).map fun j => D (len + j)), MemPlace.row a (m * fs.size) ++ (List.range m).flatMap Pl) ∧
      ∀ i, i < m → ∃ (ys : List (DataW H × List MemPlace)) (n : Nat), D i = .agg (ys.map (·.1)) ∧ Pl i = ys.flatMap (·.2) ∧ ys.length = fs.size ∧
        ∀ (j : Nat) (f : Field), fs[j]? = some f → ∃ (v : Value) (y : DataW H × List MemPlace), w.cell? (a.add (i * fs.size + j)) = some v ∧ ys[j]? = some y ∧ DataW.trod enc P w base spare held n f.type [v] = some y := by
  rcases open_slice ht h with h0 | ⟨a, len, cap, m, n, D, Pl, hcs, hb, hl, hm, hmm, hx, hi⟩
  · exact .inl h0
  · refine .inr ⟨a, len, cap, m, D, Pl, hcs, hb, hl, hm, hmm, by rw [hC] at hx; exact hx, fun i him => ?_⟩
    obtain ⟨cs', hc, ht'⟩ := hi i him
    rw [hC] at hc
    obtain ⟨ys, n', hn', hy, hlen, hyl, hf⟩ := DataW.trod_struct he ht'
    obtain ⟨_, hcl, hat⟩ := World.cells?_some hc
    simp only [Prod.mk.injEq] at hy
    refine ⟨ys, n', hy.1, hy.2, hyl, fun j f hj => ?_⟩
    obtain ⟨ho, hk⟩ := hone_of hone j f hj
    have hjl : j < fs.size := (Array.getElem?_eq_some_iff.1 hj).1
    have hcell := hat j hjl
    have hv : cs'[j]? = some (cs'[j]'(by omega)) := List.getElem?_eq_getElem (by omega)
    have h1 := hf j f hj
    rw [ho, hk] at h1
    have hone' : (cs'.drop j).take 1 = [cs'[j]'(by omega)] := by
      rw [List.drop_eq_getElem_cons (by omega)]
      rfl
    rw [hone'] at h1
    have hys : ys[j]? = some (ys[j]'(by omega)) := List.getElem?_eq_getElem (by omega)
    refine ⟨_, _, ?_, hys, h1.trans hys⟩
    rw [← Go.Deep.add_add, hcell, hv]
end

theorem add_none (b o j : Nat) : (⟨b, o, none⟩ : Addr).add j = ⟨b, o + j, none⟩ := by unfold Addr.add; split <;> simp_all
theorem cell_spot {w : World} {a : Addr} {v : Value} (h : w.cell? a = some v) : a.spot = none := by
  unfold World.cell? at h
  split at h
  · split at h
    · cases h
    · rename_i h2; simpa using h2
  · cases h

section
variable {H : Type} {enc : TypeId × Value → H}
theorem weights_tok {x y n p : DataW H} {s : List UInt8} (hx : x = .lit (.string s)) (rest : List (DataW H)) (i : Nat) (hi : rest[i]? = some (.agg [y, x, n, p])) {B : Nat}
    (h : ∀ k ∈ DataW.weightsAll Tryd.prog 110 rest, k ≤ B) : s.length ≤ B := by
  subst hx
  induction rest generalizing i with
  | nil => simp at hi
  | cons d r ih =>
    simp only [DataW.weightsAll, List.mem_append] at h
    cases i with
    | zero =>
      simp only [List.getElem?_cons_zero, Option.some.injEq] at hi
      subst hi
      refine h _ (Or.inl ?_)
      unfold DataW.weights
      rw [Tryd.underlying110]
      simp [DataW.weightsEach, DataW.weights]
    | succ i => exact ih i (fun k hk => h k (Or.inr hk)) (by simpa using hi)

set_option maxRecDepth 100000 in
theorem open_toks {W : World} {b0 : Nat} {v : Value} {d : DataW H} {ps : List MemPlace} (hval : Value.okWide Tryd.prog W .any b0 66 v) (hd : DataW.Trod enc Tryd.prog W 0 (fun _ => true) true 66 v d ps)
    (hlt : ∀ x ∈ ps, x.block < W.heap.size) (hw : ∀ k ∈ d.weights Tryd.prog 66, k ≤ reachBytes) : ∃ A l c, v = .slice A l.length c ∧ Toks W W.heap.size A l := by
  obtain ⟨A, n, c, rfl⟩ := okWide_slice Tryd.underlying66 hval
  obtain ⟨fuel, hf⟩ := hd
  have hcs : (Value.slice A n c).cells.toList = [.slice A n c] := by simp [Value.cells]
  rw [hcs] at hf
  rcases open_slice_fields Tryd.underlying66 Tryd.underlying110 (by kernel_rfl) (by kernel_rfl) hf with ⟨h1, _⟩ | ⟨a, len, cap, m, D, Pl, h1, hb, hl, hm, hmm, hx, hfld⟩
  · injection h1 with h1
    injection h1 with e1 e2 e3
    subst e1; subst e2; subst e3
    exact ⟨none, [], 0, rfl, Toks.nil _ _ _⟩
  · injection h1 with h1
    injection h1 with e1 e2 e3
    subst e1; subst e2; subst e3
    rw [if_pos rfl] at hmm
    subst hmm
    simp only [Prod.mk.injEq] at hx
    obtain ⟨rfl, rfl⟩ := hx
    have hspot : 0 < m → a.spot = none := by
      intro hi
      obtain ⟨ys, k, _, _, _, hj⟩ := hfld 0 hi
      obtain ⟨w0, y0, c0, _⟩ := hj 0 _ rfl
      have e : a.add (0 * 4 + 0) = a := rfl
      exact cell_spot (e ▸ c0)
    have htok : ∀ i, i < m → ∃ t : Lx.Tok, D i = .agg [.lit (.int .i64 t.kind), .lit (.string t.text), .lit (.int .i64 t.n), .lit (.int .i64 t.pos)] ∧ TokAt W a.block (a.off + i * 4) t ∧ a.spot = none := by
      intro i hi
      obtain ⟨ys, k, hD, _, hylen, hj⟩ := hfld i hi
      obtain ⟨w0, y0, c0, g0, t0⟩ := hj 0 _ rfl
      obtain ⟨w1, y1, c1, g1, t1⟩ := hj 1 _ rfl
      obtain ⟨w2, y2, c2, g2, t2⟩ := hj 2 _ rfl
      obtain ⟨w3, y3, c3, g3, t3⟩ := hj 3 _ rfl
      obtain ⟨k0, q0, r0, _⟩ := DataW.trod_int Tryd.underlying3 t0
      obtain ⟨s1, q1, r1, _⟩ := DataW.trod_string Tryd.underlying9 t1
      obtain ⟨k2, q2, r2, _⟩ := DataW.trod_int Tryd.underlying3 t2
      obtain ⟨k3, q3, r3, _⟩ := DataW.trod_int Tryd.underlying3 t3
      injection q0 with q0; injection q1 with q1; injection q2 with q2; injection q3 with q3
      subst q0; subst q1; subst q2; subst q3; subst r0; subst r1; subst r2; subst r3
      have hys : ys = [(.lit (.int .i64 k0), []), (.lit (.string s1.data.toList), []), (.lit (.int .i64 k2), []), (.lit (.int .i64 k3), [])] := by
        match ys, hylen, g0, g1, g2, g3 with
        | [_, _, _, _], _, g0, g1, g2, g3 =>
          simp only [List.getElem?_cons_zero, List.getElem?_cons_succ, Option.some.injEq] at g0 g1 g2 g3
          rw [g0, g1, g2, g3]
      have hsp : a.spot = none := hspot (by omega)
      obtain ⟨ab, ao, asp⟩ := a
      simp only at hsp
      subst hsp
      rw [add_none] at c0 c1 c2 c3
      refine ⟨⟨k0, s1.data.toList, k2, k3⟩, by rw [hD, hys]; rfl, ⟨c0, ?_, c2, c3⟩, rfl⟩
      rw [Lx.bs_of]
      exact c1
    have hmb : m * 40 ≤ reachBytes := by
      unfold DataW.weights at hw
      rw [Tryd.underlying66] at hw
      have := hw _ (List.mem_cons_self ..)
      rw [show Tryd.prog.bytesOf 110 = 40 by kernel_rfl] at this
      simp only [List.length_map, List.length_range] at this
      have e : n + (m - n) = m := by omega
      rwa [e] at this
    have hws : ∀ k ∈ DataW.weightsAll Tryd.prog 110 ((List.range n).map D), k ≤ reachBytes := by
      intro k hk
      unfold DataW.weights at hw
      rw [Tryd.underlying66] at hw
      exact hw k (List.mem_cons_of_mem _ (List.mem_append_left _ hk))
    have hch : ∀ i : Nat, ∃ t : Lx.Tok, i < m → D i = .agg [.lit (.int .i64 t.kind), .lit (.string t.text), .lit (.int .i64 t.n), .lit (.int .i64 t.pos)] ∧ TokAt W a.block (a.off + i * 4) t ∧ a.spot = none := by
      intro i
      by_cases hi : i < m
      · obtain ⟨t, ht⟩ := htok i hi
        exact ⟨t, fun _ => ht⟩
      · exact ⟨⟨0, [], 0, 0⟩, fun h => absurd h hi⟩
    obtain ⟨T, hT⟩ := Classical.axiomOfChoice hch
    have hlen : ((List.range n).map T).length = n := by simp
    refine ⟨some a, (List.range n).map T, m, by rw [hlen], ⟨fun k t ht => ?_, by rw [hlen]; unfold reachBytes at hmb; omega, fun t ht => ?_⟩⟩
    · have hk : k < n := by
        have := (List.getElem?_eq_some_iff.1 ht).1
        rwa [hlen] at this
      have e : t = T k := by
        rw [List.getElem?_map, List.getElem?_range hk] at ht
        simpa using ht.symm
      subst e
      obtain ⟨_, h2, h3⟩ := hT k (by omega)
      have hab : a.block < W.heap.size := by
        have hc := h2.kind
        rcases Nat.lt_or_ge a.block W.heap.size with h | h
        · exact h
        · unfold World.cell? at hc
          simp only [Array.getElem?_eq_none h] at hc
          cases hc
      obtain ⟨ab, ao, asp⟩ := a
      simp only at h3
      subst h3
      exact ⟨ab, ao, rfl, hab, h2⟩
    · obtain ⟨i, hi, rfl⟩ := List.mem_map.1 ht
      have hi' : i < n := List.mem_range.1 hi
      obtain ⟨h1, _, _⟩ := hT i (by omega)
      have := weights_tok rfl _ i (by rw [List.getElem?_map, List.getElem?_range hi']; simp [h1]; exact ⟨rfl, rfl, rfl, rfl⟩) hws
      unfold reachBytes at this
      exact this

/-- A slice's address, below block B, from which on n bytes lie. -/
structure Byts (w : World) (B : Nat) (A : Option Addr) (n : Nat) : Prop where
  at_ : ∀ k, k < n → ∃ b o z, A = some ⟨b, o, none⟩ ∧ b < B ∧ w.cell? ⟨b, o + k, none⟩ = some (.int .u8 (z : Nat)) ∧ z < 256
  len : n ≤ 140737488351232
set_option maxRecDepth 100000 in
theorem open_bytes {W : World} {b0 : Nat} {v : Value} {d : DataW H} {ps : List MemPlace} (hval : Value.okWide Tryd.prog W .any b0 28 v) (hd : DataW.Trod enc Tryd.prog W 0 (fun _ => true) true 28 v d ps)
    (hlt : ∀ x ∈ ps, x.block < W.heap.size) (hw : ∀ k ∈ d.weights Tryd.prog 28, k ≤ reachBytes) : ∃ A n c, v = .slice A n c ∧ Byts W W.heap.size A n := by
  obtain ⟨A, n, c, rfl⟩ := okWide_slice Tryd.underlying28 hval
  obtain ⟨fuel, hf⟩ := hd
  have hcs : (Value.slice A n c).cells.toList = [.slice A n c] := by simp [Value.cells]
  rw [hcs] at hf
  rcases open_ints Tryd.underlying28 Tryd.underlying5 (by kernel_rfl) hf with ⟨h1, _⟩ | ⟨a, len, cap, zs, h1, hb, hl, hm, hz, hx, hcell, hwf⟩
  · injection h1 with h1
    injection h1 with e1 e2 e3
    subst e1; subst e2; subst e3
    exact ⟨none, 0, 0, rfl, ⟨fun k hk => absurd hk (by omega), by omega⟩⟩
  · injection h1 with h1
    injection h1 with e1 e2 e3
    subst e1; subst e2; subst e3
    rw [if_pos rfl] at hz
    simp only [Prod.mk.injEq] at hx
    obtain ⟨rfl, rfl⟩ := hx
    have hnb : n ≤ reachBytes := by
      unfold DataW.weights at hw
      rw [Tryd.underlying28] at hw
      have := hw _ (List.mem_cons_self ..)
      rw [show Tryd.prog.bytesOf 5 = 1 by kernel_rfl] at this
      simp only [lits, List.length_map, List.length_take, List.length_drop] at this
      omega
    refine ⟨some a, n, c, rfl, ⟨fun k hk => ?_, by unfold reachBytes at hnb; exact hnb⟩⟩
    have h0 := hcell 0 (by omega)
    have hsp : a.spot = none := cell_spot (show W.cell? a = _ from h0)
    obtain ⟨ab, ao, asp⟩ := a
    simp only at hsp
    subst hsp
    have hk1 := hcell k (by omega)
    rw [add_none] at hk1
    have hk2 := hwf (zs.getD k 0) (by rw [List.getD_eq_getElem?_getD, List.getElem?_eq_getElem (by omega)]; exact List.getElem_mem _)
    have hab : ab < W.heap.size := by
      rcases Nat.lt_or_ge ab W.heap.size with h | h
      · exact h
      · have h0' : W.cell? ⟨ab, ao, none⟩ = some (.int .u8 (zs.getD 0 0)) := h0
        unfold World.cell? at h0'
        simp only [Array.getElem?_eq_none h] at h0'
        cases h0'
    have hz0 : 0 ≤ zs.getD k 0 ∧ zs.getD k 0 < 256 := by
      have hk3 : (decide (IntKind.u8.min ≤ zs.getD k 0) && decide (zs.getD k 0 ≤ IntKind.u8.max)) = true := hk2
      rw [Bool.and_eq_true, decide_eq_true_eq, decide_eq_true_eq] at hk3
      have e1 : IntKind.u8.min = 0 := rfl
      have e2 : IntKind.u8.max = 255 := rfl
      omega
    obtain ⟨z, hz⟩ := Int.eq_ofNat_of_zero_le hz0.1
    exact ⟨ab, ao, z, rfl, hab, by rw [← hz]; exact hk1, by omega⟩
end
theorem Byts.below {w w' : World} {B B' : Nat} {A : Option Addr} {n : Nat} (h : Byts w B A n) (hb : Below B' w w') (hB : B ≤ B') : Byts w' B A n :=
  ⟨fun k hk => by
    obtain ⟨b, o, z, e, hlt, hc, hz⟩ := h.at_ k hk
    exact ⟨b, o, z, e, hlt, (hb.cell (p := ⟨b, o + k, none⟩) (show b < B' by omega)).trans hc, hz⟩, h.len⟩
end Go.Proofs.YtjonaidancomgaaDoor

namespace Go.Proofs.YtjonaidancomgaaDoor
open Go.RowKit Go.WideShapes Go.ChangeShapes

structure EnvQ (w : World) : Prop where
  env : Env w
  words : ∃ b o c, w.cell? ⟨0, 0, none⟩ = some (.slice (some ⟨b, o, none⟩) 12 c) ∧ b < w.heap.size ∧ ∀ i x, Qy.kindWords[i]? = some x → w.cell? ⟨b, o + i, none⟩ = some (.string (Lx.bs x))
theorem EnvQ.next {w w' : World} (h : EnvQ w) (hb : Below w.heap.size w w') : EnvQ w' := by
  obtain ⟨he, b, o, c, h1, h2, h3⟩ := h
  have hs := he.size
  exact ⟨he.next hb, b, o, c, (hb.cell (p := ⟨0, 0, none⟩) (show 0 < w.heap.size by omega)).trans h1, Nat.lt_of_lt_of_le h2 hb.size, fun i x hx => (hb.cell (p := ⟨b, o + i, none⟩) h2).trans (h3 i x hx)⟩

set_option maxRecDepth 100000 in
theorem words_of_laid {d : DataW Unit} {r : List (String × DataW Unit)} {W : World} (hd0 : d = .slice (Qy.kindWords.map fun x => .lit (.string x)) [])
    (h : laidMet Tryd.prog (("sizar/query.kindWords", d) :: r) W) (he : Env W) : EnvQ W := by
  refine ⟨he, ?_⟩
  obtain ⟨ps, ⟨g, t, cs, fuel, p, q, hg, ht, hv, hd, _⟩, _⟩ := h
  obtain rfl := Option.some.inj ((show Tryd.prog.globalNamed "sizar/query.kindWords" = some 0 by kernel_rfl).symm.trans hg)
  obtain rfl := Option.some.inj ((show (Tryd.prog.globals[0]?).map (·.type) = some 22 by kernel_rfl).symm.trans ht)
  subst hd0
  rcases open_strings Tryd.underlying22 Tryd.underlying9 (by kernel_rfl) hd with ⟨_, hx⟩ | ⟨a, len, cap, ss, hcs, _, hl, hm, hz, hx, hc, _⟩
  · cases hx
  · simp only [Prod.mk.injEq, DataW.slice.injEq] at hx
    obtain ⟨⟨hx1, hx2⟩, _⟩ := hx
    have hss : ss.map (·.data.toList) = Qy.kindWords := by
      have hlen : ss.length = (ss.take len).length + (ss.drop len).length := by rw [← List.length_append, List.take_append_drop]
      have h0 : ss.drop len = [] := by
        unfold strs at hx2
        exact List.map_eq_nil_iff.1 hx2.symm
      have h1 : ss.take len = ss := by
        have := List.take_append_drop len ss
        rw [h0, List.append_nil] at this
        exact this
      rw [h1] at hx1
      unfold strs at hx1
      have h2 : (Qy.kindWords.map fun x => (DataW.lit (.string x) : DataW Unit)) = (ss.map (·.data.toList)).map fun x => DataW.lit (.string x) := by
        rw [hx1, List.map_map]; rfl
      have hinj : ∀ (l l' : List (List UInt8)), (l.map fun x => (DataW.lit (.string x) : DataW Unit)) = l'.map (fun x => DataW.lit (.string x)) → l = l' := by
        intro l
        induction l with
        | nil => intro l' h; cases l' with | nil => rfl | cons a b => simp at h
        | cons a b ih =>
          intro l' h
          cases l' with
          | nil => simp at h
          | cons a' b' =>
            simp only [List.map_cons, List.cons.injEq, DataW.lit.injEq, Lit.string.injEq] at h
            rw [h.1, ih b' h.2]
      exact (hinj _ _ h2).symm
    have hlen12 : ss.length = 12 := by
      have := congrArg List.length hss
      rw [List.length_map] at this
      rw [this]; rfl
    rw [if_pos rfl] at hz
    have hx2' : ss.drop len = [] := by
      unfold strs at hx2
      exact List.map_eq_nil_iff.1 hx2.symm
    have hlen : len = 12 := by
      have := congrArg List.length hx2'
      rw [List.length_drop] at this
      simp only [List.length_nil] at this
      omega
    have h0 := hc 0 (by omega)
    have hsp : a.spot = none := cell_spot (show W.cell? a = _ from h0)
    obtain ⟨ab, ao, asp⟩ := a
    simp only at hsp
    subst hsp
    have hcell : W.cell? ⟨0, 0, none⟩ = some (.slice (some ⟨ab, ao, none⟩) 12 cap) := by
      have := World.var?_cell hg hv 0
      rw [Array.eq_one_of_toList hcs, hlen] at this
      simpa using this
    have hab : ab < W.heap.size := by
      rcases Nat.lt_or_ge ab W.heap.size with h | h
      · exact h
      · have h0' : W.cell? ⟨ab, ao, none⟩ = some (.string (ss.getD 0 ByteArray.empty)) := h0
        unfold World.cell? at h0'
        simp only [Array.getElem?_eq_none h] at h0'
        cases h0'
    refine ⟨ab, ao, cap, hcell, hab, fun i x hx => ?_⟩
    have hi : i < ss.length := by
      have := (List.getElem?_eq_some_iff.1 hx).1
      rw [hlen12]; exact this
    have h1 := hc i hi
    rw [add_none] at h1
    rw [h1]
    rw [← hss, List.getElem?_map, List.getElem?_eq_getElem hi] at hx
    simp only [Option.map_some, Option.some.injEq] at hx
    have h2 : ss.getD i ByteArray.empty = ss[i] := by simp [List.getD, List.getElem?_eq_getElem hi]
    rw [h2, ← hx, Lx.bs_of]
end Go.Proofs.YtjonaidancomgaaDoor

namespace Go.Proofs.YtjonaidancomgaaDoor
open Go.RowKit Go.Maps Go.WideMaps

def Qy.kindD : Nat → DataW Unit
  | 0 => .map []
  | k + 1 => (Qy.kindD k).put (.string (Qy.kindWords.getD k [])) (.lit (.int .i64 (k + 1 : Nat)))
theorem keyLaw : Keyed Tryd.prog 9 := string_keyed Tryd.underlying9
/-- Block b is the map of the kinds. -/
def KindsAt (w : World) (b : Nat) : Prop := w.ownsMap Tryd.prog 9 (plainElem Tryd.prog 3) b 12 (Qy.kindD 12)

set_option maxRecDepth 20000 in
set_option maxHeartbeats 1000000 in
theorem lKinds (w : World) (he : EnvQ w) : Calls Tryd.prog 15 #[] w fun e w' => ∃ b, e = .returned (.map (some b)) ∧ w.heap.size ≤ b ∧ KindsAt w' b ∧ Below w.heap.size w w' := by
  obtain ⟨he0, b, o, c, h1, h2, h3⟩ := he
  have hsz := he0.size
  have hmm := @run_makeMap Tryd.prog
  have hg1 := (World.cell?_alloc_lt w (.map #[] 0) ⟨0, 0, none⟩ (show 0 < w.heap.size by omega)).trans h1
  have H3 := Lib.hid h3
  clear h3
  go_enter Tryd.func15, Tryd.ntmps15
  go_wp2
  clear hmm
  go_loopw [7] (fun v7 wr => ∃ k : Nat, k ≤ 12 ∧ v7 = .int .i64 k ∧ wr.ownsMap Tryd.prog 9 (plainElem Tryd.prog 3) w.heap.size k (Qy.kindD k) ∧ Below w.heap.size w wr) (fun v7 _ => 12 - (intOf v7).toNat)
  case atStart => exact ⟨0, by omega, rfl, World.ownsMap_made _ _ _ _, (Below.refl _ _).alloc (Nat.le_refl _) _⟩
  case round =>
    obtain ⟨k, hk, rfl, hown, hbel⟩ := hrel
    by_cases hlt : k < 12
    · obtain ⟨x, hx⟩ : ∃ x, Qy.kindWords[k]? = some x := ⟨_, List.getElem?_eq_getElem (show k < Qy.kindWords.length from hlt)⟩
      have hcell := (hbel.cell (p := ⟨b, o + k, none⟩) h2).trans (H3.out k x hx)
      have hgd : Qy.kindWords.getD k [] = x := by rw [List.getD_eq_getElem?_getD, hx]; rfl
      have hxl : (Lx.bs x).size ≤ maxLen := by
        have hmem := List.mem_of_getElem? hx
        have hall : ∀ y ∈ Qy.kindWords, y.length ≤ 9 := by decide
        have := hall x hmem
        rw [Lx.bs_size]
        unfold maxLen
        omega
      have hkey : keyOf Tryd.prog 9 (.string (Lx.bs x)) = some (.string x) := by
        have := keyOf_string_mk (s := Lx.bs x) Tryd.underlying9 hxl
        rwa [Lx.bs_list] at this
      have Hown := Lib.hid hown; have Hbel := Lib.hid hbel; have Hgd := Lib.hid hgd
      clear hown hbel hgd hx
      go_wp2_with (at_mapUpdate; refine wpList_mapUpdate_own _ rfl _ _ _ 50 rfl 9 3 keyLaw Tryd.underlying50 _ w.heap.size k _ rfl Hown.out (by unfold maxLen; omega) _ _ _ rfl rfl hkey _ [] (plainElem_int Tryd.underlying3 (WalkArith.wf_i64 (by omega))) ?_; intro w1 hown1 hgrow1; have R1 := Lib.hid (And.intro hown1 (Hbel.out.grown hgrow1 Hbel.out.size (fun j hj => by cases hj; exact Nat.le_refl _))); clear hown1 hgrow1)
      go_roundw
      case rel =>
        refine ⟨k + 1, by omega, by go_num, ?_, R1.out.2⟩
        have := R1.out.1
        unfold Qy.kindD
        rw [Hgd.out, show (((k + 1 : Nat)) : Int) = 1 + (k : Int) by omega]
        exact this
      case measure => simp [intOf]; omega
    · obtain rfl : k = 12 := by omega
      have Hown := Lib.hid hown; have Hbel := Lib.hid hbel
      clear hown hbel
      go_wp2
      go_ret
      exact ⟨w.heap.size, rfl, Nat.le_refl _, Hown.out, Hbel.out⟩
end Go.Proofs.YtjonaidancomgaaDoor

namespace Go.Proofs.YtjonaidancomgaaDoor
open Go.RowKit Go.Maps Go.WideMaps

theorem Qy.kindD_isMap : ∀ k, IsMap (Qy.kindD k)
  | 0 => ⟨[], rfl⟩
  | k + 1 => by
    obtain ⟨es, he⟩ := Qy.kindD_isMap k
    unfold Qy.kindD
    rw [he]
    exact ⟨_, rfl⟩
theorem Qy.kindD_at (t : List UInt8) (z : DataW Unit) : ∀ k, k ≤ 12 → (Qy.kindD k).atKey (.string t) z = match (Qy.kindWords.take k).findIdx? (· == t) with | some i => .lit (.int .i64 (i + 1 : Nat)) | none => z
  | 0, _ => rfl
  | k + 1, hk => by
    have hlt : k < Qy.kindWords.length := by show k < 12; omega
    have hget : Qy.kindWords.getD k [] = Qy.kindWords[k] := by simp [List.getD, List.getElem?_eq_getElem hlt]
    have hnd : Qy.kindWords.Nodup := by decide
    unfold Qy.kindD
    rw [hget, List.take_succ_eq_append_getElem hlt, List.findIdx?_append]
    by_cases e : t = Qy.kindWords[k]
    · rw [e, atKey_put_same (k := .string Qy.kindWords[k]) (Qy.kindD_isMap k) (show WideAt.IsKeyLit (.string Qy.kindWords[k]) from trivial)]
      have h0 : (Qy.kindWords.take k).findIdx? (· == Qy.kindWords[k]) = none := by
        rw [Qy.idx_take hnd k k hlt, if_neg (Nat.lt_irrefl k)]
      rw [h0]
      have hl : (Qy.kindWords.take k).length = k := by rw [List.length_take]; omega
      simp [List.findIdx?_cons]
      omega
    · rw [atKey_put_other (by intro h; injection h with h; exact e h), Qy.kindD_at t z k (by omega)]
      cases h : (Qy.kindWords.take k).findIdx? (· == t) with
      | some i => rfl
      | none =>
        have hne : (Qy.kindWords[k] == t) = false := beq_eq_false_iff_ne.2 (fun h => e h.symm)
        simp [List.findIdx?_cons, hne]
theorem Qy.kindD_kind (t : List UInt8) : (Qy.kindD 12).atKey (.string t) (.lit (.int .i64 0)) = .lit (.int .i64 (Qy.kindOf t : Nat)) := by
  rw [Qy.kindD_at t _ 12 (Nat.le_refl _)]
  unfold Qy.kindOf
  have : Qy.kindWords.take 12 = Qy.kindWords := rfl
  rw [this]
  cases Qy.kindWords.findIdx? (· == t) <;> rfl
theorem zeroInt (w : World) : (zeroValue 3).run Tryd.prog w = .ok (.int .i64 0) w := by kernel_rfl
set_option maxRecDepth 20000 in
theorem KindsAt.look {w : World} {b : Nat} (h : KindsAt w b) (s : ByteArray) (hs : s.size ≤ maxLen) : (Instr.lookup 50 (.map (some b)) (.string s) false).run Tryd.prog w = .ok (.int .i64 (Qy.kindOf s.data.toList : Nat)) w := by
  obtain ⟨c, hrun, hat, _⟩ := World.ownsMap.lookup_int h keyLaw Tryd.underlying50 Tryd.underlying3 (zeroInt w) (keyOf_string_mk Tryd.underlying9 hs)
  rw [Qy.kindD_kind] at hat
  injection hat with hat
  injection hat with _ hat
  rw [hrun, ← hat]
theorem KindsAt.below {w w' : World} {b : Nat} (h : KindsAt w b) (hb : Below w.heap.size w w') : KindsAt w' b := by
  obtain ⟨es, clock, hh, F, hs, hD⟩ := h
  have hlt : b < w.heap.size := (Array.getElem?_eq_some_iff.1 hh).1
  exact ⟨es, clock, (hb.block b hlt).trans hh, F, hs, hD⟩
end Go.Proofs.YtjonaidancomgaaDoor

namespace Go.Proofs.YtjonaidancomgaaDoor
open Go.RowKit

/-- How a method ends where the query is wrong. -/
def FailAt (p x : Int) (e : Ending) : Prop := e = .panicked [{ v := .iface 70 (.agg #[.int .i64 p, .int .i64 x]), recovered := false }]
def Qy.front (last : Int) (l : List Lx.Tok) : Int := match l with | t :: _ => t.pos | [] => last

set_option maxHeartbeats 1000000 in
theorem lFail (g B c : Nat) (A : Option Addr) (l : List Lx.Tok) (last x : Int) (v2 v3 v4 v5 v6 v7 : Value) (w : World) (hb : Blk w g 73 #[.slice A l.length c, .int .i64 last, v2, v3, v4, v5, v6, v7]) (hT : Toks w B A l) :
    Calls Tryd.prog 48 #[.pointer (some ⟨g, 0, none⟩), .int .i64 x] w fun e w' => FailAt (Qy.front last l) x e ∧ w = w' := by
  have c0 := hb.cell 0; have c1 := hb.cell 1
  simp at c0 c1
  cases l with
  | nil =>
    clear hb hT
    go_enter Tryd.func48, Tryd.ntmps48
    go_wp2
    exact ⟨rfl, rfl, rfl⟩
  | cons t r =>
    obtain ⟨b, o, rfl, _, q0, q1, q2, q3⟩ := hT.at_ 0 t rfl
    obtain ⟨n, hn⟩ : ∃ n, n = (t :: r).length := ⟨_, rfl⟩
    have hn0 : 0 < n := by rw [hn]; simp
    have hl := hT.len
    rw [← hn] at c0 hl
    simp only [Nat.zero_mul, Nat.add_zero] at q0 q1 q2 q3
    clear hb hT hn
    go_enter Tryd.func48, Tryd.ntmps48
    go_wp2
    exact ⟨rfl, rfl, rfl⟩

def Qy.hit (k : Int) (x : List UInt8) (l : List Lx.Tok) : Bool := match l with | t :: _ => t.kind == k && t.text == x | [] => false

set_option maxHeartbeats 1000000 in
theorem lSkipNo (g B c : Nat) (A : Option Addr) (l : List Lx.Tok) (k : Int) (x : ByteArray) (v1 v2 v3 v4 v5 v6 v7 : Value) (w : World) (hb : Blk w g 73 #[.slice A l.length c, v1, v2, v3, v4, v5, v6, v7]) (hT : Toks w B A l) (hh : Qy.hit k x.data.toList l = false) :
    Calls Tryd.prog 44 #[.pointer (some ⟨g, 0, none⟩), .int .i64 k, .string x] w fun e w' => e = .returned (.bool false) ∧ w = w' := by
  have c0 := hb.cell 0
  simp at c0
  cases l with
  | nil =>
    clear hb hT
    go_enter Tryd.func44, Tryd.ntmps44
    go_wp2
    go_ret
    exact ⟨rfl, rfl⟩
  | cons t r =>
    obtain ⟨b, o, rfl, _, q0, q1, q2, q3⟩ := hT.at_ 0 t rfl
    obtain ⟨n, hn⟩ : ∃ n, n = (t :: r).length := ⟨_, rfl⟩
    have hn0 : 0 < n := by rw [hn]; simp
    have hl := hT.len
    rw [← hn] at c0 hl
    simp only [Nat.zero_mul, Nat.add_zero] at q0 q1 q2 q3
    clear hb hT hn
    have hh' : (t.kind == k && t.text == x.data.toList) = false := hh
    cases hk : t.kind == k
    · clear hh hh'
      go_enter Tryd.func44, Tryd.ntmps44
      go_wp2
      go_ret
      exact ⟨ret_bool (by simp), rfl⟩
    · rw [hk, Bool.true_and] at hh'
      have hx : ((Lx.bs t.text).toList == x.toList) = false := by
        rw [ByteArray.toList_eq, ByteArray.toList_eq, Lx.bs_list]; exact hh'
      clear hh hh'
      go_enter Tryd.func44, Tryd.ntmps44
      go_wp2
      go_ret
      exact ⟨ret_bool (by simp), rfl⟩

set_option maxHeartbeats 1000000 in
theorem lSkipYes (g B c : Nat) (A : Option Addr) (t : Lx.Tok) (r : List Lx.Tok) (k : Int) (x : ByteArray) (v1 v2 v3 v4 v5 v6 v7 : Value) (w : World) (hb : Blk w g 73 #[.slice A (r.length + 1) c, v1, v2, v3, v4, v5, v6, v7]) (hT : Toks w B A (t :: r)) (hcap : r.length + 1 ≤ c) (hBg : B ≤ g) (hh : Qy.hit k x.data.toList (t :: r) = true) :
    Calls Tryd.prog 44 #[.pointer (some ⟨g, 0, none⟩), .int .i64 k, .string x] w fun e w' => e = .returned (.bool true) ∧
      ∃ A' c', Blk w' g 73 #[.slice A' r.length c', v1, v2, v3, v4, v5, v6, v7] ∧ Toks w' B A' r ∧ r.length ≤ c' ∧ ∃ u, w' = w.setCell ⟨g, 0, none⟩ u := by
  have c0 := hb.cell 0
  have f0 := hb.free 0
  simp at c0
  obtain ⟨b, o, rfl, _, q0, q1, q2, q3⟩ := hT.at_ 0 t rfl
  have hl := hT.len
  simp only [List.length_cons] at hl
  simp only [Nat.zero_mul, Nat.add_zero] at q0 q1 q2 q3
  have Hb := Lib.hid hb; have HT := Lib.hid hT
  clear hb hT
  have hh' : (t.kind == k && t.text == x.data.toList) = true := hh
  rw [Bool.and_eq_true] at hh'
  obtain ⟨hk, hx0⟩ := hh'
  have hx : ((Lx.bs t.text).toList == x.toList) = true := by
    rw [ByteArray.toList_eq, ByteArray.toList_eq, Lx.bs_list]; exact hx0
  clear hh hx0
  go_enter Tryd.func44, Tryd.ntmps44
  have hne : b ≠ g := by omega
  have hcells : ∀ (u : Value) (j : Nat), (w.setCell ⟨g, 0, none⟩ u).cell? ⟨b, j, none⟩ = w.cell? ⟨b, j, none⟩ := fun u j => (Below.setCell (Below.refl g w) (show g ≤ (⟨g, 0, none⟩ : Addr).block from Nat.le_refl g) u).cell (p := ⟨b, j, none⟩) (show b < g by omega)
  have htk : ∀ (u : Value) (b1 o1 : Nat), (r ≠ [] → b1 = b ∧ o1 = o + 4) → Toks (w.setCell ⟨g, 0, none⟩ u) B (some ⟨b1, o1, none⟩) r := fun u b1 o1 h => ⟨fun j y hj => by
      have hr : r ≠ [] := by intro e; rw [e] at hj; simp at hj
      obtain ⟨rfl, rfl⟩ := h hr
      obtain ⟨b2, o2, e2, hb2, h4⟩ := HT.out.at_ (j + 1) y (by simpa using hj)
      injection e2 with e2
      injection e2 with e3 e4
      subst e3; subst e4
      refine ⟨_, _, rfl, hb2, ?_⟩
      rw [show o + 4 + j * 4 = o + (j + 1) * 4 by omega]
      exact h4.cells fun i => hcells u i, by have := HT.out.len; simp only [List.length_cons] at this; omega, fun y hy => HT.out.texts y (List.mem_cons_of_mem _ hy)⟩
  have Hc := Lib.hid hcells; have Ht := Lib.hid htk
  clear hcells htk
  go_wp2
  · rename_i hc1
    have hr : r = [] := List.eq_nil_of_length_eq_zero (by omega)
    go_ret
    refine ⟨rfl, _, _, by have := Hb.out.set 0; simpa using this _, Ht.out _ _ _ (fun h => absurd hr h), by omega, _, rfl⟩
  · go_ret
    refine ⟨rfl, _, _, by have := Hb.out.set 0; simpa using this _, Ht.out _ _ _ (fun _ => ⟨rfl, rfl⟩), by omega, _, rfl⟩
end Go.Proofs.YtjonaidancomgaaDoor
