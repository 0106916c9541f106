/- Parts of the proof, joined into one text: QyRange, LxCard, LxOpen, QyEnv. -/
import Derived.RangeFuncNested
import Derived.RangeFuncBound
import Derived.RangeFuncCalls
import Derived.RangeFuncLeaves
import Derived.Test.YtocelmjncjompaaDoorZLxE
import Derived.Test.YtocelmjncjompaaDoorCards
import Derived.Test.YtocelmjncjompaaDoorTie
import Derived.Test.YtocelmjncjompaaDoorZLxPlain
import Derived.WalkKit
import Derived.ProofKit
import Derived.LaidMore
import Derived.OpenShut
import Derived.Below
import Derived.ChangeSame
import Derived.Stop.Joined
import Derived.Stop.LaidErr
import Derived.Lib.LaidTab
import Derived.Deep.DeepHandedRow
import Derived.Deep.DeepWitnessRowRef
import Derived.Test.YtocelmjncjompaaDoorZLxB
import Derived.Deep.Slices
import Derived.Deep.Fields
import Derived.Test.YtocelmjncjompaaDoorZLxM
import Derived.SliceStrings

namespace Go.Proofs.YtocelmjncjompaaDoor
open Go.RowKit

section
variable {P : Program} {F : Fence} {n : Nat}
/-- The iterator gives just xs, in order, unless a round says 'no more'. Before its first round it may do what it likes behind the blocks that lay there; Kp: what a round keeps. -/
def SeqB {α : Type} (F : Fence) (n : Nat) (P : Program) (g : Nat) (lb : Array Value) (encs : α → Array Value) (Kp : World → World → Prop) (xs : List α) (Pre : World → Prop) : Prop :=
  ∀ (l : Nat) (J Jx : List α → World → Prop) (W : World), Pre W → (∀ Y, Below W.heap.size W Y → J [] Y) →
    (∀ pre Y k ds o', J pre Y → W.heap.size ≤ k → Y.heap[k]? = some (.deferred ds) → o'.isCells = false → J pre (Y.putObj k o')) → (∀ pre Y k ds o', Jx pre Y → W.heap.size ≤ k → Y.heap[k]? = some (.deferred ds) → o'.isCells = false → Jx pre (Y.putObj k o')) →
    (∀ pre x W1, J pre W1 → pre ++ [x] <+: xs → YieldAt F (n - 1) P l (encs x) W1 fun e W' =>
      (e = .returned (.bool true) ∧ J (pre ++ [x]) W' ∧ Kp W1 W') ∨ (e = .returned (.bool false) ∧ Jx (pre ++ [x]) W' ∧ ∀ (k : Nat) (ds : Option (List Deferred)), W.heap.size ≤ k → W1.heap[k]? = some (.deferred ds) → W'.heap[k]? = some (.deferred ds))) →
    CallsIn F n P g (#[.func (.yield l) #[] #[]] ++ lb) W fun e W' => (∃ v, e = .returned v) ∧ (J xs W' ∨ ∃ pre, pre <+: xs ∧ Jx pre W')

theorem wpIn_rangeB {α : Type} {g : Operand} {ps : Array Tmp} {assign body : Code} {Q : Exit → Act → World → Prop} {a : Act} {w : World}
    (hro : F.round = none) (h1 : F.depth.isSome = true → 1 ≤ n) {gf : Nat} {lb : Array Value} (hg : a.eval g = .func (.func gf) #[] lb) (hFg : F.fn gf) (eg : ∀ args w, (callFunc gf args).run P w = .ok (.enter gf args) w)
    {encs : α → Array Value} {Kp : World → World → Prop} {xs : List α} {Pre : World → Prop} (hseq : SeqB F (n - 1) P gf lb encs Kp xs Pre) (hpre : ∀ Y, Below w.heap.size w Y → Pre Y)
    (hKt : ∀ {A B C : World}, Kp A B → Kp B C → Kp A C) (hKb : ∀ (W : World) (l : Nat) (r r' : Loop), w.heap.size ≤ l → W.heap[l]? = some (.loop r) → Kp W (W.putObj l (.loop r'))) (hps : ∀ x, (encs x).size = ps.size)
    (I : List α → World → Prop) (Ix : Code → List α → World → Prop) (hI : OwnFrom w.heap.size I) (hIx : ∀ c, OwnFrom w.heap.size (Ix c)) (h0 : ∀ Y, Below w.heap.size w Y → I [] Y) (a₁ : α → Act)
    (hassign : ∀ (l : Nat) (x : α) (W : World) (K : Act → World → Prop), K (a₁ x) W →
      assign.wpIn (F.inRound l) (n - 1 - 1) P (Exit.then K (fun _ _ _ => False)) { tmps := (ps.zip (encs x)).foldl (fun t (p, v) => t.setIfInBounds p v) a.tmps, defers := [] } W)
    (hbody : ∀ (l : Nat) (pre : List α) (x : α) (W : World), I pre W → pre ++ [x] <+: xs → body.wpIn (F.inRound l) (n - 1 - 1) P (ownPostG w.heap.size Kp I Ix (pre ++ [x]) W) (a₁ x) W)
    (hdone : ∀ (D : Nat) (W : World), w.heap.size ≤ D → I xs W → W.heap[D]? = some (.deferred (some [])) → Q .normal { a with defers := { target := .collected D, args := #[] } :: a.defers } W)
    (hstop : ∀ (D : Nat) (c : Code) (pre : List α) (W : World), w.heap.size ≤ D → pre <+: xs → Ix c pre W → W.heap[D]? = some (.deferred (some [])) → c.wpIn F n P Q { a with defers := { target := .collected D, args := #[] } :: a.defers } W) :
    (Code.rangeFunc g ps assign body).wpIn F n P Q a w := by
  refine wpIn_rangeFunc ?_
  intro fn hfn
  rw [hro]
  obtain ⟨rec, hrec⟩ : ∃ rec : LoopState → Option Code → Loop, rec = fun st pe => { state := st, pending := pe, fn, tmps := a.tmps, params := ps, assign, body, defers := w.heap.size } := ⟨_, rfl⟩
  obtain ⟨W1, hW1⟩ : ∃ W1, (w.alloc (.deferred (some []))).alloc (.loop (rec .ready none)) = W1 := ⟨_, rfl⟩
  have hL1 : W1.heap[w.heap.size + 1]? = some (.loop (rec .ready none)) := by
    rw [← hW1]; have := World.alloc_heap_new (w.alloc (.deferred (some []))) (.loop (rec .ready none)); rwa [World.size_alloc] at this
  have hK1 : W1.heap[w.heap.size]? = some (.deferred (some [])) := by
    rw [← hW1]; exact (Below.heap_alloc _ _ _ (by simp)).trans (World.alloc_heap_new w _)
  have hsz1 : W1.heap.size = w.heap.size + 2 := by rw [← hW1]; simp
  have hb1 : Below w.heap.size w W1 := by
    rw [← hW1]; exact ((Below.refl _ w).alloc (Nat.le_refl _) _).alloc (by simp) _
  refine ⟨w.heap.size + 1, [{ target := .collected w.heap.size, args := #[] }], W1, { target := .fn (.func gf) lb, args := #[.func (.yield (w.heap.size + 1)) #[] #[]] }, W1, gf,
    #[.func (.yield (w.heap.size + 1)) #[] #[]] ++ lb, W1, ?_, ?_, ?_, ?_, h1, ?_⟩
  · rw [← hW1, hrec]; exact run_enterLoop_outer _ _ _ _ _
  · simp only [resolve, hg]
    simp [go_sem]
  · intro f' hf'; simp [Target.leads] at hf'; subst hf'; exact hFg
  · simp [invoke, go_sem, eg]
  · refine (hseq (w.heap.size + 1)
      (fun pre W => I pre W ∧ W.heap[w.heap.size + 1]? = some (.loop (rec .ready none)) ∧ W.heap[w.heap.size]? = some (.deferred (some [])))
      (fun pre W => ∃ c, Ix c pre W ∧ W.heap[w.heap.size + 1]? = some (.loop (rec .done (some c))) ∧ W.heap[w.heap.size]? = some (.deferred (some [])))
      W1 (hpre W1 hb1)
      (fun Y hY => ⟨h0 Y (hb1.trans (hY.mono (by omega))), (hY.block _ (by omega)).trans hL1, (hY.block _ (by omega)).trans hK1⟩)
      (fun pre Y k ds o' hJ hk hd ho => ⟨hI.putObj _ hJ.1 (by omega) hd rfl, (World.putObj_heap_other (by omega)).trans hJ.2.1, (World.putObj_heap_other (by omega)).trans hJ.2.2⟩)
      (fun pre Y k ds o' hJ hk hd ho => by
        obtain ⟨c, h1, h2, h3⟩ := hJ
        exact ⟨c, (hIx c).putObj _ h1 (by omega) hd rfl, (World.putObj_heap_other (by omega)).trans h2, (World.putObj_heap_other (by omega)).trans h3⟩)
      ?_).mono ?_
    · -- one round
      rintro pre x W ⟨hi, hl, hk⟩ hlen
      have hlt : w.heap.size + 1 < W.heap.size := (Array.getElem?_eq_some_iff.1 hl).1
      have hy := run_yield (P := P) (args := encs x) hl (by rw [hrec]; exact hps x)
      rw [hrec] at hy
      refine ⟨fn, _, assign, body, hy, roundIn_of_wpIn hfn (hassign _ x W _ ?_)⟩
      clear hy
      refine ⟨_, run_beginRound hl (by rw [hrec]), ?_⟩
      have hl2 : (W.putObj (w.heap.size + 1) (.loop { rec .ready none with state := .busy })).heap[w.heap.size + 1]? = some (.loop { rec .ready none with state := .busy }) := World.putObj_heap_same hlt
      have hk2 : (W.putObj (w.heap.size + 1) (.loop { rec .ready none with state := .busy })).heap[w.heap.size]? = some (.deferred (some [])) := (World.putObj_heap_other (by omega)).trans hk
      have hw2 : Kp W (W.putObj (w.heap.size + 1) (.loop { rec .ready none with state := .busy })) := hKb _ _ _ _ (by omega) hl
      refine wpIn_mono (hbody _ pre x _ (hI.putObj _ hi (by omega) hl rfl) hlen) ?_
      have fin : ∀ (jump : Option Code) (W3 : World), KeepsFrom w.heap.size (W.putObj (w.heap.size + 1) (.loop { rec .ready none with state := .busy })) W3 →
          (Instr.endRound (w.heap.size + 1) jump).run P W3 = .ok (.bool jump.isNone) (W3.putObj (w.heap.size + 1) (.loop (rec (if jump.isNone then .ready else .done) jump))) ∧
          W3.heap[w.heap.size + 1]? = some (.loop { rec .ready none with state := .busy }) ∧
          (W3.putObj (w.heap.size + 1) (.loop (rec (if jump.isNone then .ready else .done) jump))).heap[w.heap.size + 1]? = some (.loop (rec (if jump.isNone then .ready else .done) jump)) ∧
          (W3.putObj (w.heap.size + 1) (.loop (rec (if jump.isNone then .ready else .done) jump))).heap[w.heap.size]? = some (.deferred (some [])) := fun jump W3 hk3 => by
        have hl3 := hk3.same _ _ (by omega) hl2 rfl
        have := run_endRound (P := P) jump hl3
        rw [hrec] at this ⊢
        exact ⟨this, by rw [hrec] at hl3; exact hl3, World.putObj_heap_same (Array.getElem?_eq_some_iff.1 hl3).1, (World.putObj_heap_other (by omega)).trans (hk3.same _ _ (Nat.le_refl _) hk2 rfl)⟩
      rintro e a3 W3 hp
      cases e with
      | normal =>
        obtain ⟨hk3, hkp3, hi3⟩ := hp
        obtain ⟨hr, hl3, hl4, hk4⟩ := fin none W3 hk3
        exact ⟨_, _, hr, .inl ⟨rfl, ⟨hI.putObj _ hi3 (by omega) hl3 rfl, hl4, hk4⟩, hKt (hKt hw2 hkp3) (hKb _ _ _ _ (by omega) hl3)⟩⟩
      | ret =>
        obtain ⟨hk3, hi3⟩ := hp
        obtain ⟨hr, hl3, hl4, hk4⟩ := fin (some .ret) W3 hk3
        exact ⟨_, _, hr, .inr ⟨rfl, ⟨.ret, (hIx _).putObj _ hi3 (by omega) hl3 rfl, hl4, hk4⟩, fun k ds hk hd => (World.putObj_heap_other (by omega)).trans (hk3.same k _ (by omega) ((World.putObj_heap_other (by omega)).trans hd) rfl)⟩⟩
      | exit id =>
        obtain ⟨hk3, hi3⟩ := hp
        obtain ⟨hr, hl3, hl4, hk4⟩ := fin (some (.exit id)) W3 hk3
        exact ⟨_, _, hr, .inr ⟨rfl, ⟨.exit id, (hIx _).putObj _ hi3 (by omega) hl3 rfl, hl4, hk4⟩, fun k ds hk hd => (World.putObj_heap_other (by omega)).trans (hk3.same k _ (by omega) ((World.putObj_heap_other (by omega)).trans hd) rfl)⟩⟩
      | goto t =>
        obtain ⟨hk3, hi3⟩ := hp
        obtain ⟨hr, hl3, hl4, hk4⟩ := fin (some (.goto t)) W3 hk3
        exact ⟨_, _, hr, .inr ⟨rfl, ⟨.goto t, (hIx _).putObj _ hi3 (by omega) hl3 rfl, hl4, hk4⟩, fun k ds hk hd => (World.putObj_heap_other (by omega)).trans (hk3.same k _ (by omega) ((World.putObj_heap_other (by omega)).trans hd) rfl)⟩⟩
      | panic ch => exact hp.elim
      | outgrown => exact hp.elim
    · -- behind the iterator
      rintro e W2 ⟨⟨v, rfl⟩, (⟨hi, hl, hk⟩ | ⟨pre, hSp, c, hi, hl, hk⟩)⟩
      · exact ⟨none, _, by have := run_endLoop (P := P) hl (by rw [hrec]; simp); rw [hrec] at this; exact this, hdone _ _ (Nat.le_refl _) (hI.putObj _ hi (by omega) hl rfl) ((World.putObj_heap_other (by omega)).trans hk)⟩
      · exact ⟨some c, _, by have := run_endLoop (P := P) hl (by rw [hrec]; simp); rw [hrec] at this; exact this, hstop _ c pre _ (Nat.le_refl _) hSp ((hIx c).putObj _ hi (by omega) hl rfl) ((World.putObj_heap_other (by omega)).trans hk)⟩
end

/-- Blocks of elements of type T are as they were, and so are blocks of deferred calls. -/
structure KT (T : TypeId) (W W' : World) : Prop where
  size : W.heap.size ≤ W'.heap.size
  rows : ∀ (k : Nat) (cs : Array Value) (fr : Nat × Nat), W.heap[k]? = some (Obj.cells cs T fr) → W'.heap[k]? = some (Obj.cells cs T fr)
  defs : ∀ (k : Nat) (ds : Option (List Deferred)), W.heap[k]? = some (Obj.deferred ds) → W'.heap[k]? = some (Obj.deferred ds)
section
variable {T t : TypeId} {A B C : World}
theorem KT.refl (T : TypeId) (W : World) : KT T W W := ⟨Nat.le_refl _, fun _ _ _ h => h, fun _ _ h => h⟩
theorem KT.trans (h : KT T A B) (k : KT T B C) : KT T A C := ⟨Nat.le_trans h.size k.size, fun i cs fr hi => k.rows i cs fr (h.rows i cs fr hi), fun i ds hi => k.defs i ds (h.defs i ds hi)⟩
theorem KT.put (W : World) (l : Nat) (r r' : Loop) (h : W.heap[l]? = some (.loop r)) : KT T W (W.putObj l (.loop r')) :=
  ⟨by simp [World.putObj], fun k cs fr hk => by
    rw [World.putObj_heap_other]
    · exact hk
    · rintro rfl
      rw [h] at hk
      exact absurd hk (by simp), fun k ds hk => by
    rw [World.putObj_heap_other]
    · exact hk
    · rintro rfl
      rw [h] at hk
      cases hk⟩
theorem KT.set {g : Nat} {cs : Array Value} (hb : Blk B g t cs) (hne : t ≠ T) (h : KT T A B) (i : Nat) (u : Value) : KT T A (B.setCell ⟨g, i, none⟩ u) :=
  ⟨by simpa [World.setCell] using h.size, fun k cs' fr hk => by
    rw [Below.heap_setCell]
    · exact h.rows k cs' fr hk
    · rintro rfl
      have := h.rows _ _ _ hk
      unfold Blk at hb
      rw [hb] at this
      injection this with this
      injection this with _ ht
      exact hne ht, fun k ds hk => by
    rw [Below.heap_setCell]
    · exact h.defs k ds hk
    · rintro rfl
      have := h.defs _ _ hk
      unfold Blk at hb
      rw [hb] at this
      cases this⟩
theorem KT.below (h : KT T A B) (hb : Below B.heap.size B C) : KT T A C := ⟨Nat.le_trans h.size hb.size, fun k cs fr hk => by
  have := h.rows k cs fr hk
  exact (hb.block k (Array.getElem?_eq_some_iff.1 this).1).trans this, fun k ds hk => by
  have := h.defs k ds hk
  exact (hb.block k (Array.getElem?_eq_some_iff.1 this).1).trans this⟩
theorem KT.alloc (h : KT T A B) (o : Obj) : KT T A (B.alloc o) := h.below ((Below.refl _ _).alloc (Nat.le_refl _) o)
theorem KT.drewN (h : KT T A B) (n : Nat) : KT T A (B.drewN n) := ⟨h.size, h.rows, h.defs⟩
theorem KT.drew (h : KT T A B) : KT T A B.drew := ⟨h.size, h.rows, h.defs⟩
theorem KT.grown {base sz m : Nat} {e : TypeId} {v : Value} {xs : List Value} (h : KT T A B) (hown : B.ownsRow base e sz v m xs) (hne : e ≠ T) (hg : B.grownBy C v.ownBlock) : KT T A C :=
  ⟨Nat.le_trans h.size hg.size, fun k cs fr hk => by
    have h1 := h.rows k cs fr hk
    refine (hg.block k (Array.getElem?_eq_some_iff.1 h1).1 (fun e1 => ?_)).trans h1
    rcases hown.2 with ⟨rfl, _⟩ | ⟨g', cap', cur', rfl, _, hh', _⟩
    · simp [Value.ownBlock] at e1
    · have : k = g' := by simpa [Value.ownBlock] using e1
      subst this
      rw [h1] at hh'
      injection hh' with hh'
      injection hh' with _ ht
      exact hne ht.symm, fun k ds hk => by
    have h1 := h.defs k ds hk
    refine (hg.block k (Array.getElem?_eq_some_iff.1 h1).1 (fun e1 => ?_)).trans h1
    rcases hown.2 with ⟨rfl, _⟩ | ⟨g', cap', cur', rfl, _, hh', _⟩
    · simp [Value.ownBlock] at e1
    · have : k = g' := by simpa [Value.ownBlock] using e1
      subst this
      rw [h1] at hh'
      cases hh'⟩
theorem KT.blk {g : Nat} {cs : Array Value} (h : KT T A B) (hb : Blk A g T cs) : Blk B g T cs := h.rows g cs (0, 0) hb
theorem KT.own {base sz m : Nat} {v : Value} {xs : List Value} (h : KT T A B) (hown : A.ownsRow base T sz v m xs) : B.ownsRow base T sz v m xs := by
  refine ⟨hown.1, ?_⟩
  rcases hown.2 with h2 | ⟨g', cap', cur', hv, hb, hh, r⟩
  · exact .inl h2
  · exact .inr ⟨g', cap', cur', hv, hb, h.rows _ _ _ hh, r⟩
end
end Go.Proofs.YtocelmjncjompaaDoor

namespace Go.Proofs.YtocelmjncjompaaDoor
open Go.RowKit Go.WideShapes Go.ChangeShapes
set_option maxRecDepth 100000

section
variable {H : Type} {enc : TypeId × Value → H} {P : Program}
theorem post_of_below {f : Func} {s : ChangeSpec} {apart fresh handsOn again : Bool} {W W' : World} {args : Array Value} {v : Value} {ds gs : List (DataW H)} {before pa pv : List MemPlace}
    (hW : DataW.Whole enc P f.params.toList s.vars apart W args.toList ds gs before)
    (hres : ∀ (b : Nat) (sp : Nat → Bool) (hd : Bool), DataW.TrodAll enc P W' b sp hd f.resultTypes.toList (v.resultList f.resultTypes.size) (s.fn H (ds ++ gs)).results [])
    (hargs : ∀ sp : Nat → Bool, (∀ p ∈ before, sp p.block = true) → DataW.TrodAll enc P W' 0 sp true f.params.toList args.toList (s.fn H (ds ++ gs)).args pa)
    (hvars : ∀ sp : Nat → Bool, (∀ p ∈ before, sp p.block = true) → DataW.TrodVars enc P W' sp s.vars (s.fn H (ds ++ gs)).vars pv)
    (hps : before = pa ++ pv) (hb : Below W.heap.size W W')
    (hok : ∀ (j : Nat) (t : TypeId) (r : Value), f.resultTypes[j]? = some t → (v.resultList f.resultTypes.size)[j]? = some r → Value.okWide P W' .any 0 t r) :
    s.post enc P f apart fresh handsOn again W args v W' := by
  have hlt : ∀ p ∈ before, p.block < W.heap.size := fun p hp => hW.lt p hp
  have hold : ∀ p ∈ before, (fun b => decide (b < W.heap.size)) p.block = true := fun p hp => by simpa using hlt p hp
  refine ⟨ds, gs, before, [], pa, pv, hW, hres _ _ _, hargs _ hold, hvars _ hold, World.keptBut_mono (fun p hp => ⟨hp, ?_⟩) (hb.frame (· ∈ before)), fun _ => ?_⟩
  · rw [hps, List.mem_append] at hp
    exact Or.inr hp
  · obtain ⟨_, _, _, _, _, hz, hn⟩ := hW
    refine ⟨hok, _, _, ([] ++ pa) ++ pv, ⟨[] ++ pa, pv, trodAll_append (hargs _ (fun _ _ => rfl)) (hres _ _ _), hvars _ (fun _ _ => rfl), rfl, ?_, ?_⟩, ?_⟩
    · intro b off hp
      have hin : MemPlace.cell b off ∈ before := by rw [hps]; simpa using hp
      rw [hb.frozen (hlt _ hin)]
      exact hz b off hin
    · intro ha
      have := hn ha
      rw [hps] at this
      simpa using this
    · intro p hp _
      rw [hps]
      simpa using hp
end

theorem own : ownKnob Tryd.prog.godebug = none := by kernel_rfl
theorem starErr : "*" ++ "errors.errorString" = "*errors.errorString" := by decide
theorem rowErr (u : TypeId) (h : Tryd.prog.typeName? 3 u = some "*errors.errorString") : u = 169 :=
  typeName_ptr_named (nm := "errors.errorString") (by rw [starErr]; kernel_rfl) (by kernel_rfl) (by decide) u (by rw [starErr]; exact h)

/-- WHAT THE LIST GIVES THE WALKS. -/
theorem env_of_laid {x y z : DataW Unit} {text : List UInt8} {r : List (String × DataW Unit)} {W : World} (hz : z = Lib.tabData .u64 Lib.pow10Tab)
    (h : laidMet Tryd.prog (("math/bits.deBruijn32tab", x) :: ("math/bits.deBruijn64tab", y) :: ("internal/strconv.uint64pow10", z) :: ("strconv.ErrRange", .iface "*errors.errorString" (.ptr (.agg [.lit (.string text)]))) :: r) W) : Env W := by
  subst hz
  have h1 := h.tail
  have h2 := h1.tail
  have h3 := h2.tail
  refine ⟨?_, ?_, ?_⟩
  · have ht := Lib.tabIs_of_head (P := Tryd.prog) (g := 4) (t := 163) (e := 148) (n := 20) (by kernel_rfl) (by kernel_rfl) Tryd.underlying163 Tryd.underlying148 (by kernel_rfl) (by kernel_rfl) h2
    unfold Lib.TabIs World.var? at ht
    rw [show Tryd.prog.globalNamed "internal/strconv.uint64pow10" = some 4 by kernel_rfl] at ht
    simp only [Option.bind_some] at ht
    split at ht
    · rename_i cs t fz hh
      cases ht
      exact ⟨t, fz, hh⟩
    · cases ht
  · obtain ⟨a, s, hv, _⟩ := laid_sentinel h3 (g := 2) (ti := 112) (by kernel_rfl) (by kernel_rfl) Tryd.underlying112 rowErr Tryd.underlying169 Tryd.underlying171 rfl rfl Tryd.underlying9 (by kernel_rfl) (by kernel_rfl)
    have := World.var?_cell (show Tryd.prog.globalNamed "strconv.ErrRange" = some 2 by kernel_rfl) hv 0
    exact ⟨_, _, by simpa using this⟩
  · obtain ⟨ps, ⟨g, t, cs, fuel, p, q, hg, _, hv, _⟩, _⟩ := h1
    obtain rfl := Option.some.inj ((show Tryd.prog.globalNamed "math/bits.deBruijn64tab" = some 6 by kernel_rfl).symm.trans hg)
    unfold World.var? at hv
    rw [hg] at hv
    simp only [Option.bind_some] at hv
    rcases Nat.lt_or_ge 6 W.heap.size with hh | hh
    · exact hh
    · rw [Array.getElem?_eq_none hh] at hv
      cases hv

/-- THE WITNESS's WORLD: the heap that the door's run leaves. -/
noncomputable def wit (os : Os) (args : Array Value) : World := (World.doorLaid Tryd.prog 67 os).forCall (fun _ _ => 0) ⟨#[], args, []⟩
theorem wit_vars (os : Os) (args : Array Value) : (wit os args).variablesRefB Tryd.prog = true := by kernel_rfl
theorem wit_rest (os : Os) (args : Array Value) : ((wit os args).heap.toList.drop Tryd.prog.globals.size).take ((begin Tryd.prog (fun _ _ => 0) default).world.heap.size - Tryd.prog.globals.size) =
      (begin Tryd.prog (fun _ _ => 0) default).world.heap.toList.drop Tryd.prog.globals.size := by kernel_rfl
theorem wit_met (os : Os) (args : Array Value) : laidMetH Tryd.prog Rows.lexNamesRow.laid (wit os args).memory :=
  laidMetH_of_parts3 (fuel := 8) (laidMet_of_run' 8 (by kernel_rfl) (by kernel_rfl)) (by kernel_rfl) (by kernel_rfl)
end Go.Proofs.YtocelmjncjompaaDoor

namespace Go.Proofs.YtocelmjncjompaaDoor
open Go.RowKit Go.WideShapes Go.ChangeShapes Go.Deep


section
variable {H : Type} {enc : TypeId × Value → H} {P : Program} {w : World} {base : Nat} {spare : Nat → Bool} {held : Bool}
theorem open_slice_fields {t e : TypeId} {fs : Array Field} {fuel : Nat} {cs : List Value} {x : DataW H × List MemPlace} (ht : P.underlying t = some (.slice e)) (he : P.underlying e = some (.struct fs))
    (hone : oneCellFields P fs = true) (hC : P.cellsOf e = fs.size) (h : DataW.trod enc P w base spare held fuel t cs = some x) :
    (cs = [.slice none 0 0] ∧ x = (.nil, [])) ∨
    ∃ (a : Addr) (len cap m : Nat) (D : Nat → DataW H) (Pl : Nat → List MemPlace), cs = [.slice (some a) len cap] ∧ base ≤ a.block ∧ len ≤ cap ∧ cap ≤ maxLen ∧ m = (if spare a.block then cap else len) ∧
      x = (.slice ((List.range len).map D) ((List.range (m - len)).map fun j => D (len + j)), MemPlace.row a (m * fs.size) ++ (List.range m).flatMap Pl) ∧
      ∀ i, i < m → ∃ (ys : List (DataW H × List MemPlace)) (n : Nat), D i = .agg (ys.map (·.1)) ∧ Pl i = ys.flatMap (·.2) ∧ ys.length = fs.size ∧
        ∀ (j : Nat) (f : Field), fs[j]? = some f → ∃ (v : Value) (y : DataW H × List MemPlace), w.cell? (a.add (i * fs.size + j)) = some v ∧ ys[j]? = some y ∧ DataW.trod enc P w base spare held n f.type [v] = some y := by
  rcases open_slice ht h with h0 | ⟨a, len, cap, m, n, D, Pl, hcs, hb, hl, hm, hmm, hx, hi⟩
  · exact .inl h0
  · refine .inr ⟨a, len, cap, m, D, Pl, hcs, hb, hl, hm, hmm, by rw [hC] at hx; exact hx, fun i him => ?_⟩
    obtain ⟨cs', hc, ht'⟩ := hi i him
    rw [hC] at hc
    obtain ⟨ys, n', hn', hy, hlen, hyl, hf⟩ := DataW.trod_struct he ht'
    obtain ⟨_, hcl, hat⟩ := World.cells?_some hc
    simp only [Prod.mk.injEq] at hy
    refine ⟨ys, n', hy.1, hy.2, hyl, fun j f hj => ?_⟩
    obtain ⟨ho, hk⟩ := hone_of hone j f hj
    have hjl : j < fs.size := (Array.getElem?_eq_some_iff.1 hj).1
    have hcell := hat j hjl
    have hv : cs'[j]? = some (cs'[j]'(by omega)) := List.getElem?_eq_getElem (by omega)
    have h1 := hf j f hj
    rw [ho, hk] at h1
    have hone' : (cs'.drop j).take 1 = [cs'[j]'(by omega)] := by
      rw [List.drop_eq_getElem_cons (by omega)]
      rfl
    rw [hone'] at h1
    have hys : ys[j]? = some (ys[j]'(by omega)) := List.getElem?_eq_getElem (by omega)
    refine ⟨_, _, ?_, hys, h1.trans hys⟩
    rw [← Go.Deep.add_add, hcell, hv]
end

theorem add_none (b o j : Nat) : (⟨b, o, none⟩ : Addr).add j = ⟨b, o + j, none⟩ := by unfold Addr.add; split <;> simp_all
theorem cell_spot {w : World} {a : Addr} {v : Value} (h : w.cell? a = some v) : a.spot = none := by
  unfold World.cell? at h
  split at h
  · split at h
    · cases h
    · rename_i h2; simpa using h2
  · cases h

section
variable {H : Type} {enc : TypeId × Value → H}
theorem weights_tok {x y n p : DataW H} {s : List UInt8} (hx : x = .lit (.string s)) (rest : List (DataW H)) (i : Nat) (hi : rest[i]? = some (.agg [y, x, n, p])) {B : Nat}
    (h : ∀ k ∈ DataW.weightsAll Tryd.prog 35 rest, k ≤ B) : s.length ≤ B := by
  subst hx
  induction rest generalizing i with
  | nil => simp at hi
  | cons d r ih =>
    simp only [DataW.weightsAll, List.mem_append] at h
    cases i with
    | zero =>
      simp only [List.getElem?_cons_zero, Option.some.injEq] at hi
      subst hi
      refine h _ (Or.inl ?_)
      unfold DataW.weights
      rw [Tryd.underlying35]
      simp [DataW.weightsEach, DataW.weights]
    | succ i => exact ih i (fun k hk => h k (Or.inr hk)) (by simpa using hi)

set_option maxRecDepth 100000 in
theorem open_toks {W : World} {b0 : Nat} {v : Value} {d : DataW H} {ps : List MemPlace} (hval : Value.okWide Tryd.prog W .any b0 23 v) (hd : DataW.Trod enc Tryd.prog W 0 (fun _ => true) true 23 v d ps)
    (hlt : ∀ x ∈ ps, x.block < W.heap.size) (hw : ∀ k ∈ d.weights Tryd.prog 23, k ≤ reachBytes) : ∃ A l c, v = .slice A l.length c ∧ Toks W W.heap.size A l := by
  obtain ⟨A, n, c, rfl⟩ := okWide_slice Tryd.underlying23 hval
  obtain ⟨fuel, hf⟩ := hd
  have hcs : (Value.slice A n c).cells.toList = [.slice A n c] := by simp [Value.cells]
  rw [hcs] at hf
  rcases open_slice_fields Tryd.underlying23 Tryd.underlying35 (by kernel_rfl) (by kernel_rfl) hf with ⟨h1, _⟩ | ⟨a, len, cap, m, D, Pl, h1, hb, hl, hm, hmm, hx, hfld⟩
  · injection h1 with h1
    injection h1 with e1 e2 e3
    subst e1; subst e2; subst e3
    exact ⟨none, [], 0, rfl, Toks.nil _ _ _⟩
  · injection h1 with h1
    injection h1 with e1 e2 e3
    subst e1; subst e2; subst e3
    rw [if_pos rfl] at hmm
    subst hmm
    simp only [Prod.mk.injEq] at hx
    obtain ⟨rfl, rfl⟩ := hx
    have hspot : 0 < m → a.spot = none := by
      intro hi
      obtain ⟨ys, k, _, _, _, hj⟩ := hfld 0 hi
      obtain ⟨w0, y0, c0, _⟩ := hj 0 _ rfl
      have e : a.add (0 * 4 + 0) = a := rfl
      exact cell_spot (e ▸ c0)
    have htok : ∀ i, i < m → ∃ t : Lx.Tok, D i = .agg [.lit (.int .i64 t.kind), .lit (.string t.text), .lit (.int .i64 t.n), .lit (.int .i64 t.pos)] ∧ TokAt W a.block (a.off + i * 4) t ∧ a.spot = none := by
      intro i hi
      obtain ⟨ys, k, hD, _, hylen, hj⟩ := hfld i hi
      obtain ⟨w0, y0, c0, g0, t0⟩ := hj 0 _ rfl
      obtain ⟨w1, y1, c1, g1, t1⟩ := hj 1 _ rfl
      obtain ⟨w2, y2, c2, g2, t2⟩ := hj 2 _ rfl
      obtain ⟨w3, y3, c3, g3, t3⟩ := hj 3 _ rfl
      obtain ⟨k0, q0, r0, _⟩ := DataW.trod_int Tryd.underlying3 t0
      obtain ⟨s1, q1, r1, _⟩ := DataW.trod_string Tryd.underlying9 t1
      obtain ⟨k2, q2, r2, _⟩ := DataW.trod_int Tryd.underlying3 t2
      obtain ⟨k3, q3, r3, _⟩ := DataW.trod_int Tryd.underlying3 t3
      injection q0 with q0; injection q1 with q1; injection q2 with q2; injection q3 with q3
      subst q0; subst q1; subst q2; subst q3; subst r0; subst r1; subst r2; subst r3
      have hys : ys = [(.lit (.int .i64 k0), []), (.lit (.string s1.data.toList), []), (.lit (.int .i64 k2), []), (.lit (.int .i64 k3), [])] := by
        match ys, hylen, g0, g1, g2, g3 with
        | [_, _, _, _], _, g0, g1, g2, g3 =>
          simp only [List.getElem?_cons_zero, List.getElem?_cons_succ, Option.some.injEq] at g0 g1 g2 g3
          rw [g0, g1, g2, g3]
      have hsp : a.spot = none := hspot (by omega)
      obtain ⟨ab, ao, asp⟩ := a
      simp only at hsp
      subst hsp
      rw [add_none] at c0 c1 c2 c3
      refine ⟨⟨k0, s1.data.toList, k2, k3⟩, by rw [hD, hys]; rfl, ⟨c0, ?_, c2, c3⟩, rfl⟩
      rw [Lx.bs_of]
      exact c1
    have hmb : m * 40 ≤ reachBytes := by
      unfold DataW.weights at hw
      rw [Tryd.underlying23] at hw
      have := hw _ (List.mem_cons_self ..)
      rw [show Tryd.prog.bytesOf 35 = 40 by kernel_rfl] at this
      simp only [List.length_map, List.length_range] at this
      have e : n + (m - n) = m := by omega
      rwa [e] at this
    have hws : ∀ k ∈ DataW.weightsAll Tryd.prog 35 ((List.range n).map D), k ≤ reachBytes := by
      intro k hk
      unfold DataW.weights at hw
      rw [Tryd.underlying23] at hw
      exact hw k (List.mem_cons_of_mem _ (List.mem_append_left _ hk))
    have hch : ∀ i : Nat, ∃ t : Lx.Tok, i < m → D i = .agg [.lit (.int .i64 t.kind), .lit (.string t.text), .lit (.int .i64 t.n), .lit (.int .i64 t.pos)] ∧ TokAt W a.block (a.off + i * 4) t ∧ a.spot = none := by
      intro i
      by_cases hi : i < m
      · obtain ⟨t, ht⟩ := htok i hi
        exact ⟨t, fun _ => ht⟩
      · exact ⟨⟨0, [], 0, 0⟩, fun h => absurd h hi⟩
    obtain ⟨T, hT⟩ := Classical.axiomOfChoice hch
    have hlen : ((List.range n).map T).length = n := by simp
    refine ⟨some a, (List.range n).map T, m, by rw [hlen], ⟨fun k t ht => ?_, by rw [hlen]; unfold reachBytes at hmb; omega, fun t ht => ?_⟩⟩
    · have hk : k < n := by
        have := (List.getElem?_eq_some_iff.1 ht).1
        rwa [hlen] at this
      have e : t = T k := by
        rw [List.getElem?_map, List.getElem?_range hk] at ht
        simpa using ht.symm
      subst e
      obtain ⟨_, h2, h3⟩ := hT k (by omega)
      have hab : a.block < W.heap.size := by
        have hc := h2.kind
        rcases Nat.lt_or_ge a.block W.heap.size with h | h
        · exact h
        · unfold World.cell? at hc
          simp only [Array.getElem?_eq_none h] at hc
          cases hc
      obtain ⟨ab, ao, asp⟩ := a
      simp only at h3
      subst h3
      exact ⟨ab, ao, rfl, hab, h2⟩
    · obtain ⟨i, hi, rfl⟩ := List.mem_map.1 ht
      have hi' : i < n := List.mem_range.1 hi
      obtain ⟨h1, _, _⟩ := hT i (by omega)
      have := weights_tok rfl _ i (by rw [List.getElem?_map, List.getElem?_range hi']; simp [h1]; exact ⟨rfl, rfl, rfl, rfl⟩) hws
      unfold reachBytes at this
      exact this

/-- A slice's address, below block B, from which on n bytes lie. -/
structure Byts (w : World) (B : Nat) (A : Option Addr) (n : Nat) : Prop where
  at_ : ∀ k, k < n → ∃ b o z, A = some ⟨b, o, none⟩ ∧ b < B ∧ w.cell? ⟨b, o + k, none⟩ = some (.int .u8 (z : Nat)) ∧ z < 256
  len : n ≤ 140737488351232
set_option maxRecDepth 100000 in
theorem open_bytes {W : World} {b0 : Nat} {v : Value} {d : DataW H} {ps : List MemPlace} (hval : Value.okWide Tryd.prog W .any b0 38 v) (hd : DataW.Trod enc Tryd.prog W 0 (fun _ => true) true 38 v d ps)
    (hlt : ∀ x ∈ ps, x.block < W.heap.size) (hw : ∀ k ∈ d.weights Tryd.prog 38, k ≤ reachBytes) : ∃ A n c, v = .slice A n c ∧ Byts W W.heap.size A n := by
  obtain ⟨A, n, c, rfl⟩ := okWide_slice Tryd.underlying38 hval
  obtain ⟨fuel, hf⟩ := hd
  have hcs : (Value.slice A n c).cells.toList = [.slice A n c] := by simp [Value.cells]
  rw [hcs] at hf
  rcases open_ints Tryd.underlying38 Tryd.underlying5 (by kernel_rfl) hf with ⟨h1, _⟩ | ⟨a, len, cap, zs, h1, hb, hl, hm, hz, hx, hcell, hwf⟩
  · injection h1 with h1
    injection h1 with e1 e2 e3
    subst e1; subst e2; subst e3
    exact ⟨none, 0, 0, rfl, ⟨fun k hk => absurd hk (by omega), by omega⟩⟩
  · injection h1 with h1
    injection h1 with e1 e2 e3
    subst e1; subst e2; subst e3
    rw [if_pos rfl] at hz
    simp only [Prod.mk.injEq] at hx
    obtain ⟨rfl, rfl⟩ := hx
    have hnb : n ≤ reachBytes := by
      unfold DataW.weights at hw
      rw [Tryd.underlying38] at hw
      have := hw _ (List.mem_cons_self ..)
      rw [show Tryd.prog.bytesOf 5 = 1 by kernel_rfl] at this
      simp only [lits, List.length_map, List.length_take, List.length_drop] at this
      omega
    refine ⟨some a, n, c, rfl, ⟨fun k hk => ?_, by unfold reachBytes at hnb; exact hnb⟩⟩
    have h0 := hcell 0 (by omega)
    have hsp : a.spot = none := cell_spot (show W.cell? a = _ from h0)
    obtain ⟨ab, ao, asp⟩ := a
    simp only at hsp
    subst hsp
    have hk1 := hcell k (by omega)
    rw [add_none] at hk1
    have hk2 := hwf (zs.getD k 0) (by rw [List.getD_eq_getElem?_getD, List.getElem?_eq_getElem (by omega)]; exact List.getElem_mem _)
    have hab : ab < W.heap.size := by
      rcases Nat.lt_or_ge ab W.heap.size with h | h
      · exact h
      · have h0' : W.cell? ⟨ab, ao, none⟩ = some (.int .u8 (zs.getD 0 0)) := h0
        unfold World.cell? at h0'
        simp only [Array.getElem?_eq_none h] at h0'
        cases h0'
    have hz0 : 0 ≤ zs.getD k 0 ∧ zs.getD k 0 < 256 := by
      have hk3 : (decide (IntKind.u8.min ≤ zs.getD k 0) && decide (zs.getD k 0 ≤ IntKind.u8.max)) = true := hk2
      rw [Bool.and_eq_true, decide_eq_true_eq, decide_eq_true_eq] at hk3
      have e1 : IntKind.u8.min = 0 := rfl
      have e2 : IntKind.u8.max = 255 := rfl
      omega
    obtain ⟨z, hz⟩ := Int.eq_ofNat_of_zero_le hz0.1
    exact ⟨ab, ao, z, rfl, hab, by rw [← hz]; exact hk1, by omega⟩
end
theorem Byts.below {w w' : World} {B B' : Nat} {A : Option Addr} {n : Nat} (h : Byts w B A n) (hb : Below B' w w') (hB : B ≤ B') : Byts w' B A n :=
  ⟨fun k hk => by
    obtain ⟨b, o, z, e, hlt, hc, hz⟩ := h.at_ k hk
    exact ⟨b, o, z, e, hlt, (hb.cell (p := ⟨b, o + k, none⟩) (show b < B' by omega)).trans hc, hz⟩, h.len⟩
end Go.Proofs.YtocelmjncjompaaDoor

namespace Go.Proofs.YtocelmjncjompaaDoor
open Go.RowKit Go.WideShapes Go.ChangeShapes

structure EnvQ (w : World) : Prop where
  env : Env w
  words : ∃ b o c, w.cell? ⟨0, 0, none⟩ = some (.slice (some ⟨b, o, none⟩) 12 c) ∧ b < w.heap.size ∧ ∀ i x, Qy.kindWords[i]? = some x → w.cell? ⟨b, o + i, none⟩ = some (.string (Lx.bs x))
theorem EnvQ.next {w w' : World} (h : EnvQ w) (hb : Below w.heap.size w w') : EnvQ w' := by
  obtain ⟨he, b, o, c, h1, h2, h3⟩ := h
  have hs := he.size
  exact ⟨he.next hb, b, o, c, (hb.cell (p := ⟨0, 0, none⟩) (show 0 < w.heap.size by omega)).trans h1, Nat.lt_of_lt_of_le h2 hb.size, fun i x hx => (hb.cell (p := ⟨b, o + i, none⟩) h2).trans (h3 i x hx)⟩

set_option maxRecDepth 100000 in
theorem words_of_laid {d : DataW Unit} {r : List (String × DataW Unit)} {W : World} (hd0 : d = .slice (Qy.kindWords.map fun x => .lit (.string x)) [])
    (h : laidMet Tryd.prog (("sizar/query.kindWords", d) :: r) W) (he : Env W) : EnvQ W := by
  refine ⟨he, ?_⟩
  obtain ⟨ps, ⟨g, t, cs, fuel, p, q, hg, ht, hv, hd, _⟩, _⟩ := h
  obtain rfl := Option.some.inj ((show Tryd.prog.globalNamed "sizar/query.kindWords" = some 0 by kernel_rfl).symm.trans hg)
  obtain rfl := Option.some.inj ((show (Tryd.prog.globals[0]?).map (·.type) = some 39 by kernel_rfl).symm.trans ht)
  subst hd0
  rcases open_strings Tryd.underlying39 Tryd.underlying9 (by kernel_rfl) hd with ⟨_, hx⟩ | ⟨a, len, cap, ss, hcs, _, hl, hm, hz, hx, hc, _⟩
  · cases hx
  · simp only [Prod.mk.injEq, DataW.slice.injEq] at hx
    obtain ⟨⟨hx1, hx2⟩, _⟩ := hx
    have hss : ss.map (·.data.toList) = Qy.kindWords := by
      have hlen : ss.length = (ss.take len).length + (ss.drop len).length := by rw [← List.length_append, List.take_append_drop]
      have h0 : ss.drop len = [] := by
        unfold strs at hx2
        exact List.map_eq_nil_iff.1 hx2.symm
      have h1 : ss.take len = ss := by
        have := List.take_append_drop len ss
        rw [h0, List.append_nil] at this
        exact this
      rw [h1] at hx1
      unfold strs at hx1
      have h2 : (Qy.kindWords.map fun x => (DataW.lit (.string x) : DataW Unit)) = (ss.map (·.data.toList)).map fun x => DataW.lit (.string x) := by
        rw [hx1, List.map_map]; rfl
      have hinj : ∀ (l l' : List (List UInt8)), (l.map fun x => (DataW.lit (.string x) : DataW Unit)) = l'.map (fun x => DataW.lit (.string x)) → l = l' := by
        intro l
        induction l with
        | nil => intro l' h; cases l' with | nil => rfl | cons a b => simp at h
        | cons a b ih =>
          intro l' h
          cases l' with
          | nil => simp at h
          | cons a' b' =>
            simp only [List.map_cons, List.cons.injEq, DataW.lit.injEq, Lit.string.injEq] at h
            rw [h.1, ih b' h.2]
      exact (hinj _ _ h2).symm
    have hlen12 : ss.length = 12 := by
      have := congrArg List.length hss
      rw [List.length_map] at this
      rw [this]; rfl
    rw [if_pos rfl] at hz
    have hx2' : ss.drop len = [] := by
      unfold strs at hx2
      exact List.map_eq_nil_iff.1 hx2.symm
    have hlen : len = 12 := by
      have := congrArg List.length hx2'
      rw [List.length_drop] at this
      simp only [List.length_nil] at this
      omega
    have h0 := hc 0 (by omega)
    have hsp : a.spot = none := cell_spot (show W.cell? a = _ from h0)
    obtain ⟨ab, ao, asp⟩ := a
    simp only at hsp
    subst hsp
    have hcell : W.cell? ⟨0, 0, none⟩ = some (.slice (some ⟨ab, ao, none⟩) 12 cap) := by
      have := World.var?_cell hg hv 0
      rw [Array.eq_one_of_toList hcs, hlen] at this
      simpa using this
    have hab : ab < W.heap.size := by
      rcases Nat.lt_or_ge ab W.heap.size with h | h
      · exact h
      · have h0' : W.cell? ⟨ab, ao, none⟩ = some (.string (ss.getD 0 ByteArray.empty)) := h0
        unfold World.cell? at h0'
        simp only [Array.getElem?_eq_none h] at h0'
        cases h0'
    refine ⟨ab, ao, cap, hcell, hab, fun i x hx => ?_⟩
    have hi : i < ss.length := by
      have := (List.getElem?_eq_some_iff.1 hx).1
      rw [hlen12]; exact this
    have h1 := hc i hi
    rw [add_none] at h1
    rw [h1]
    rw [← hss, List.getElem?_map, List.getElem?_eq_getElem hi] at hx
    simp only [Option.map_some, Option.some.injEq] at hx
    have h2 : ss.getD i ByteArray.empty = ss[i] := by simp [List.getD, List.getElem?_eq_getElem hi]
    rw [h2, ← hx, Lx.bs_of]
end Go.Proofs.YtocelmjncjompaaDoor
