/- Parts of the proof, joined into one text: QyBegin, QyPrI, QyOps, QyToks. -/
import Derived.Test.YtjonaidancomgaaDoorZQyStartB
import Derived.Test.YtjonaidancomgaaDoorZQyMixA
import Derived.Maps.Own
import Derived.Maps.Views

namespace Go.Proofs.YtjonaidancomgaaDoor
open Go.RowKit Go.Maps Go.WideMaps

/-- All blocks but those of tokens, the printer's and block a are as they were. -/
structure KB (a : Nat) (w w' : World) : Prop where
  size : w.heap.size ≤ w'.heap.size
  keep : ∀ (k : Nat) (o : Obj), k ≠ a → w.heap[k]? = some o → (∀ cs t fr, o = .cells cs t fr → t ≠ 110 ∧ t ≠ 78) → w'.heap[k]? = some o
theorem KB.refl (a : Nat) (w : World) : KB a w w := ⟨Nat.le_refl _, fun _ _ _ h _ => h⟩
theorem KB.trans {a : Nat} {x y z : World} (h : KB a x y) (k : KB a y z) : KB a x z := ⟨Nat.le_trans h.size k.size, fun i o hn hi ho => k.keep i o hn (h.keep i o hn hi ho) ho⟩
theorem KP.kb {w w' : World} (h : KP w w') (a : Nat) : KB a w w' := ⟨h.size, fun k o _ hk ho => h.keep k o hk ho⟩
theorem KB.blk {a : Nat} {w w' : World} (h : KB a w w') {b : Nat} {t : TypeId} {cs : Array Value} (hb : Blk w b t cs) (hn : b ≠ a) (h1 : t ≠ 110) (h2 : t ≠ 78) : Blk w' b t cs :=
  h.keep b _ hn hb (fun _ _ _ e => by injection e with _ e _; subst e; exact ⟨h1, h2⟩)
theorem KB.set {a : Nat} {w w' : World} (h : KB a w w') (i : Nat) (u : Value) : KB a w (w'.setCell ⟨a, i, none⟩ u) :=
  ⟨by simpa [World.setCell] using h.size, fun k o hn hk ho => (Below.heap_setCell w' ⟨a, i, none⟩ u k hn).trans (h.keep k o hn hk ho)⟩
theorem PrSt.set {g B a i : Nat} {ns : List (List UInt8)} {l : List Lx.Tok} {w : World} {t : TypeId} {cs : Array Value} (h : PrSt g B ns l w) (ha : Blk w a t cs) (h1 : t ≠ 110) (h2 : t ≠ 78) (hB : B ≤ a) (u : Value) : PrSt g B ns l (w.setCell ⟨a, i, none⟩ u) := by
  obtain ⟨⟨AN, cN, vT, hb, hl, ho⟩, hle⟩ := h
  exact ⟨⟨AN, cN, vT, hb.far (p := ⟨a, i, none⟩) (Blk.ne hb ha h2.symm) u, ⟨fun k cs' hk => by
    obtain ⟨b, o, e, hlt, hc⟩ := hl.at_ k cs' hk
    exact ⟨b, o, e, hlt, fun j v hj => (World.cell?_of_block (a := ⟨b, o + k * 1 + j, none⟩) (Below.heap_setCell w ⟨a, i, none⟩ u b (show b ≠ a by omega))).trans (hc j v hj)⟩, hl.len⟩, own_setCell_far ho (own_ne ho ha h1.symm) u⟩, hle⟩
/-- What leads in: the word, or a comma. -/
def ledBy (f : Bool) : Lx.Tok := if f then Qy.nameT Qy.wWhere else Qy.sgT 44
def ledW (f : Bool) : Value := if f then .string (Lx.bs Qy.wWhere) else .string ⟨#[]⟩
def BeginPost (g B a : Nat) (ns : List (List UInt8)) (l : List Lx.Tok) (f : Bool) (w : World) (e : Ending) (w' : World) : Prop :=
  e = .returned (.tuple #[]) ∧ PrSt g B ns (l ++ [ledBy f]) w' ∧ Blk w' a 9 #[.string ⟨#[]⟩] ∧ Below g w w' ∧ KB a w w'

theorem bs_ne {t : List UInt8} (h : t ≠ []) : (!(Lx.bs t).toList.isEmpty) = true := by
  rw [ByteArray.toList_eq, Lx.bs_list]
  cases t with
  | nil => exact absurd rfl h
  | cons a r => rfl
set_option maxHeartbeats 1000000 in
theorem lBegin (g B a pb : Nat) (ns : List (List UInt8)) (l : List Lx.Tok) (f : Bool) (w : World) (h : PrSt g B ns l w) (ha : Blk w a 9 #[ledW f]) (hp : Blk w pb 76 #[.pointer (some ⟨g, 0, none⟩)]) (hl : l.length + 1 ≤ 1000) (hga : g ≤ a) :
    Calls Tryd.prog 27 #[.pointer (some ⟨a, 0, none⟩), .pointer (some ⟨pb, 0, none⟩)] w (BeginPost g B a ns l f w) := by
  have H := Lib.hid h; have Ha := Lib.hid ha
  have c0 := ha.cell 0; have f0 := ha.free 0; have p0 := hp.cell 0
  have hlt := ha.lt
  have hgl := h.lt
  simp at c0 p0
  have hle := h.le
  clear h ha hp
  have hput := fun (it : Item) (o : Obj) => lPut g B ns [it] l w.heap.size (w.alloc o) (H.out.next ((Below.refl _ _).alloc (Nat.le_refl _) _))
  have Hput := Lib.hid hput
  clear hput
  cases f with
  | true =>
    have c0' : w.cell? ⟨a, 0, none⟩ = some (.string (Lx.bs Qy.wWhere)) := c0
    have hne := bs_ne (t := Qy.wWhere) (by simp [Qy.wWhere])
    clear c0
    go_enter Tryd.func27, Tryd.ntmps27
    go_wp2_with fail
    refine (Hput.out (.name Qy.wWhere) _ (Blk.new _ _ _) (by simpa using hl) (fun i hi => by rw [List.mem_singleton] at hi; subst hi; trivial)).mono ?_
    rintro e w1 ⟨rfl, h1, h2, h3⟩
    have hkp : KP w w1 := (KP.below ((Below.refl _ _).alloc (Nat.le_refl _) _)).trans h3
    have ha1 := hkp.blk Ha.out (by decide) (by decide)
    have d0 := ha1.cell 0; have df0 := ha1.free 0
    simp [ledW] at d0
    have HP := Lib.hid (show PrSt g B ns (l ++ [ledBy true]) w1 from h1); have HB := Lib.hid (((Below.refl _ w).alloc (show g ≤ w.heap.size by omega) _).trans h2); have HK := Lib.hid hkp; have HA := Lib.hid ha1
    clear h1 h2 h3 hkp ha1
    go_wp2_with fail
    go_end0
    exact ⟨rfl, HP.out.set HA.out (by decide) (by decide) (by omega) _, by have := HA.out.set 0 (.string ⟨#[]⟩); simpa using this, HB.out.setCell (p := ⟨a, 0, none⟩) hga _, (HK.out.kb a).set 0 _⟩
  | false =>
    have c0' : w.cell? ⟨a, 0, none⟩ = some (.string ⟨#[]⟩) := c0
    clear c0
    go_enter Tryd.func27, Tryd.ntmps27
    go_wp2_with fail
    refine (Hput.out (.sign [44]) _ (Blk.new _ _ _) (by simpa using hl) (fun i hi => by rw [List.mem_singleton] at hi; subst hi; trivial)).mono ?_
    rintro e w1 ⟨rfl, h1, h2, h3⟩
    have hkp : KP w w1 := (KP.below ((Below.refl _ _).alloc (Nat.le_refl _) _)).trans h3
    have ha1 := hkp.blk Ha.out (by decide) (by decide)
    have d0 := ha1.cell 0; have df0 := ha1.free 0
    simp [ledW] at d0
    have HP := Lib.hid (show PrSt g B ns (l ++ [ledBy false]) w1 from h1); have HB := Lib.hid (((Below.refl _ w).alloc (show g ≤ w.heap.size by omega) _).trans h2); have HK := Lib.hid hkp; have HA := Lib.hid ha1
    clear h1 h2 h3 hkp ha1
    go_wp2_with fail
    go_end0
    exact ⟨rfl, HP.out.set HA.out (by decide) (by decide) (by omega) _, by have := HA.out.set 0 (.string ⟨#[]⟩); simpa using this, HB.out.setCell (p := ⟨a, 0, none⟩) hga _, (HK.out.kb a).set 0 _⟩
end Go.Proofs.YtjonaidancomgaaDoor

namespace Go.Proofs.YtjonaidancomgaaDoor
open Go.RowKit Go.Maps Go.WideMaps

/-- The printer in block g has the tokens l; block a holds x. -/
structure PrI (g B a : Nat) (ns : List (List UInt8)) (W0 : World) (l : List Lx.Tok) (x : Value) (W : World) : Prop where
  st : PrSt g B ns l W
  bef : Blk W a 9 #[x]
  bel : Below g W0 W
  kb : KB a W0 W
section
variable {g B a : Nat} {ns : List (List UInt8)} {W0 W W2 : World} {l t : List Lx.Tok} {x y : Value}
theorem PrI.size (h : PrI g B a ns W0 l x W) : W0.heap.size ≤ W.heap.size := h.kb.size
theorem PrI.next (h : PrI g B a ns W0 l x W) (hb : Below W.heap.size W W2) : PrI g B a ns W0 l x W2 :=
  ⟨h.st.next hb, h.bef.below hb h.bef.lt, h.bel.trans (hb.mono (by have := h.st.lt; omega)), h.kb.trans ((KP.below hb).kb a)⟩
theorem PrI.alloc (h : PrI g B a ns W0 l x W) (o : Obj) : PrI g B a ns W0 l x (W.alloc o) := h.next ((Below.refl _ _).alloc (Nat.le_refl _) _)
theorem PrI.drew (h : PrI g B a ns W0 l x W) : PrI g B a ns W0 l x W.drew := h.next (Below.refl _ _).drew
theorem PrI.put (h : PrI g B a ns W0 l x W) (hs : PrSt g B ns (l ++ t) W2) (hb : Below g W W2) (hk : KP W W2) : PrI g B a ns W0 (l ++ t) x W2 :=
  ⟨hs, hk.blk h.bef (by decide) (by decide), h.bel.trans hb, h.kb.trans (hk.kb a)⟩
theorem PrI.set (h : PrI g B a ns W0 l x W) (hga : g ≤ a) (hB : B ≤ a) (y : Value) : PrI g B a ns W0 l y (W.setCell ⟨a, 0, none⟩ y) :=
  ⟨h.st.set h.bef (by decide) (by decide) hB y, by have := h.bef.set 0 y; simpa using this, h.bel.setCell (p := ⟨a, 0, none⟩) hga y, h.kb.set 0 y⟩
theorem PrI.begin {f : Bool} (h : PrI g B a ns W0 l x W) (hs : PrSt g B ns (l ++ [ledBy f]) W2) (ha : Blk W2 a 9 #[.string ⟨#[]⟩]) (hb : Below g W W2) (hk : KB a W W2) : PrI g B a ns W0 (l ++ [ledBy f]) (.string ⟨#[]⟩) W2 :=
  ⟨hs, ha, h.bel.trans hb, h.kb.trans hk⟩
/-- A block that lay there keeps its cells, unless it is the printer's or block a. -/
theorem PrI.blk (h : PrI g B a ns W0 l x W) {b : Nat} {T : TypeId} {cs : Array Value} (hb : Blk W0 b T cs) (hn : b ≠ a) (h1 : T ≠ 110) (h2 : T ≠ 78) : Blk W b T cs := h.kb.blk hb hn h1 h2
end
/-- put, with what holds. -/
def PutI (g B a : Nat) (ns : List (List UInt8)) (W0 : World) (l : List Lx.Tok) (x : Value) (its : List Item) (e : Ending) (w' : World) : Prop := e = .returned (.tuple #[]) ∧ PrI g B a ns W0 (l ++ its.map (Item.tok ns)) x w'
theorem lPutI (g B a : Nat) (ns : List (List UInt8)) (W0 : World) (l : List Lx.Tok) (x : Value) (its : List Item) (b : Nat) (W : World) (h : PrI g B a ns W0 l x W) (hb : Blk W b 20 (its.map Item.val).toArray) (hlen : l.length + its.length ≤ 1000) (hok : ∀ i ∈ its, i.ok ns) :
    Calls Tryd.prog 26 #[.pointer (some ⟨g, 0, none⟩), .slice (some ⟨b, 0, none⟩) its.length its.length] W (PutI g B a ns W0 l x its) :=
  (lPut g B ns its l b W h.st hb hlen hok).mono fun _ _ ⟨he, h1, h2, h3⟩ => ⟨he, h.put h1 h2 h3⟩
def PutK (g B a : Nat) (ns : List (List UInt8)) (W0 : World) (l : List Lx.Tok) (x : Value) (its : List Item) (W : World) (e : Ending) (w' : World) : Prop := e = .returned (.tuple #[]) ∧ PrI g B a ns W0 (l ++ its.map (Item.tok ns)) x w' ∧ KP W w'
theorem lPutKd (g B a n : Nat) (ns : List (List UInt8)) (W0 : World) (l : List Lx.Tok) (x : Value) (its : List Item) (W : World) (hn : its.length = n) (h : PrI g B a ns W0 l x W) (hlen : l.length + its.length ≤ 1000) (hok : ∀ i ∈ its, i.ok ns) :
    Calls Tryd.prog 26 #[.pointer (some ⟨g, 0, none⟩), .slice (some ⟨W.heap.size, 0, none⟩) n n] (W.alloc (.cells (its.map Item.val).toArray 20)).drew (PutK g B a ns W0 l x its W) := by
  subst hn
  exact (lPut g B ns its l W.heap.size _ ((h.alloc _).drew).st (Blk.drew (Blk.new _ _ _)) hlen hok).mono fun _ _ ⟨he, h1, h2, h3⟩ => ⟨he, ((h.alloc _).drew).put h1 h2 h3, (KP.below ((Below.refl _ _).alloc (Nat.le_refl _) _).drew).trans h3⟩
theorem lPutK1 (g B a : Nat) (ns : List (List UInt8)) (W0 : World) (l : List Lx.Tok) (x : Value) (it : Item) (W : World) (h : PrI g B a ns W0 l x W) (hlen : l.length + 1 ≤ 1000) (hok : it.ok ns) :
    Calls Tryd.prog 26 #[.pointer (some ⟨g, 0, none⟩), .slice (some ⟨W.heap.size, 0, none⟩) 1 1] (W.alloc (.cells #[it.val] 20)) (PutK g B a ns W0 l x [it] W) :=
  (lPut g B ns [it] l W.heap.size _ (h.alloc _).st (Blk.new _ _ _) (by simpa using hlen) (fun i hi => by rw [List.mem_singleton] at hi; subst hi; exact hok)).mono fun _ _ ⟨he, h1, h2, h3⟩ => ⟨he, (h.alloc _).put h1 h2 h3, (KP.below ((Below.refl _ _).alloc (Nat.le_refl _) _)).trans h3⟩
theorem lBeginK (g B a pb : Nat) (ns : List (List UInt8)) (W0 : World) (l : List Lx.Tok) (f : Bool) (W : World) (h : PrI g B a ns W0 l (ledW f) W) (hp : Blk W pb 76 #[.pointer (some ⟨g, 0, none⟩)]) (hl : l.length + 1 ≤ 1000) (hga : g ≤ a) :
    Calls Tryd.prog 27 #[.pointer (some ⟨a, 0, none⟩), .pointer (some ⟨pb, 0, none⟩)] W (fun e w' => e = .returned (.tuple #[]) ∧ PrI g B a ns W0 (l ++ [ledBy f]) (.string ⟨#[]⟩) w' ∧ KB a W w') :=
  (lBegin g B a pb ns l f W h.st h.bef hp hl hga).mono fun _ _ ⟨he, h1, h2, h3, h4⟩ => ⟨he, h.begin h1 h2 h3 h4, h4⟩
/-- put of one item that lies in a new block. -/
theorem lPut1 (g B a : Nat) (ns : List (List UInt8)) (W0 : World) (l : List Lx.Tok) (x : Value) (it : Item) (W : World) (h : PrI g B a ns W0 l x W) (hlen : l.length + 1 ≤ 1000) (hok : it.ok ns) :
    Calls Tryd.prog 26 #[.pointer (some ⟨g, 0, none⟩), .slice (some ⟨W.heap.size, 0, none⟩) 1 1] (W.alloc (.cells #[it.val] 20)) (PutI g B a ns W0 l x [it]) :=
  lPutI g B a ns W0 l x [it] W.heap.size _ (h.alloc _) (Blk.new _ _ _) (by simpa using hlen) (fun i hi => by rw [List.mem_singleton] at hi; subst hi; exact hok)
theorem lPut1d (g B a : Nat) (ns : List (List UInt8)) (W0 : World) (l : List Lx.Tok) (x : Value) (it : Item) (W : World) (h : PrI g B a ns W0 l x W) (hlen : l.length + 1 ≤ 1000) (hok : it.ok ns) :
    Calls Tryd.prog 26 #[.pointer (some ⟨g, 0, none⟩), .slice (some ⟨W.heap.size, 0, none⟩) 1 1] (W.alloc (.cells #[it.val] 20)).drew (PutI g B a ns W0 l x [it]) :=
  lPutI g B a ns W0 l x [it] W.heap.size _ (h.alloc _).drew (Blk.drew (Blk.new _ _ _)) (by simpa using hlen) (fun i hi => by rw [List.mem_singleton] at hi; subst hi; exact hok)
theorem lBeginI (g B a pb : Nat) (ns : List (List UInt8)) (W0 : World) (l : List Lx.Tok) (f : Bool) (W : World) (h : PrI g B a ns W0 l (ledW f) W) (hp : Blk W pb 76 #[.pointer (some ⟨g, 0, none⟩)]) (hl : l.length + 1 ≤ 1000) (hga : g ≤ a) :
    Calls Tryd.prog 27 #[.pointer (some ⟨a, 0, none⟩), .pointer (some ⟨pb, 0, none⟩)] W (fun e w' => e = .returned (.tuple #[]) ∧ PrI g B a ns W0 (l ++ [ledBy f]) (.string ⟨#[]⟩) w') :=
  (lBegin g B a pb ns l f W h.st h.bef hp hl hga).mono fun _ _ ⟨he, h1, h2, h3, h4⟩ => ⟨he, h.begin h1 h2 h3 h4⟩
end Go.Proofs.YtjonaidancomgaaDoor

namespace Go.Proofs.YtjonaidancomgaaDoor
open Go.RowKit Go.Maps Go.WideMaps

/-- How a row of signs reads. -/
def opD (b n : Nat) : DataW Unit := .agg [.lit (.int .i64 (b : Int)), .lit (.int .i64 (n : Int))]
def rowR (v : Value) : Option (DataW Unit × List MemPlace) := match v with
  | .slice (some ⟨b, 0, none⟩) n c => if c = n then some (opD b n, []) else none
  | .slice none 0 0 => some (.nil, [])
  | _ => none
theorem rowR_mk (b n : Nat) : rowR (.slice (some ⟨b, 0, none⟩) n n) = some (opD b n, []) := by simp [rowR]
theorem rowR_inv {v : Value} {b n : Nat} {ps : List MemPlace} (h : rowR v = some (opD b n, ps)) : v = .slice (some ⟨b, 0, none⟩) n n := by
  unfold rowR at h
  split at h
  · split at h
    · rename_i e
      subst e
      simp only [Option.some.injEq, Prod.mk.injEq, opD, DataW.agg.injEq, List.cons.injEq, DataW.lit.injEq, Lit.int.injEq, true_and, and_true] at h
      obtain ⟨⟨h1, h2⟩, _⟩ := h
      have e1 : b = _ := (Int.ofNat.inj h1).symm
      have e2 : n = _ := (Int.ofNat.inj h2).symm
      subst e1; subst e2
      rfl
    · cases h
  · simp [opD] at h
  · cases h
theorem wpList_insert_own {H : Type} {P : Program} (w : World) {ops : Array Oper} {rest : List Oper} {o : Oper} {a : Act} {Q : Exit → Act → World → Prop}
    (hg : o.guard = none) (m x v : Operand) (t : TypeId) (hop : o.op = Op.insert t m x v)
    (k e : TypeId) (K : Keyed P k) (ht : P.underlying t = some (.map k e)) (R : Value → Option (DataW H × List MemPlace)) (b n : Nat) (D : DataW H)
    (hm : a.eval m = .map (some b)) (hown : w.ownsMap P k R b n D) (hn : n < maxLen) (key val : Value) (kl : Lit) (hx : a.eval x = key) (hv : a.eval v = val) (hkey : keyOf P k key = some kl)
    (d : DataW H) (ps : List MemPlace) (hval : R val = some (d, ps))
    (hK : ∀ w', w'.ownsMap P k R b (n + 1) (D.put kl d) → w.grownBy w' (some b) → wpList P ops Q rest (a.put o.dst undef) w') :
    wpList P ops Q (o :: rest) a w := by
  refine wpList_plain hg fun K' hK' => ?_
  obtain ⟨w', hrun, r1, r2⟩ := hown.update K ht hn hkey hval
  unfold Oper.wp
  simp [execOp, hop, hm, hx, hv, hrun, Result.andThen]
  exact hK' _ _ (hK w' r1 r2)
/-- The signs of a test. -/
def sgsOf (o : Int) : List (List UInt8) := if o = -2 then [[60]] else if o = -1 then [[60], [61]] else if o = 0 then [[61]] else [[33], [61]]
theorem sgsOf_toks (o : Int) : (sgsOf o).map (fun t => (⟨3, t, 0, 0⟩ : Lx.Tok)) = Qy.operT o := by
  unfold sgsOf Qy.operT
  split
  · rfl
  · split
    · rfl
    · split <;> rfl
def opMap (b1 b2 b3 b4 : Nat) : DataW Unit := ((((DataW.map []).put (.int .i64 (-2)) (opD b1 1)).put (.int .i64 (-1)) (opD b2 2)).put (.int .i64 0) (opD b3 1)).put (.int .i64 1) (opD b4 2)
theorem opMap_at (b1 b2 b3 b4 : Nat) (o : Int) (h1 : -2 ≤ o) (h2 : o ≤ 1) : ∃ b, (b = if o = -2 then b1 else if o = -1 then b2 else if o = 0 then b3 else b4) ∧ (opMap b1 b2 b3 b4).atKey (.int .i64 o) .nil = opD b (sgsOf o).length := by
  have hk : ∀ i : Int, WideAt.IsKeyLit (.int .i64 i) := fun _ => trivial
  have m0 : IsMap (DataW.map [] : DataW Unit) := isMap_empty
  rcases (by omega : o = -2 ∨ o = -1 ∨ o = 0 ∨ o = 1) with rfl | rfl | rfl | rfl
  · refine ⟨b1, by simp, ?_⟩
    unfold opMap
    rw [atKey_put_other (by intro h; injection h with _ h; exact absurd h (by decide)), atKey_put_other (by intro h; injection h with _ h; exact absurd h (by decide)), atKey_put_other (by intro h; injection h with _ h; exact absurd h (by decide)), atKey_put_same m0 (hk _)]
    rfl
  · refine ⟨b2, by simp, ?_⟩
    unfold opMap
    rw [atKey_put_other (by intro h; injection h with _ h; exact absurd h (by decide)), atKey_put_other (by intro h; injection h with _ h; exact absurd h (by decide)), atKey_put_same (m0.put _ _) (hk _)]
    rfl
  · refine ⟨b3, by simp, ?_⟩
    unfold opMap
    rw [atKey_put_other (by intro h; injection h with _ h; exact absurd h (by decide)), atKey_put_same ((m0.put _ _).put _ _) (hk _)]
    rfl
  · refine ⟨b4, by simp, ?_⟩
    unfold opMap
    rw [atKey_put_same (((m0.put _ _).put _ _).put _ _) (hk _)]
    rfl
theorem zeroRow (w : World) : (zeroValue 81).run Tryd.prog w = .ok (.slice none 0 0) w := by kernel_rfl
/-- What is found in the map of the signs. -/
theorem ops_look {w : World} {m b1 b2 b3 b4 : Nat} (h : w.ownsMap Tryd.prog 3 rowR m 4 (opMap b1 b2 b3 b4)) (o : Int) (h1 : -2 ≤ o) (h2 : o ≤ 1) :
    ∃ b, (b = if o = -2 then b1 else if o = -1 then b2 else if o = 0 then b3 else b4) ∧ (Instr.lookup 82 (.map (some m)) (.int .i64 o) false).run Tryd.prog w = .ok (.slice (some ⟨b, 0, none⟩) (sgsOf o).length (sgsOf o).length) w := by
  obtain ⟨b, hb, hat⟩ := opMap_at b1 b2 b3 b4 o h1 h2
  obtain ⟨v, ps, hrun, hv⟩ := h.lookup (int_keyed Tryd.underlying3) Tryd.underlying82 (zeroRow w) (zd := .nil) (zp := []) rfl (keyOf_int_mk Tryd.underlying3 (WalkArith.wf_i64 (n := o) (by omega)))
  rw [hat] at hv
  rw [rowR_inv hv] at hrun
  exact ⟨b, hb, hrun⟩
theorem sgsOf_row {w : World} {b1 b2 b3 b4 : Nat} (r1 : Blk w b1 80 #[.string ⟨#[60]⟩]) (r2 : Blk w b2 80 #[.string ⟨#[60]⟩, .string ⟨#[61]⟩]) (r3 : Blk w b3 80 #[.string ⟨#[61]⟩]) (r4 : Blk w b4 80 #[.string ⟨#[33]⟩, .string ⟨#[61]⟩]) (o : Int) :
    Blk w (if o = -2 then b1 else if o = -1 then b2 else if o = 0 then b3 else b4) 80 ((sgsOf o).map fun t => Value.string (Lx.bs t)).toArray := by
  unfold sgsOf
  split
  · exact r1
  · split
    · exact r2
    · split
      · exact r3
      · exact r4
theorem ops_made {w3 x1 x2 x3 x4 : World} (g1 : ((w3.alloc (.map #[] 0)).alloc (.cells #[.string ⟨#[60]⟩] 80)).grownBy x1 (some w3.heap.size)) (g2 : (x1.alloc (.cells #[.string ⟨#[60]⟩, .string ⟨#[61]⟩] 80)).grownBy x2 (some w3.heap.size))
    (g3 : (x2.alloc (.cells #[.string ⟨#[61]⟩] 80)).grownBy x3 (some w3.heap.size)) (g4 : (x3.alloc (.cells #[.string ⟨#[33]⟩, .string ⟨#[61]⟩] 80)).grownBy x4 (some w3.heap.size))
    {D : DataW Unit} (o4 : x4.ownsMap Tryd.prog 3 rowR w3.heap.size 4 D) (hD : D = opMap (w3.heap.size + 1) x1.heap.size x2.heap.size x3.heap.size) (o : Int) (h1 : -2 ≤ o) (h2 : o ≤ 1) :
    ∃ bi, (Instr.lookup 82 (.map (some w3.heap.size)) (.int .i64 o) false).run Tryd.prog x4 = .ok (.slice (some ⟨bi, 0, none⟩) (sgsOf o).length (sgsOf o).length) x4 ∧ Blk x4 bi 80 ((sgsOf o).map fun t => Value.string (Lx.bs t)).toArray ∧ Below w3.heap.size w3 x4 := by
  subst hD
  have r1 := (Blk.new_at (t := 80) (cs := #[.string ⟨#[60]⟩]) (w3.alloc (.map #[] 0)) (w3.heap.size + 1) (by simp)).grown g1 (by simp)
  have v1 : Below w3.heap.size w3 x1 := Below.grown (((Below.refl _ _).alloc (Nat.le_refl _) _).alloc (by simp) _) g1 (by simp; omega) (fun k e => by injection e with e; omega)
  have z1 := v1.size
  have y1 : w3.heap.size + 2 ≤ x1.heap.size := by have := g1.size; simp at this; omega
  replace r1 := (r1.alloc (.cells #[.string ⟨#[60]⟩, .string ⟨#[61]⟩] 80)).grown g2 (by simp)
  have r2 := (Blk.new x1 80 #[.string ⟨#[60]⟩, .string ⟨#[61]⟩]).grown g2 (by simp; omega)
  have v2 : Below w3.heap.size w3 x2 := Below.grown (v1.alloc z1 _) g2 (by simp; omega) (fun k e => by injection e with e; omega)
  have z2 := v2.size
  have y2 : x1.heap.size + 1 ≤ x2.heap.size := by have := g2.size; simp at this; omega
  replace r1 := (r1.alloc (.cells #[.string ⟨#[61]⟩] 80)).grown g3 (by simp)
  replace r2 := (r2.alloc (.cells #[.string ⟨#[61]⟩] 80)).grown g3 (by simp; omega)
  have r3 := (Blk.new x2 80 #[.string ⟨#[61]⟩]).grown g3 (by simp; omega)
  have v3 : Below w3.heap.size w3 x3 := Below.grown (v2.alloc z2 _) g3 (by simp; omega) (fun k e => by injection e with e; omega)
  have z3' := v3.size
  have y3 : x2.heap.size + 1 ≤ x3.heap.size := by have := g3.size; simp at this; omega
  replace r1 := (r1.alloc (.cells #[.string ⟨#[33]⟩, .string ⟨#[61]⟩] 80)).grown g4 (by simp)
  replace r2 := (r2.alloc (.cells #[.string ⟨#[33]⟩, .string ⟨#[61]⟩] 80)).grown g4 (by simp; omega)
  replace r3 := (r3.alloc (.cells #[.string ⟨#[33]⟩, .string ⟨#[61]⟩] 80)).grown g4 (by simp; omega)
  have r4 := (Blk.new x3 80 #[.string ⟨#[33]⟩, .string ⟨#[61]⟩]).grown g4 (by simp; omega)
  have v4 : Below w3.heap.size w3 x4 := Below.grown (v3.alloc z3' _) g4 (by simp; omega) (fun k e => by injection e with e; omega)
  have z4 := v4.size
  obtain ⟨bi, hbi, hlook⟩ := ops_look o4 o h1 h2
  have hrow := sgsOf_row r1 r2 r3 r4 o
  rw [← hbi] at hrow
  exact ⟨bi, hlook, hrow, v4⟩
theorem sgsOf_len (o : Int) : (sgsOf o).length ≤ 2 := by
  unfold sgsOf
  split
  · simp
  · split
    · simp
    · split <;> simp
end Go.Proofs.YtjonaidancomgaaDoor

namespace Go.Proofs.YtjonaidancomgaaDoor.Qy
open Lx

theorem sepT_mem {t : Lx.Tok} : ∀ {l : List (List Lx.Tok)}, t ∈ sepT l → t = sgT 44 ∨ ∃ x ∈ l, t ∈ x
  | [], h => by simp [sepT] at h
  | [a], h => .inr ⟨a, by simp, h⟩
  | a :: b :: r, h => by
    have h' : t ∈ a ++ sgT 44 :: sepT (b :: r) := h
    rcases List.mem_append.1 h' with h1 | h1
    · exact .inr ⟨a, by simp, h1⟩
    · rcases List.mem_cons.1 h1 with h2 | h2
      · exact .inl h2
      · rcases sepT_mem h2 with h3 | ⟨x, h3, h4⟩
        · exact .inl h3
        · exact .inr ⟨x, List.mem_cons_of_mem _ h3, h4⟩
theorem nameT_valid {t : List UInt8} (h : isName t = true) : Lx.valid (nameT t) = true := by simp [Lx.valid, nameT, h]
theorem numT_valid {n : Int} (h0 : 0 ≤ n) (h1 : n ≤ 1099511627776) : Lx.valid (numT n) = true := by simp [Lx.valid, numT, h0, h1]
theorem sgT_valid {c : UInt8} (h : sign c = true) : Lx.valid (sgT c) = true := by simp [Lx.valid, sgT, h]
theorem kindWords_names : ∀ t ∈ kindWords, isName t = true := by decide
theorem order_mem {top : Int} {l : List Int} {n : Int} : ∀ {k m : Int}, order top k l = some m → n ∈ l → 0 ≤ n ∧ n < top := by
  induction l with
  | nil => intro k m _ h; simp at h
  | cons x r ih =>
    intro k m h hn
    have h' : (if x < 0 ∨ k < x ∨ top ≤ x then none else order top (if x = k then k + 1 else k) r) = some m := h
    split at h'
    · cases h'
    · rename_i hx
      rcases List.mem_cons.1 hn with rfl | hn
      · omega
      · exact ih h' hn
theorem argT_valid {q : Query} (h : Valid q) {a : Arg} (ha : a ∈ allArgs q.atoms q.tests) : Lx.valid (argT q.names a) = true := by
  unfold argT
  cases hv : a.var with
  | true =>
    simp only [if_true]
    have hin : 0 ≤ a.n ∧ a.n < (q.names.length : Int) := by
      have hm : a.n ∈ allVars q.shown (allArgs q.atoms q.tests) := by
        unfold allVars
        exact List.mem_append_right _ (List.mem_flatMap.2 ⟨a, ha, by unfold Arg.vars; rw [if_pos hv]; simp⟩)
      exact order_mem h.order hm
    obtain ⟨z, hz⟩ := Int.eq_ofNat_of_zero_le hin.1
    rw [hz, show ((z : Nat) : Int).toNat = z from rfl, List.getD_eq_getElem?_getD, List.getElem?_eq_getElem (by omega)]
    exact nameT_valid (h.names _ (List.getElem_mem _)).1
  | false =>
    simp only [Bool.false_eq_true, if_false]
    obtain ⟨h1, h2⟩ := h.args a ha hv
    exact numT_valid h1 h2
theorem toksT_valid {q : Query} (h : Valid q) : ∀ t ∈ toksT q, Lx.valid t = true := by
  intro t ht
  have sg : ∀ c : UInt8, c = 44 ∨ c = 59 ∨ c = 40 ∨ c = 41 ∨ c = 61 ∨ c = 60 ∨ c = 33 → Lx.valid (sgT c) = true := fun c hc => by
    rcases hc with rfl | rfl | rfl | rfl | rfl | rfl | rfl <;> decide
  unfold toksT at ht
  simp only [List.cons_append, List.mem_cons, List.mem_append, List.append_assoc] at ht
  rcases ht with rfl | ht | rfl | ht | rfl | ht
  · decide
  · rcases sepT_mem ht with rfl | ⟨x, hx, htx⟩
    · exact sg _ (by simp)
    · obtain ⟨n, hn, rfl⟩ := List.mem_map.1 hx
      rw [List.mem_singleton] at htx
      subst htx
      by_cases hlt : n.toNat < q.names.length
      · rw [List.getD_eq_getElem?_getD, List.getElem?_eq_getElem hlt]
        exact nameT_valid (h.names _ (List.getElem_mem _)).1
      · exfalso
        have ho := h.order
        have hm : n ∈ allVars q.shown (allArgs q.atoms q.tests) := by unfold allVars; exact List.mem_append_left _ hn
        have := order_mem ho hm
        omega
  · decide
  · rcases sepT_mem ht with rfl | ⟨x, hx, htx⟩
    · exact sg _ (by simp)
    · rcases List.mem_append.1 hx with hx | hx
      · obtain ⟨a, ha, rfl⟩ := List.mem_map.1 hx
        obtain ⟨⟨k1, k2⟩, ⟨t1, t2⟩, ⟨n1, n2⟩⟩ := h.atoms a ha
        have hmem : ∀ y, y = a.subj ∨ y = a.obj ∨ y = a.val → y ∈ allArgs q.atoms q.tests := fun y hy => by
          unfold allArgs
          refine List.mem_append_left _ (List.mem_flatMap.2 ⟨a, ha, ?_⟩)
          unfold aArgs
          rcases hy with rfl | rfl | rfl <;> simp
        unfold atomT at htx
        simp only [List.mem_cons, List.not_mem_nil, or_false] at htx
        rcases htx with rfl | rfl | rfl | rfl | rfl | rfl | rfl | rfl | rfl | rfl | rfl | rfl
        · unfold kindT
          refine nameT_valid (kindWords_names _ ?_)
          rw [List.getD_eq_getElem?_getD, List.getElem?_eq_getElem (show (a.kind - 1).toNat < kindWords.length by show (a.kind - 1).toNat < 12; omega)]
          exact List.getElem_mem _
        · exact sg _ (by simp)
        · exact argT_valid h (hmem _ (.inl rfl))
        · exact sg _ (by simp)
        · exact argT_valid h (hmem _ (.inr (.inl rfl)))
        · exact sg _ (by simp)
        · exact sg _ (by simp)
        · exact argT_valid h (hmem _ (.inr (.inr rfl)))
        · decide
        · exact numT_valid t1 (by omega)
        · decide
        · exact numT_valid n1 (by omega)
      · obtain ⟨a, ha, rfl⟩ := List.mem_map.1 hx
        have hmem : ∀ y, y = a.a ∨ y = a.b → y ∈ allArgs q.atoms q.tests := fun y hy => by
          unfold allArgs
          refine List.mem_append_right _ (List.mem_flatMap.2 ⟨a, ha, ?_⟩)
          unfold tArgs
          rcases hy with rfl | rfl <;> simp
        unfold testT at htx
        rw [List.cons_append, List.mem_cons, List.mem_append, List.mem_singleton] at htx
        rcases htx with rfl | htx | rfl
        · exact argT_valid h (hmem _ (.inl rfl))
        · unfold operT at htx
          split at htx
          · simp at htx; subst htx; exact sg _ (by simp)
          · split at htx
            · simp at htx; rcases htx with rfl | rfl <;> exact sg _ (by simp)
            · split at htx
              · simp at htx; subst htx; exact sg _ (by simp)
              · simp at htx; rcases htx with rfl | rfl <;> exact sg _ (by simp)
        · exact argT_valid h (hmem _ (.inr rfl))
  · exact sg _ (by simp)
  · simp at ht
theorem valid_len {t : Lx.Tok} (h : Lx.valid t = true) : t.text.length ≤ 32 := by
  unfold Lx.valid at h
  split at h
  · simp only [Bool.and_eq_true] at h
    have h1 := h.1
    unfold isName at h1
    split at h1
    · cases h1
    · simp only [Bool.and_eq_true, decide_eq_true_eq] at h1
      omega
  · split at h
    · simp only [Bool.and_eq_true, List.isEmpty_iff] at h
      rw [h.1.1]; simp
    · split at h
      · simp only [Bool.and_eq_true] at h
        have h1 := h.1
        split at h1
        · rename_i e; rw [e]; simp
        · cases h1
      · cases h
end Go.Proofs.YtjonaidancomgaaDoor.Qy
