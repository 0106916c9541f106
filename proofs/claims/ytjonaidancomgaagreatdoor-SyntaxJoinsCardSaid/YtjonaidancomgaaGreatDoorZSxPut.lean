/- Parts of the proof, joined into one text: SxPut, LxTake, SxJoin. -/
import Derived.Test.YtjonaidancomgaaGreatDoorZSxSame
import Derived.Test.YtjonaidancomgaaGreatDoorZSxParC
import Derived.Deep.AppendLies
import Derived.Deep.RegionWith
import Derived.StillTailTactics
import Derived.Test.YtjonaidancomgaaGreatDoorZLxL
import Derived.Test.YtjonaidancomgaaGreatDoorZSxExt

namespace Go.Proofs.YtjonaidancomgaaGreatDoor
open Go.RowKit

/-- The printer (block g): the tokens so far. -/
def PrSt (g : Nat) (l : List Lx.Tok) (w : World) : Prop := ∃ vT, Blk w g 110 #[vT] ∧ w.ownsRow g 55 4 vT l.length (l.flatMap Lx.Tok.cells)
/-- All blocks but those of tokens and the printer's are as they were. -/
structure KP (w w' : World) : Prop where
  size : w.heap.size ≤ w'.heap.size
  keep : ∀ (k : Nat) (o : Obj), w.heap[k]? = some o → (∀ cs t fr, o = .cells cs t fr → t ≠ 55 ∧ t ≠ 110) → w'.heap[k]? = some o
theorem KP.refl (w : World) : KP w w := ⟨Nat.le_refl _, fun _ _ h _ => h⟩
theorem KP.trans {a b c : World} (h : KP a b) (k : KP b c) : KP a c := ⟨Nat.le_trans h.size k.size, fun i o hi ho => k.keep i o (h.keep i o hi ho) ho⟩
theorem KP.below {w w' : World} (h : Below w.heap.size w w') : KP w w' := ⟨h.size, fun k _ hk _ => (h.block k (Array.getElem?_eq_some_iff.1 hk).1).trans hk⟩
theorem KP.blk {w w' : World} (h : KP w w') {b : Nat} {t : TypeId} {cs : Array Value} (hb : Blk w b t cs) (h1 : t ≠ 55) (h2 : t ≠ 110) : Blk w' b t cs :=
  h.keep b _ hb (fun _ _ _ e => by injection e with _ e _; subst e; exact ⟨h1, h2⟩)
theorem KP.set {w w' : World} (h : KP w w') {b i : Nat} (hb : w.heap.size ≤ b) (u : Value) : KP w (w'.setCell ⟨b, i, none⟩ u) :=
  ⟨by simpa [World.setCell] using h.size, fun k o hk ho => (Below.heap_setCell w' ⟨b, i, none⟩ u k (fun e => by have := (Array.getElem?_eq_some_iff.1 hk).1; have e : k = b := e; omega)).trans (h.keep k o hk ho)⟩
theorem PrSt.lt {g : Nat} {l : List Lx.Tok} {w : World} (h : PrSt g l w) : g < w.heap.size := by
  obtain ⟨vT, h1, _⟩ := h
  exact h1.lt
theorem PrSt.next {g : Nat} {l : List Lx.Tok} {w w' : World} (h : PrSt g l w) (hb : Below w.heap.size w w') : PrSt g l w' := by
  obtain ⟨vT, h1, h3⟩ := h
  exact ⟨vT, h1.below hb h1.lt, own_below h3 hb⟩
/-- A token has been added. -/
theorem pr_grow {g gg cap : Nat} {vT : Value} {l : List Lx.Tok} {x : Lx.Tok} {w w1 w3 : World} (hb : Blk w g 110 #[vT])
    (hown : w.ownsRow g 55 4 vT l.length (l.flatMap Lx.Tok.cells)) (h1 : Below w.heap.size w w1) (hgrow : w1.grownBy w3 vT.ownBlock)
    (hown3 : w3.ownsRow g 55 4 (.slice (some ⟨gg, 0, none⟩) (l.length + 1) cap) (l.length + 1) (l.flatMap Lx.Tok.cells ++ x.cells)) :
    Blk w3 g 110 #[vT] ∧ PrSt g (l ++ [x]) (w3.setCell ⟨g, 0, none⟩ (.slice (some ⟨gg, 0, none⟩) (l.length + 1) cap)) ∧
    Below g w (w3.setCell ⟨g, 0, none⟩ (.slice (some ⟨gg, 0, none⟩) (l.length + 1) cap)) ∧ KP w (w3.setCell ⟨g, 0, none⟩ (.slice (some ⟨gg, 0, none⟩) (l.length + 1) cap)) := by
  have hlt := hb.lt
  have hne := own_ne hown hb (by decide)
  have hb1 := hb.below h1 hlt
  have hb3 : Blk w3 g 110 #[vT] := (hgrow.block g hb1.lt (fun e => hne e.symm)).trans hb1
  have hbel : Below g w w3 := Below.grown (h1.mono (by omega)) hgrow (by have := h1.size; omega) (fun k hk => own_ge hown hk)
  refine ⟨hb3, ⟨_, by have := hb3.set 0 (.slice (some ⟨gg, 0, none⟩) (l.length + 1) cap); simpa using this, ?_⟩, hbel.setCell (p := ⟨g, 0, none⟩) (Nat.le_refl _) _, ?_⟩
  · rw [List.length_append, List.flatMap_append]
    have : [x].flatMap Lx.Tok.cells = x.cells := by simp
    rw [this]
    exact own_setCell_far hown3 (own_ne hown3 hb3 (by decide)) _
  · refine ⟨by have := h1.size; have := hgrow.size; simp [World.setCell]; omega, fun k o hk ho => ?_⟩
    have hkl := (Array.getElem?_eq_some_iff.1 hk).1
    have hk1 := (h1.block k hkl).trans hk
    have hgk : k ≠ g := fun e => by
      subst e
      unfold Blk at hb
      rw [hk] at hb
      injection hb with hb
      exact (ho _ _ _ hb).2 rfl
    rw [Below.heap_setCell w3 ⟨g, 0, none⟩ _ k hgk]
    refine (hgrow.block k (Array.getElem?_eq_some_iff.1 hk1).1 (fun e => ?_)).trans hk1
    rcases hown.2 with ⟨rfl, _⟩ | ⟨g', cap', cur', rfl, _, hh', _⟩
    · simp [Value.ownBlock] at e
    · have : k = g' := by simpa [Value.ownBlock] using e
      subst this
      rw [hk] at hh'
      injection hh' with hh'
      exact (ho _ _ _ hh').1 rfl

/-- What a method of the printer does: it adds tokens. -/
def TPost (g : Nat) (l ts : List Lx.Tok) (w : World) (e : Ending) (w' : World) : Prop :=
  e = .returned (.tuple #[]) ∧ PrSt g (l ++ ts) w' ∧ Below g w w' ∧ KP w w'

/-- What put is handed. -/
inductive PrIt where
  | name (t : List UInt8)
  | sign (t : List UInt8)
  | num (n : Int)
  | ratio (r : Sx.Ratio)
  | rule (r : Sx.Rule) (cs : List Value)
def PrIt.val : PrIt → Value
  | .name t => .iface 9 (.string (Lx.bs t))
  | .sign t => .iface 114 (.string (Lx.bs t))
  | .num n => .iface 3 (.int .i64 n)
  | .ratio r => .iface 75 (.agg #[.int .i64 r.num, .int .i64 r.den])
  | .rule _ cs => .iface 38 (.agg cs.toArray)
def PrIt.toks : PrIt → List Lx.Tok
  | .name t => [⟨1, t, 0, 0⟩]
  | .sign t => [⟨3, t, 0, 0⟩]
  | .num n => [⟨2, [], n, 0⟩]
  | .ratio r => Sx.ratioT r
  | .rule r _ => Sx.ruleT r
def PrIt.flat : PrIt → Prop
  | .ratio _ => False
  | .rule _ _ => False
  | _ => True
theorem under_printer : Tryz.prog.underlying 110 = some (.slice 55) := by kernel_rfl
-- the assertions of put's switch
theorem as_str (x : ByteArray) (w : World) : (Instr.typeAssert (.iface 9 (.string x)) 20 9 true).run Tryz.prog w = .ok (.tuple #[.string x, .bool true]) w := by kernel_rfl
theorem as_str_sg (x : ByteArray) (w : World) : (Instr.typeAssert (.iface 114 (.string x)) 20 9 true).run Tryz.prog w = .ok (.tuple #[.string ⟨#[]⟩, .bool false]) w := by kernel_rfl
theorem as_str_int (x : Int) (w : World) : (Instr.typeAssert (.iface 3 (.int .i64 x)) 20 9 true).run Tryz.prog w = .ok (.tuple #[.string ⟨#[]⟩, .bool false]) w := by kernel_rfl
theorem as_str_rat (v : Value) (w : World) : (Instr.typeAssert (.iface 75 v) 20 9 true).run Tryz.prog w = .ok (.tuple #[.string ⟨#[]⟩, .bool false]) w := by kernel_rfl
theorem as_str_rul (v : Value) (w : World) : (Instr.typeAssert (.iface 38 v) 20 9 true).run Tryz.prog w = .ok (.tuple #[.string ⟨#[]⟩, .bool false]) w := by kernel_rfl
theorem as_sg (x : ByteArray) (w : World) : (Instr.typeAssert (.iface 114 (.string x)) 20 114 true).run Tryz.prog w = .ok (.tuple #[.string x, .bool true]) w := by kernel_rfl
theorem as_sg_int (x : Int) (w : World) : (Instr.typeAssert (.iface 3 (.int .i64 x)) 20 114 true).run Tryz.prog w = .ok (.tuple #[.string ⟨#[]⟩, .bool false]) w := by kernel_rfl
theorem as_sg_rat (v : Value) (w : World) : (Instr.typeAssert (.iface 75 v) 20 114 true).run Tryz.prog w = .ok (.tuple #[.string ⟨#[]⟩, .bool false]) w := by kernel_rfl
theorem as_sg_rul (v : Value) (w : World) : (Instr.typeAssert (.iface 38 v) 20 114 true).run Tryz.prog w = .ok (.tuple #[.string ⟨#[]⟩, .bool false]) w := by kernel_rfl
theorem as_int (x : Int) (w : World) : (Instr.typeAssert (.iface 3 (.int .i64 x)) 20 3 true).run Tryz.prog w = .ok (.tuple #[.int .i64 x, .bool true]) w := by kernel_rfl
theorem as_int_rat (v : Value) (w : World) : (Instr.typeAssert (.iface 75 v) 20 3 true).run Tryz.prog w = .ok (.tuple #[.int .i64 0, .bool false]) w := by kernel_rfl
theorem as_int_rul (v : Value) (w : World) : (Instr.typeAssert (.iface 38 v) 20 3 true).run Tryz.prog w = .ok (.tuple #[.int .i64 0, .bool false]) w := by kernel_rfl
theorem as_rat (v : Value) (w : World) : (Instr.typeAssert (.iface 75 v) 20 75 true).run Tryz.prog w = .ok (.tuple #[v, .bool true]) w := by kernel_rfl
theorem as_rat_rul (v : Value) (w : World) : (Instr.typeAssert (.iface 38 v) 20 75 true).run Tryz.prog w = .ok (.tuple #[.agg #[.int .i64 0, .int .i64 0], .bool false]) w := by kernel_rfl
theorem as_rul (v : Value) (w : World) : (Instr.typeAssert (.iface 38 v) 20 38 true).run Tryz.prog w = .ok (.tuple #[v, .bool true]) w := by kernel_rfl

/-- put serves flat items. -/
def PutFlat (g : Nat) : Prop := ∀ (its : List PrIt) (l : List Lx.Tok) (b : Nat) (W : World), (∀ j ∈ its, j.flat) → PrSt g l W → Blk W b 20 (its.map PrIt.val).toArray → its.length ≤ 100 → l.length + (its.flatMap PrIt.toks).length ≤ 60000 →
  Calls Tryz.prog 50 #[.pointer (some ⟨g, 0, none⟩), .slice (some ⟨b, 0, none⟩) its.length its.length] W (TPost g l (its.flatMap PrIt.toks) W)
/-- What rule does at a rule's six cells. -/
def RuleSays (g : Nat) (w : World) (r : Sx.Rule) (cs : List Value) : Prop := (∃ v0 v1 v2 v3 v4 A n c, cs = [.int .i64 v0, .int .i64 v1, .string v2, .int .i64 v3, .int .i64 v4, .slice A n c]) ∧
  ∀ (l : List Lx.Tok) (W : World), PrSt g l W → Below g w W → l.length + (Sx.ruleT r).length ≤ 60000 → Calls Tryz.prog 58 #[.pointer (some ⟨g, 0, none⟩), .agg cs.toArray] W (TPost g l (Sx.ruleT r) W)

set_option maxRecDepth 20000 in
set_option maxHeartbeats 4000000 in
theorem lPutG (g : Nat) (its : List PrIt) (l : List Lx.Tok) (b : Nat) (w : World) (h : PrSt g l w) (hb : Blk w b 20 (its.map PrIt.val).toArray) (hn1 : its.length ≤ 100) (hlen : l.length + (its.flatMap PrIt.toks).length ≤ 60000)
    (hrec : (∃ r, PrIt.ratio r ∈ its) → PutFlat g) (hrul : ∀ r cs, PrIt.rule r cs ∈ its → RuleSays g w r cs) :
    Calls Tryz.prog 50 #[.pointer (some ⟨g, 0, none⟩), .slice (some ⟨b, 0, none⟩) its.length its.length] w (TPost g l (its.flatMap PrIt.toks) w) := by
  obtain ⟨i0, hi0, hz0, hz1, hz2⟩ := info_parts Tryz.infoTok
  obtain ⟨n, hn⟩ : ∃ n, n = its.length := ⟨_, rfl⟩
  rw [← hn] at hn1 ⊢
  have Hn := Lib.hid hn; have H := Lib.hid h; have Hb := Lib.hid hb; have Hrec := Lib.hid hrec; have Hrul := Lib.hid hrul; have Hlen := Lib.hid hlen
  have hglt := h.lt
  clear hn h hb hrec hrul hlen
  go_enter Tryz.func50, Tryz.ntmps50
  go_wp2_with fail
  go_loopw [13] (fun v13 wr => ∃ k : Nat, k ≤ n ∧ v13 = .int .i64 k ∧ PrSt g (l ++ (its.take k).flatMap PrIt.toks) wr ∧ Below g w wr ∧ KP w wr) (fun v13 _ => n - (intOf v13).toNat)
  case atStart => exact ⟨0, by omega, rfl, by simpa using H.out, Below.refl _ _, KP.refl _⟩
  case round =>
    obtain ⟨k, hk, rfl, hS, hbel, hkp⟩ := hrel
    by_cases hlt : k < n
    · obtain ⟨x, hx⟩ : ∃ x, its[k]? = some x := ⟨_, List.getElem?_eq_getElem (by have := Hn.out; omega)⟩
      have hbr := hkp.blk Hb.out (by decide) (by decide)
      have c0 := hbr.cell k
      rw [List.getElem?_toArray, List.getElem?_map, hx] at c0
      simp only [Option.map_some] at c0
      obtain ⟨L, hL⟩ : ∃ L, L = l ++ (its.take k).flatMap PrIt.toks := ⟨_, rfl⟩
      have hLn : l ++ (its.take (k + 1)).flatMap PrIt.toks = L ++ x.toks := by
        rw [List.take_add_one, hx, List.flatMap_append, ← List.append_assoc, ← hL]; simp
      have hLl : L.length + x.toks.length ≤ 60000 := by
        have e : its.flatMap PrIt.toks = (its.take (k + 1)).flatMap PrIt.toks ++ (its.drop (k + 1)).flatMap PrIt.toks := by rw [← List.flatMap_append, List.take_append_drop]
        have h1 := congrArg List.length hLn
        have h2 := Hlen.out
        rw [e] at h2
        simp only [List.length_append] at h1 h2
        omega
      rw [← hL] at hS
      have hszr := hbel.size
      have Hx := Lib.hid hx; have HLn := Lib.hid hLn; have HS := Lib.hid hS; have Hbel := Lib.hid hbel; have Hkp := Lib.hid hkp
      obtain ⟨vT, hp, hown⟩ := hS
      have p0 := hp.cell 0; have pf0 := hp.free 0
      have hgr := hp.lt
      simp at p0
      have Hp := Lib.hid hp; have Hown := Lib.hid hown
      clear hL hLn hbel hkp hbr hx hp hown
      cases x with
      | name t =>
        have ha := as_str (Lx.bs t)
        simp only [PrIt.val] at c0
        simp only [PrIt.toks, List.length_singleton] at hLl
        go_wp2_with (at_builtin; refine wpList_append_lies _ rfl _ _ _ rfl g 55 i0 _ 4 40 under_printer hi0 hz0 hz1 hz2 rfl (by omega) _ L.length _ rfl ((Hown.out).alloc _) ⟨wr.heap.size, 0, none⟩ 1 1 [.int .i64 1, .string (Lx.bs t), .int .i64 0, .int .i64 0] rfl rfl (World.news_of_block (cs := #[.int .i64 1, .string (Lx.bs t), .int .i64 0, .int .i64 0]) (t := 55) (fr := (0, 0)) (heap_alloc_new wr _)) (by simp [Value.oneCell']) (by omega) (by unfold maxLen; omega) (by omega) (by simp; omega) (wr.heap.size + 1) (by simp) ?_; intro gg cap w3 hown3 hgrow3 hat3 hlt3; have hG := pr_grow (x := ⟨1, t, 0, 0⟩) Hp.out Hown.out ((Below.refl _ _).alloc (Nat.le_refl _) _) hgrow3 hown3; have d1 := hG.1.cell 0; have df1 := hG.1.free 0; simp at d1; have HG := Lib.hid hG.2; clear hG hown3 hgrow3 hat3)
        go_roundw
        case rel => exact ⟨k + 1, by omega, by go_num, by rw [HLn.out]; exact HG.out.1, Hbel.out.trans HG.out.2.1, Hkp.out.trans HG.out.2.2⟩
        case measure => simp [intOf]; omega
      | sign t =>
        have ha := as_str_sg (Lx.bs t)
        have ha2 := as_sg (Lx.bs t)
        simp only [PrIt.val] at c0
        simp only [PrIt.toks, List.length_singleton] at hLl
        go_wp2_with (at_builtin; refine wpList_append_lies _ rfl _ _ _ rfl g 55 i0 _ 4 40 under_printer hi0 hz0 hz1 hz2 rfl (by omega) _ L.length _ rfl ((Hown.out).alloc _) ⟨wr.heap.size, 0, none⟩ 1 1 [.int .i64 3, .string (Lx.bs t), .int .i64 0, .int .i64 0] rfl rfl (World.news_of_block (cs := #[.int .i64 3, .string (Lx.bs t), .int .i64 0, .int .i64 0]) (t := 55) (fr := (0, 0)) (heap_alloc_new wr _)) (by simp [Value.oneCell']) (by omega) (by unfold maxLen; omega) (by omega) (by simp; omega) (wr.heap.size + 1) (by simp) ?_; intro gg cap w3 hown3 hgrow3 hat3 hlt3; have hG := pr_grow (x := ⟨3, t, 0, 0⟩) Hp.out Hown.out ((Below.refl _ _).alloc (Nat.le_refl _) _) hgrow3 hown3; have d1 := hG.1.cell 0; have df1 := hG.1.free 0; simp at d1; have HG := Lib.hid hG.2; clear hG hown3 hgrow3 hat3)
        go_roundw
        case rel => exact ⟨k + 1, by omega, by go_num, by rw [HLn.out]; exact HG.out.1, Hbel.out.trans HG.out.2.1, Hkp.out.trans HG.out.2.2⟩
        case measure => simp [intOf]; omega
      | num z =>
        have ha := as_str_int z
        have ha2 := as_sg_int z
        have ha3 := as_int z
        simp only [PrIt.val] at c0
        simp only [PrIt.toks, List.length_singleton] at hLl
        go_wp2_with (at_builtin; refine wpList_append_lies _ rfl _ _ _ rfl g 55 i0 _ 4 40 under_printer hi0 hz0 hz1 hz2 rfl (by omega) _ L.length _ rfl ((Hown.out).alloc _) ⟨wr.heap.size, 0, none⟩ 1 1 [.int .i64 2, .string ⟨#[]⟩, .int .i64 z, .int .i64 0] rfl rfl (World.news_of_block (cs := #[.int .i64 2, .string ⟨#[]⟩, .int .i64 z, .int .i64 0]) (t := 55) (fr := (0, 0)) (heap_alloc_new wr _)) (by simp [Value.oneCell']) (by omega) (by unfold maxLen; omega) (by omega) (by simp; omega) (wr.heap.size + 1) (by simp) ?_; intro gg cap w3 hown3 hgrow3 hat3 hlt3; have hG := pr_grow (x := ⟨2, [], z, 0⟩) Hp.out Hown.out ((Below.refl _ _).alloc (Nat.le_refl _) _) hgrow3 hown3; have d1 := hG.1.cell 0; have df1 := hG.1.free 0; simp at d1; have HG := Lib.hid hG.2; clear hG hown3 hgrow3 hat3)
        go_roundw
        case rel => exact ⟨k + 1, by omega, by go_num, by rw [HLn.out]; exact HG.out.1, Hbel.out.trans HG.out.2.1, Hkp.out.trans HG.out.2.2⟩
        case measure => simp [intOf]; omega
      | ratio r =>
        obtain ⟨rn, rd⟩ := r
        have ha := as_str_rat (.agg #[.int .i64 rn, .int .i64 rd])
        have ha2 := as_sg_rat (.agg #[.int .i64 rn, .int .i64 rd])
        have ha3 := as_int_rat (.agg #[.int .i64 rn, .int .i64 rd])
        have ha4 := as_rat (.agg #[.int .i64 rn, .int .i64 rd])
        simp only [PrIt.val] at c0
        have hflat := Hrec.out ⟨_, List.mem_of_getElem? Hx.out⟩
        have Hflat := Lib.hid hflat
        have HLl := Lib.hid hLl
        clear hflat hLl
        go_wp2_with fail
        obtain ⟨W, hW⟩ : ∃ W, W = (wr.alloc (.cells #[.int .i64 rn, .int .i64 rd] 75)).alloc (.cells #[.iface 3 (.int .i64 rn), .iface 114 (.string ⟨#[47]⟩), .iface 3 (.int .i64 rd)] 20) := ⟨_, rfl⟩
        have hbw : Below wr.heap.size wr W := by rw [hW]; exact ((Below.refl _ _).alloc (Nat.le_refl _) _).alloc (by simp) _
        have hbb : Blk W (wr.heap.size + 1) 20 ([PrIt.num rn, PrIt.sign [47], PrIt.num rd].map PrIt.val).toArray := by rw [hW]; exact Blk.new_at _ _ (by simp)
        rw [← hW]
        refine (Hflat.out [.num rn, .sign [47], .num rd] L _ W (by simp [PrIt.flat]) (HS.out.next hbw) hbb (by simp) (by simpa [PrIt.toks, Sx.ratioT] using HLl.out)).mono ?_
        rintro e w3 ⟨rfl, h3, h4, h5⟩
        have H3 := Lib.hid h3; have H4 := Lib.hid ((hbw.mono (by omega)).trans h4); have H5 := Lib.hid ((KP.below hbw).trans h5)
        clear h3 h4 h5 hbw hbb hW
        go_wp2_with fail
        go_roundw
        case rel => exact ⟨k + 1, by omega, by go_num, by rw [HLn.out]; exact H3.out, Hbel.out.trans H4.out, Hkp.out.trans H5.out⟩
        case measure => simp [intOf]; omega
      | rule r cs =>
        obtain ⟨⟨v0, v1, v2, v3, v4, A, m, c, rfl⟩, hcall⟩ := Hrul.out r cs (List.mem_of_getElem? Hx.out)
        have ha := as_str_rul (.agg #[.int .i64 v0, .int .i64 v1, .string v2, .int .i64 v3, .int .i64 v4, .slice A m c])
        have ha2 := as_sg_rul (.agg #[.int .i64 v0, .int .i64 v1, .string v2, .int .i64 v3, .int .i64 v4, .slice A m c])
        have ha3 := as_int_rul (.agg #[.int .i64 v0, .int .i64 v1, .string v2, .int .i64 v3, .int .i64 v4, .slice A m c])
        have ha4 := as_rat_rul (.agg #[.int .i64 v0, .int .i64 v1, .string v2, .int .i64 v3, .int .i64 v4, .slice A m c])
        have ha5 := as_rul (.agg #[.int .i64 v0, .int .i64 v1, .string v2, .int .i64 v3, .int .i64 v4, .slice A m c])
        simp only [PrIt.val] at c0
        have Hcall := Lib.hid hcall
        have HLl := Lib.hid hLl
        clear hcall hLl
        go_wp2_with fail
        obtain ⟨W, hW⟩ : ∃ W, W = wr.alloc (.cells #[.int .i64 v0, .int .i64 v1, .string v2, .int .i64 v3, .int .i64 v4, .slice A m c] 38) := ⟨_, rfl⟩
        have hbw : Below wr.heap.size wr W := by rw [hW]; exact (Below.refl _ _).alloc (Nat.le_refl _) _
        rw [← hW]
        refine (Hcall.out L W (HS.out.next hbw) (Hbel.out.trans (hbw.mono (by omega))) HLl.out).mono ?_
        rintro e w3 ⟨rfl, h3, h4, h5⟩
        have H3 := Lib.hid h3; have H4 := Lib.hid ((hbw.mono (by omega)).trans h4); have H5 := Lib.hid ((KP.below hbw).trans h5)
        clear h3 h4 h5 hbw hW
        go_wp2_with fail
        go_roundw
        case rel => exact ⟨k + 1, by omega, by go_num, by rw [HLn.out]; exact H3.out, Hbel.out.trans H4.out, Hkp.out.trans H5.out⟩
        case measure => simp [intOf]; omega
    · obtain rfl : k = n := by omega
      go_wp2_with fail
      go_end0
      exact ⟨rfl, by rw [Hn.out, List.take_length] at hS; exact hS, hbel, hkp⟩

theorem lPutFlat (g : Nat) : PutFlat g := fun its l b W hj h hb h1 hl =>
  lPutG g its l b W h hb h1 hl (fun ⟨_r, hr⟩ => (hj _ hr).elim) (fun _r _cs hr => (hj _ hr).elim)
theorem lPut (g : Nat) (its : List PrIt) (l : List Lx.Tok) (b : Nat) (w : World) (h : PrSt g l w) (hb : Blk w b 20 (its.map PrIt.val).toArray) (hn1 : its.length ≤ 100) (hlen : l.length + (its.flatMap PrIt.toks).length ≤ 60000) (hrul : ∀ r cs, PrIt.rule r cs ∈ its → RuleSays g w r cs) :
    Calls Tryz.prog 50 #[.pointer (some ⟨g, 0, none⟩), .slice (some ⟨b, 0, none⟩) its.length its.length] w (TPost g l (its.flatMap PrIt.toks) w) :=
  lPutG g its l b w h hb hn1 hlen (fun _ => lPutFlat g) hrul
end Go.Proofs.YtjonaidancomgaaGreatDoor

namespace Go.Proofs.YtjonaidancomgaaGreatDoor.Lx

theorem tw_take (p : UInt8 → Bool) : ∀ (l : List UInt8) (m : Nat), (l.takeWhile p).length ≤ m → (l.take m).takeWhile p = l.takeWhile p
  | [], m, _ => by simp
  | c :: r, 0, h => by
    cases hp : p c with
    | true => simp [hp] at h
    | false => simp [hp]
  | c :: r, m + 1, h => by
    cases hp : p c with
    | true =>
      simp only [List.takeWhile_cons, hp, if_true, List.length_cons, List.take_succ_cons] at h ⊢
      rw [tw_take p r m (by omega)]
    | false => simp [hp]
theorem comment_len2 {c : UInt8} {r : List UInt8} (h : comment (c :: r) = true) : 2 ≤ ((c :: r).takeWhile (· != 10)).length := by
  simp [comment] at h
  obtain ⟨rfl, h2⟩ := h
  cases r with
  | nil => simp at h2
  | cons d r => simp at h2; subst h2; simp [show ((47 : UInt8) != 10) = true from rfl]
theorem comment_take {c : UInt8} {r : List UInt8} {m : Nat} (hm : 1 ≤ m) : comment (c :: r.take m) = comment (c :: r) := by
  unfold comment
  cases r with
  | nil => simp
  | cons d r =>
    obtain ⟨k, rfl⟩ : ∃ k, m = k + 1 := ⟨m - 1, by omega⟩
    simp
theorem comment_take_false {c : UInt8} {r : List UInt8} (m : Nat) (h : comment (c :: r) = false) : comment (c :: r.take m) = false := by
  rcases Nat.eq_zero_or_pos m with rfl | hm
  · simp [comment]
  · rw [comment_take hm]; exact h
theorem step_take_skip {c : UInt8} {r : List UInt8} {k m : Nat} (h : step c r = .skip k) (hk : k ≤ m + 1) : step c (r.take m) = .skip k := by
  cases h1 : space c
  case true => rw [step_space h1] at h ⊢; exact h
  cases h2 : comment (c :: r)
  case true =>
    rw [step_comment h2] at h
    injection h with h
    have h3 := comment_len2 h2
    have h4 : comment (c :: r.take m) = true := by rw [comment_take (by omega)]; exact h2
    rw [step_comment h4, show c :: r.take m = (c :: r).take (m + 1) from rfl, tw_take _ _ _ (by omega), h]
  cases h3 : letter c
  case true => rw [step_letter h3] at h; split at h <;> cases h
  cases h4 : figure c
  case true => rw [step_figure h4] at h; split at h <;> cases h
  cases h5 : sign c
  case true => rw [step_sign h5 h2] at h; cases h
  rw [step_err h1 h3 h4 h5] at h
  cases h
theorem step_take_tok {c : UInt8} {r : List UInt8} {t : Tok} {k m : Nat} (h : step c r = .tok t k) (hk : k ≤ m + 1) : step c (r.take m) = .tok t k := by
  cases h1 : space c
  case true => rw [step_space h1] at h; cases h
  cases h2 : comment (c :: r)
  case true => rw [step_comment h2] at h; cases h
  cases h3 : letter c
  case true =>
    rw [step_letter h3] at h
    rw [step_letter h3, show c :: r.take m = (c :: r).take (m + 1) from rfl]
    split at h
    · rename_i hn
      injection h with h h'
      rw [tw_take _ _ _ (by omega), if_pos hn, h, h']
    · cases h
  cases h4 : figure c
  case true =>
    rw [step_figure h4] at h
    rw [step_figure h4, show c :: r.take m = (c :: r).take (m + 1) from rfl]
    split at h
    · rename_i n hn
      injection h with h h'
      rw [tw_take _ _ _ (by omega), hn]
      simp only
      rw [h, h']
    · cases h
  cases h5 : sign c
  case true =>
    rw [step_sign h5 h2] at h
    rw [step_sign h5 (comment_take_false m h2)]
    exact h
  rw [step_err h1 h3 h4 h5] at h
  cases h
theorem step_skip_len {c : UInt8} {r : List UInt8} {k : Nat} (h : step c r = .skip k) : k ≤ (c :: r).length := by
  cases h1 : space c
  case true => rw [step_space h1] at h; injection h with h; subst h; simp
  cases h2 : comment (c :: r)
  case true =>
    rw [step_comment h2] at h
    injection h with h
    rw [← h]
    exact (List.takeWhile_prefix _).length_le
  cases h3 : letter c
  case true => rw [step_letter h3] at h; split at h <;> cases h
  cases h4 : figure c
  case true => rw [step_figure h4] at h; split at h <;> cases h
  cases h5 : sign c
  case true => rw [step_sign h5 h2] at h; cases h
  rw [step_err h1 h3 h4 h5] at h
  cases h
/-- Where the tokens stand. -/
theorem lexAt_pos : ∀ (n : Nat) (l : List UInt8) (p : Nat) (ts : List Tok), l.length ≤ n → lexAt l p = .ok ts → ∀ t ∈ ts, ∃ j : Nat, t.pos = (j : Int) ∧ p ≤ j ∧ j < p + l.length
  | n, [], p, ts, _, h => by
    rw [lexAt_nil] at h
    injection h with h
    subst h
    intro t ht; simp at ht
  | 0, _ :: _, _, _, hn, _ => by simp at hn
  | n + 1, c :: r, p, ts, hn, h => by
    have hr : r.length ≤ n := by simpa using hn
    cases hs : step c r with
    | err => rw [lexAt_err hs] at h; cases h
    | skip k =>
      rw [lexAt_skip hs] at h
      have h1 := step_skip_pos hs; have h2 := step_skip_len hs
      intro t ht
      obtain ⟨j, e, a, b⟩ := lexAt_pos n _ _ ts (by rw [List.length_drop, List.length_cons]; omega) h t ht
      rw [List.length_drop] at b
      exact ⟨j, e, by omega, by omega⟩
    | tok t0 k =>
      rw [lexAt_tok hs] at h
      have h1 := step_tok_pos hs; have h2 := (step_valid hs).2.1
      cases hx : lexAt ((c :: r).drop k) (p + k) with
      | err q => rw [hx] at h; cases h
      | ok ts' =>
        rw [hx] at h
        simp only [Res.cons] at h
        injection h with h
        subst h
        intro t ht
        rcases List.mem_cons.1 ht with rfl | ht
        · exact ⟨p, rfl, Nat.le_refl _, by simp⟩
        · obtain ⟨j, e, a, b⟩ := lexAt_pos n _ _ ts' (by rw [List.length_drop, List.length_cons]; omega) hx t ht
          rw [List.length_drop] at b
          exact ⟨j, e, by omega, by omega⟩
theorem take_drop_split (l : List UInt8) (k m : Nat) (_h : k ≤ m) : (l.take m).drop k = (l.drop k).take (m - k) := by
  rw [List.drop_take]
theorem lexAt_take : ∀ (n : Nat) (l : List UInt8) (p : Nat) (a : List Tok) (t : Tok) (b : List Tok) (j : Nat), l.length ≤ n → lexAt l p = .ok (a ++ t :: b) → t.pos = (j : Int) → lexAt (l.take (j - p)) p = .ok a
  | n, [], p, a, t, b, j, _, h, _ => by
    rw [lexAt_nil] at h
    injection h with h
    cases a <;> simp at h
  | 0, _ :: _, _, _, _, _, _, hn, _, _ => by simp at hn
  | n + 1, c :: r, p, a, t, b, j, hn, h, hj => by
    have hr : r.length ≤ n := by simpa using hn
    obtain ⟨j', e', hj1, hj2⟩ := lexAt_pos _ _ _ _ (Nat.le_refl _) h t (by simp)
    obtain rfl : j = j' := by omega
    cases hs : step c r with
    | err => rw [lexAt_err hs] at h; cases h
    | skip k =>
      rw [lexAt_skip hs] at h
      have h1 := step_skip_pos hs; have h2 := step_skip_len hs
      obtain ⟨j'', e'', hj3, hj4⟩ := lexAt_pos _ _ _ _ (Nat.le_refl _) h t (by simp)
      obtain rfl : j = j'' := by omega
      have ih := lexAt_take n _ _ a t b j (by rw [List.length_drop, List.length_cons]; omega) h hj
      obtain ⟨m, hm⟩ : ∃ m, j - p = m + 1 := ⟨j - p - 1, by omega⟩
      have hs' := step_take_skip (m := m) hs (by omega)
      rw [hm, List.take_succ_cons, lexAt_skip hs', show c :: r.take m = (c :: r).take (m + 1) from rfl, take_drop_split _ _ _ (by omega), show m + 1 - k = j - (p + k) by omega]
      exact ih
    | tok t0 k =>
      rw [lexAt_tok hs] at h
      have h1 := step_tok_pos hs; have h2 := (step_valid hs).2.1
      cases hx : lexAt ((c :: r).drop k) (p + k) with
      | err q => rw [hx] at h; cases h
      | ok ts' =>
        rw [hx] at h
        simp only [Res.cons] at h
        injection h with h
        cases a with
        | nil =>
          simp only [List.nil_append, List.cons.injEq] at h
          obtain ⟨h, _⟩ := h
          rw [← h] at hj
          have : j = p := by simp at hj; omega
          subst this
          rw [Nat.sub_self, List.take_zero]
          rfl
        | cons a0 a' =>
          simp only [List.cons_append, List.cons.injEq] at h
          obtain ⟨h3, h4⟩ := h
          subst h4
          obtain ⟨j'', e'', hj3, hj4⟩ := lexAt_pos _ _ _ _ (Nat.le_refl _) hx t (by simp)
          obtain rfl : j = j'' := by omega
          have ih := lexAt_take n _ _ a' t b j (by rw [List.length_drop, List.length_cons]; omega) hx hj
          obtain ⟨m, hm⟩ : ∃ m, j - p = m + 1 := ⟨j - p - 1, by omega⟩
          have hs' := step_take_tok (m := m) hs (by omega)
          rw [hm, List.take_succ_cons, lexAt_tok hs', show c :: r.take m = (c :: r).take (m + 1) from rfl, take_drop_split _ _ _ (by omega), show m + 1 - k = j - (p + k) by omega, ih]
          simp only [Res.cons]
          rw [h3]
theorem lex_take {l : List UInt8} {a : List Tok} {t : Tok} {b : List Tok} {j : Nat} (h : lex l = .ok (a ++ t :: b)) (hj : t.pos = (j : Int)) : lex (l.take j) = .ok a ∧ j < l.length := by
  obtain ⟨j', e', _, h2⟩ := lexAt_pos _ _ _ _ (Nat.le_refl _) h t (by simp)
  have := lexAt_take _ _ _ a t b j (Nat.le_refl _) h hj
  exact ⟨this, by omega⟩
end Go.Proofs.YtjonaidancomgaaGreatDoor.Lx

namespace Go.Proofs.YtjonaidancomgaaGreatDoor.Lx

theorem step_nl (c : UInt8) (r b : List UInt8) : step c (r ++ 10 :: b) = step c r := by
  refine step_ext (comment_app fun _ => by decide) (fun _ => tw_app (Or.inr (Or.inl ?_))) (fun _ => tw_app (Or.inr (Or.inl ?_))) (fun _ => tw_app (Or.inr (Or.inl ?_)))
  · rw [List.takeWhile_cons]; rfl
  · rw [List.takeWhile_cons, show part 10 = false by decide]; rfl
  · rw [List.takeWhile_cons, show figure 10 = false by decide]; rfl
/-- A source with a line feed behind it. -/
theorem lexAt_nl : ∀ (n : Nat) (a b : List UInt8) (p : Nat) (ts : List Tok), a.length ≤ n → lexAt a p = .ok ts → lexAt (a ++ 10 :: b) p = (lexAt b (p + a.length + 1)).app ts
  | n, [], b, p, ts, hn, h => by
    rw [lexAt_nil] at h
    injection h with h
    subst h
    rw [Res.app_nil, List.nil_append, lexAt_skip (step_space (by decide))]
    rfl
  | 0, c :: r, b, p, ts, hn, h => by simp at hn
  | n + 1, c :: r, b, p, ts, hn, h => by
    have hs : step c (r ++ 10 :: b) = step c r := step_nl c r b
    cases he : step c r with
    | skip k =>
      rw [he] at hs
      have h1 := step_skip_pos he
      have h2 := step_skip_len he
      rw [lexAt_skip he] at h
      rw [List.cons_append, lexAt_skip hs, ← List.cons_append, List.drop_append_of_le_length h2]
      have := lexAt_nl n ((c :: r).drop k) b (p + k) ts (by rw [List.length_drop]; omega) h
      rw [this, List.length_drop, show p + k + ((c :: r).length - k) + 1 = p + (c :: r).length + 1 by omega]
    | tok t k =>
      rw [he] at hs
      have h1 := step_tok_pos he
      have h2 := (step_valid he).2.1
      rw [lexAt_tok he] at h
      cases hl : lexAt ((c :: r).drop k) (p + k) with
      | err q => rw [hl] at h; cases h
      | ok l =>
        rw [hl] at h
        injection h with h
        subst h
        rw [List.cons_append, lexAt_tok hs, ← List.cons_append, List.drop_append_of_le_length h2]
        have := lexAt_nl n ((c :: r).drop k) b (p + k) l (by rw [List.length_drop]; omega) hl
        rw [this, List.length_drop, show p + k + ((c :: r).length - k) + 1 = p + (c :: r).length + 1 by omega]
        cases lexAt b (p + (c :: r).length + 1) <;> rfl
    | err => rw [lexAt_err he] at h; cases h
/-- The same source at another place. -/
theorem lexAt_shift : ∀ (n : Nat) (l : List UInt8) (p q : Nat) (ts : List Tok), l.length ≤ n → lexAt l p = .ok ts → ∃ us, lexAt l q = .ok us ∧ Sx.Sim us ts
  | n, [], p, q, ts, hn, h => by
    rw [lexAt_nil] at h
    injection h with h
    subst h
    exact ⟨[], rfl, rfl⟩
  | 0, c :: r, p, q, ts, hn, h => by simp at hn
  | n + 1, c :: r, p, q, ts, hn, h => by
    cases he : step c r with
    | skip k =>
      have h1 := step_skip_pos he
      rw [lexAt_skip he] at h ⊢
      exact lexAt_shift n _ _ _ ts (by rw [List.length_drop]; omega) h
    | tok t k =>
      have h1 := step_tok_pos he
      rw [lexAt_tok he] at h ⊢
      cases hl : lexAt ((c :: r).drop k) (p + k) with
      | err q => rw [hl] at h; cases h
      | ok l =>
        rw [hl] at h
        injection h with h
        subst h
        obtain ⟨us, h3, h4⟩ := lexAt_shift n _ _ (q + k) l (by rw [List.length_drop]; omega) hl
        rw [h3]
        exact ⟨_, rfl, by unfold Sx.Sim at *; simp [h4, Sx.core]⟩
    | err => rw [lexAt_err he] at h; cases h
theorem lex_join {a b : List UInt8} {l m : List Tok} (h1 : lex a = .ok l) (h2 : lex b = .ok m) : ∃ k, lex (a ++ 10 :: b) = .ok k ∧ Sx.Sim k (l ++ m) := by
  obtain ⟨us, h3, h4⟩ := lexAt_shift _ b 0 (0 + a.length + 1) m (Nat.le_refl _) h2
  refine ⟨l ++ us, ?_, Sx.Sim.app (Sx.Sim.refl l) h4⟩
  unfold lex
  rw [lexAt_nl _ a b 0 l (Nat.le_refl _) h1, h3]
  rfl
end Go.Proofs.YtjonaidancomgaaGreatDoor.Lx
namespace Go.Proofs.YtjonaidancomgaaGreatDoor.Sx
open Lx (Tok)
theorem ended_ok {α : Type} {last : Int} {x y : α} {l r : List Tok} (h : ended last x l = .ok y r) : l = [] ∧ y = x := by
  cases l with
  | nil => unfold ended at h; injection h with h; exact ⟨rfl, h.symm⟩
  | cons => unfold ended fail at h; cases h
theorem parseBy_ok {α : Type} {f : Int → List Tok → R α} {src : List UInt8} {x : α} (h : parseBy f src = .ok x) : ∃ l, src.length ≤ 65536 ∧ Lx.lex src = .ok l ∧ f src.length l = .ok x [] := by
  unfold parseBy at h
  split at h
  · cases h
  · rename_i hl
    split at h
    · cases h
    · rename_i l hlx
      split at h
      · rename_i y r hb
        injection h with h
        subst h
        obtain ⟨z, l1, k1, k2⟩ := bind_ok hb
        obtain ⟨rfl, rfl⟩ := ended_ok k2
        exact ⟨l, by omega, hlx, k1⟩
      · cases h
theorem parseBy_of {α : Type} {f : Int → List Tok → R α} {src : List UInt8} {x : α} {l : List Tok} (h1 : src.length ≤ 65536) (h2 : Lx.lex src = .ok l) (h3 : f src.length l = .ok x []) : parseBy f src = .ok x := by
  unfold parseBy
  rw [if_neg (by omega), h2]
  simp only
  rw [h3]
  rfl
/-- Two sources that parse, with a line feed between them. -/
theorem parse_join {a b : List UInt8} {x y : Cat} (h1 : parse a = .ok x) (h2 : parse b = .ok y) (hl : a.length + b.length + 1 ≤ 65536) : parse (a ++ 10 :: b) = .ok (x.app y) := by
  obtain ⟨l, _, k1, k2⟩ := parseBy_ok h1
  obtain ⟨m, _, k3, k4⟩ := parseBy_ok h2
  obtain ⟨k, k5, k6⟩ := Lx.lex_join k1 k3
  exact parseBy_of (by simp; omega) k5 (catalogue_join k2 k4 k6)

/-- The text around a rule within a course. -/
def pre1 : List UInt8 := [99, 111, 117, 114, 115, 101, 32, 49, 32, 65, 32, 50, 32, 123, 32, 110, 101, 101, 100, 32]
def mid1 : List UInt8 := [59, 32, 98, 97, 114, 32]
def end1 : List UInt8 := [59, 32, 125]
def inside (src : List UInt8) : List UInt8 := pre1 ++ (src ++ 10 :: (mid1 ++ (src ++ 10 :: end1)))
def preT : List Tok := [⟨1, wCourse, 0, 0⟩, ⟨2, [], 1, 7⟩, ⟨1, [65], 0, 9⟩, ⟨2, [], 2, 11⟩, ⟨3, [123], 0, 13⟩, ⟨1, wNeed, 0, 15⟩]
theorem lex_pre (r : List UInt8) : Lx.lexAt (pre1 ++ r) 0 = (Lx.lexAt r 20).app preT := by
  have sp : ∀ (r : List UInt8) (p : Nat), Lx.lexAt (32 :: r) p = Lx.lexAt r (p + 1) := fun r p => by
    rw [Lx.lexAt_skip (Lx.step_space (by decide))]; rfl
  have s : ∀ r : List UInt8, Lx.Sep (32 :: r) := fun r => Lx.sep_space (by decide)
  have e : pre1 ++ r = wCourse ++ 32 :: ([49] ++ 32 :: ([65] ++ 32 :: ([50] ++ 32 :: ([123] ++ 32 :: (wNeed ++ 32 :: r))))) := rfl
  have w1 := fun q => Lx.lexAt_word (t := ⟨1, wCourse, 0, 0⟩) (by decide) (s q) 0
  have w2 := fun q => Lx.lexAt_word (t := ⟨2, [], 1, 0⟩) (by decide) (s q) 7
  have w3 := fun q => Lx.lexAt_word (t := ⟨1, [65], 0, 0⟩) (by decide) (s q) 9
  have w4 := fun q => Lx.lexAt_word (t := ⟨2, [], 2, 0⟩) (by decide) (s q) 11
  have w5 := fun q => Lx.lexAt_word (t := ⟨3, [123], 0, 0⟩) (by decide) (s q) 13
  have w6 := fun q => Lx.lexAt_word (t := ⟨1, wNeed, 0, 0⟩) (by decide) (s q) 15
  have o2 : (⟨2, [], 1, 0⟩ : Tok).out = [49] := by decide +kernel
  have o4 : (⟨2, [], 2, 0⟩ : Tok).out = [50] := by decide +kernel
  rw [o2] at w2
  rw [o4] at w4
  rw [e]
  refine (w1 _).trans ?_
  refine (congrArg _ ((sp _ _).trans (w2 _))).trans ?_
  refine (congrArg (fun x => Lx.Res.cons _ (Lx.Res.cons _ x)) ((sp _ _).trans (w3 _))).trans ?_
  refine (congrArg (fun x => Lx.Res.cons _ (Lx.Res.cons _ (Lx.Res.cons _ x))) ((sp _ _).trans (w4 _))).trans ?_
  refine (congrArg (fun x => Lx.Res.cons _ (Lx.Res.cons _ (Lx.Res.cons _ (Lx.Res.cons _ x)))) ((sp _ _).trans (w5 _))).trans ?_
  refine (congrArg (fun x => Lx.Res.cons _ (Lx.Res.cons _ (Lx.Res.cons _ (Lx.Res.cons _ (Lx.Res.cons _ x))))) ((sp _ _).trans (w6 _))).trans ?_
  refine (congrArg (fun x => Lx.Res.cons _ (Lx.Res.cons _ (Lx.Res.cons _ (Lx.Res.cons _ (Lx.Res.cons _ (Lx.Res.cons _ x)))))) (sp _ _)).trans ?_
  show _ = (Lx.lexAt r 20).app preT
  rw [show 15 + (⟨1, wNeed, 0, 0⟩ : Tok).out.length + 1 = 20 by decide]
  cases Lx.lexAt r 20 <;> rfl
theorem lex_mid (p : Nat) (r : List UInt8) : ∃ ts, ts.map core = [(3, [59], 0), (1, wBar, 0)] ∧ Lx.lexAt (mid1 ++ r) p = (Lx.lexAt r (p + 6)).app ts := by
  have sp : ∀ (r : List UInt8) (p : Nat), Lx.lexAt (32 :: r) p = Lx.lexAt r (p + 1) := fun r p => by
    rw [Lx.lexAt_skip (Lx.step_space (by decide))]; rfl
  have s : ∀ r : List UInt8, Lx.Sep (32 :: r) := fun r => Lx.sep_space (by decide)
  have w1 := fun q => Lx.lexAt_word (t := ⟨3, [59], 0, 0⟩) (by decide) (s q) p
  have w2 := fun q => Lx.lexAt_word (t := ⟨1, wBar, 0, 0⟩) (by decide) (s q) (p + 2)
  refine ⟨[⟨3, [59], 0, p⟩, ⟨1, wBar, 0, (p + 2 : Nat)⟩], rfl, ?_⟩
  show Lx.lexAt ([59] ++ 32 :: (wBar ++ 32 :: r)) p = _
  refine (w1 _).trans ?_
  refine (congrArg _ ((sp _ _).trans (w2 _))).trans ?_
  refine (congrArg (fun x => Lx.Res.cons _ (Lx.Res.cons _ x)) (sp _ _)).trans ?_
  show _ = (Lx.lexAt r (p + 6)).app _
  rw [show p + 2 + (⟨1, wBar, 0, 0⟩ : Tok).out.length + 1 = p + 6 from rfl]
  cases Lx.lexAt r (p + 6) <;> rfl
theorem lex_end (p : Nat) : ∃ ts, ts.map core = [(3, [59], 0), (3, [125], 0)] ∧ Lx.lexAt end1 p = .ok ts := by
  have sp : ∀ (r : List UInt8) (p : Nat), Lx.lexAt (32 :: r) p = Lx.lexAt r (p + 1) := fun r p => by
    rw [Lx.lexAt_skip (Lx.step_space (by decide))]; rfl
  have w1 := fun q => Lx.lexAt_word (t := ⟨3, [59], 0, 0⟩) (by decide) (Lx.sep_space (d := 32) (r := q) (by decide)) p
  have w2 := Lx.lexAt_word (t := ⟨3, [125], 0, 0⟩) (by decide) Lx.sep_nil (p + 2)
  refine ⟨[⟨3, [59], 0, p⟩, ⟨3, [125], 0, (p + 2 : Nat)⟩], rfl, ?_⟩
  show Lx.lexAt ([59] ++ 32 :: [125]) p = _
  refine (w1 _).trans ?_
  refine (congrArg _ ((sp _ _).trans w2)).trans ?_
  rfl
theorem lex_inside {src : List UInt8} {l : List Tok} (h : Lx.lex src = .ok l) : ∃ k, Lx.lex (inside src) = .ok k ∧
    Sim k (preT ++ (l ++ (⟨3, [59], 0, 0⟩ :: ⟨1, wBar, 0, 0⟩ :: (l ++ [⟨3, [59], 0, 0⟩, ⟨3, [125], 0, 0⟩])))) := by
  obtain ⟨l1, a1, a2⟩ := Lx.lexAt_shift _ src 0 20 l (Nat.le_refl _) h
  obtain ⟨m1, a3, a4⟩ := lex_mid (20 + src.length + 1) (src ++ 10 :: end1)
  obtain ⟨l2, a5, a6⟩ := Lx.lexAt_shift _ src 0 (20 + src.length + 1 + 6) l (Nat.le_refl _) h
  obtain ⟨m2, a7, a8⟩ := lex_end (20 + src.length + 1 + 6 + src.length + 1)
  refine ⟨preT ++ (l1 ++ (m1 ++ (l2 ++ m2))), ?_, ?_⟩
  · unfold Lx.lex inside
    rw [lex_pre, Lx.lexAt_nl _ _ _ _ _ (Nat.le_refl _) a1, a4, Lx.lexAt_nl _ _ _ _ _ (Nat.le_refl _) a5, a8]
    rfl
  · unfold Sim at *
    simp [a2, a3, a6, a7, core]
theorem ok_bind' {α β : Type} (a : α) (l : List Tok) (f : α → List Tok → R β) : (R.ok a l).bind f = f a l := rfl
theorem hit_of {k : Int} {x : List UInt8} {t : Tok} {l : List Tok} (h1 : t.kind = k) (h2 : t.text = x) : hit k x (t :: l) = true := by
  unfold hit; simp [h1, h2]
/-- A rule's source within a course. -/
theorem parse_inside {src : List UInt8} {r : Rule} (h : parseRule src = .ok r) (hl : src.length ≤ 30000) : parse (inside src) = .ok { Cat.none with courses := [⟨[65], 1, 2, 0, r, r⟩] } := by
  obtain ⟨l, _, k1, k2⟩ := parseBy_ok h
  obtain ⟨k, k3, k4⟩ := lex_inside k1
  have hlen : (inside src).length ≤ 65536 := by
    unfold inside; simp [pre1, mid1, end1]; omega
  refine parseBy_of hlen k3 ?_
  obtain ⟨last, hlast⟩ : ∃ z : Int, z = ((inside src).length : Int) := ⟨_, rfl⟩
  rw [← hlast]
  clear hlast k3 hlen
  -- the tokens one after another
  obtain ⟨t1, s1, rfl, p1, q1, n1, k5⟩ := k4.cons
  obtain ⟨t2, s2, rfl, p2, q2, n2, k6⟩ := k5.cons
  obtain ⟨t3, s3, rfl, p3, q3, n3, k7⟩ := k6.cons
  obtain ⟨t4, s4, rfl, p4, q4, n4, k8⟩ := k7.cons
  obtain ⟨t5, s5, rfl, p5, q5, n5, k9⟩ := k8.cons
  obtain ⟨t6, s6, rfl, p6, q6, n6, k10⟩ := k9.cons
  obtain ⟨s7, e1, e2⟩ := mov_rule 16 0 _ l r [] k2 last s6 _ k10
  rw [List.nil_append] at e2
  obtain ⟨t7, s8, rfl, p7, q7, n7, k11⟩ := e2.cons
  obtain ⟨t8, s9, rfl, p8, q8, n8, k12⟩ := k11.cons
  obtain ⟨s10, e3, e4⟩ := mov_rule 16 0 _ l r [] k2 last s9 _ k12
  rw [List.nil_append] at e4
  obtain ⟨t9, s11, rfl, p9, q9, n9, k13⟩ := e4.cons
  obtain ⟨t10, s12, rfl, p10, q10, n10, k14⟩ := k13.cons
  have : s12 = [] := k14.nil
  subst this
  have e1' : rule last 16 0 s6 = .ok r (t7 :: t8 :: s9) := e1
  have e3' : rule last 16 0 s9 = .ok r [t9, t10] := e3
  have hc : course last (t2 :: t3 :: t4 :: t5 :: t6 :: s6) = .ok ⟨[65], 1, 2, 0, r, r⟩ [] := by
    unfold course
    have a1 : number last 0 4095 (t2 :: t3 :: t4 :: t5 :: t6 :: s6) = .ok 1 (t3 :: t4 :: t5 :: t6 :: s6) := by unfold number; simp [p2, n2]
    have a2 : name last (t3 :: t4 :: t5 :: t6 :: s6) = .ok [65] (t4 :: t5 :: t6 :: s6) := by unfold name; simp [p3, q3]
    have a3 : number last 1 60 (t4 :: t5 :: t6 :: s6) = .ok 2 (t5 :: t6 :: s6) := by unfold number; simp [p4, n4]
    have a4 : find repeatWords (t5 :: t6 :: s6) = none := by unfold find hit repeatWords; simp [p5]
    have a5 : sign last 123 (t5 :: t6 :: s6) = .ok () (t6 :: s6) := by unfold sign need; rw [if_pos (hit_of p5 q5)]; rfl
    have a6 : opt last wNeed (rule last 16 0) (.mk 1 0 [] 0 0 []) (t6 :: s6) = .ok r (t8 :: s9) := by
      unfold opt
      rw [if_pos (hit_of p6 q6), List.tail_cons, e1', ok_bind']
      unfold sign need
      rw [if_pos (hit_of p7 q7)]
      rfl
    have a7 : opt last wBar (rule last 16 0) (.mk 2 0 [] 0 0 []) (t8 :: s9) = .ok r [t10] := by
      unfold opt
      rw [if_pos (hit_of p8 q8), List.tail_cons, e3', ok_bind']
      unfold sign need
      rw [if_pos (hit_of p9 q9)]
      rfl
    have a8 : sign last 125 [t10] = .ok () [] := by unfold sign need; rw [if_pos (hit_of p10 q10)]; rfl
    rw [a1, ok_bind', a2, ok_bind', a3, ok_bind', a4]
    simp only
    rw [a5, ok_bind', a6, ok_bind', a7, ok_bind', a8, ok_bind']
  unfold catalogue
  rw [List.length_cons]
  have hd : defT t1 = some wCourse := by
    unfold defT; rw [if_pos ⟨p1, by rw [q1]; decide⟩, q1]
  rw [defs_some hd]
  unfold defineR
  rw [if_pos rfl, hc, ok_bind', ok_bind']
  cases hn : (t2 :: t3 :: t4 :: t5 :: t6 :: s6).length with
  | zero => rfl
  | succ n => rfl
end Go.Proofs.YtjonaidancomgaaGreatDoor.Sx
