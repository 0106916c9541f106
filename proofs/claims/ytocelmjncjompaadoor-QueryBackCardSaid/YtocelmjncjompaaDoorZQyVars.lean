/- Parts of the proof, joined into one text: QyVars, QyIx, QyVar. -/
import Derived.Test.YtocelmjncjompaaDoorZQyParC
import Derived.Stop.RegionWithIn
import Derived.Deep.RegionHeld3
import Derived.Test.YtocelmjncjompaaDoorZQyAgain
import Derived.Maps.Views

namespace Go.Proofs.YtocelmjncjompaaDoor
open Go.RowKit Go.Maps Go.WideMaps
attribute [local go_sem] Oper.semAt_some

/-- Where the numbers of the variables lie. -/
def Qy.inShow (A : Option Addr) (i : Nat) : List Addr := match A with
  | some a => [⟨a.block, a.off + i, none⟩]
  | none => []
def Qy.sel (l : List Addr) (gs : List Qy.Arg) : List Addr := (l.zip gs).flatMap fun p => if p.2.var then [⟨p.1.block, p.1.off + 1, none⟩] else []
def Qy.varsAt (A1 A2 A3 : Option Addr) (n1 n2 n3 : Nat) (gs : List Qy.Arg) : List Addr := (List.range n1).flatMap (Qy.inShow A1) ++ Qy.sel (Qy.argsAt A2 A3 n2 n3) gs
theorem Tryd.infoIntPtr : (Tryd.prog.info? 100).map (fun i => (i.zero, i.size, i.bytes)) = some (some (.pointer none), 1, 8) := by kernel_rfl
structure VarsPre (Bn Qb n1 n2 n3 c1 c2 c3 : Nat) (A1 A2 A3 : Option Addr) (gs : List Qy.Arg) (w : World) : Prop where
  box : Blk w Bn 95 #[.pointer (some ⟨Qb, 0, none⟩)]
  one : w.cell? ⟨Qb, 1, none⟩ = some (.slice A1 n1 c1)
  two : w.cell? ⟨Qb, 2, none⟩ = some (.slice A2 n2 c2)
  three : w.cell? ⟨Qb, 3, none⟩ = some (.slice A3 n3 c3)
  lt : Qb < w.heap.size
  len : gs.length = (Qy.argsAt A2 A3 n2 n3).length
  args : ∀ (i : Nat) (a : Addr) (x : Qy.Arg), (Qy.argsAt A2 A3 n2 n3)[i]? = some a → gs[i]? = some x → ∃ b o, a = ⟨b, o, none⟩ ∧ b < w.heap.size ∧ w.cell? ⟨b, o, none⟩ = some (.bool x.var)

set_option maxHeartbeats 400000 in
theorem lArguments (p : Option Addr) (w : World) : Calls Tryd.prog 62 #[.pointer p] w fun e w' => e = .returned (.func (.func 81) #[] #[.pointer (some ⟨w.heap.size, 0, none⟩)]) ∧ w' = w.alloc (.cells #[.pointer p] 95) := by
  go_enter Tryd.func62, Tryd.ntmps62
  go_wp2
  go_ret
  exact ⟨rfl, rfl⟩
set_option maxHeartbeats 400000 in
theorem lVariables (p : Option Addr) (w : World) : Calls Tryd.prog 63 #[.pointer p] w fun e w' => e = .returned (.func (.func 82) #[] #[.pointer (some ⟨w.heap.size, 0, none⟩)]) ∧ w' = w.alloc (.cells #[.pointer p] 95) := by
  go_enter Tryd.func63, Tryd.ntmps63
  go_wp2
  go_ret
  exact ⟨rfl, rfl⟩

/-- The box grows: the row's element has been stored, the box holds the new slice. -/
theorem box_grown {p base gg cap m k : Nat} {t e : TypeId} {v : Value} {xs ys : List Value} {w w1 w2 : World} (hb : Blk w p t #[v]) (hown : w.ownsRow base e 1 v m xs) (hte : e ≠ t) (h1 : Below w.heap.size w w1) (hgrow : w1.grownBy w2 v.ownBlock)
    (hown2 : w2.ownsRow base e 1 (.slice (some ⟨gg, 0, none⟩) k cap) k ys) :
    Blk w2 p t #[v] ∧ Blk (w2.setCell ⟨p, 0, none⟩ (.slice (some ⟨gg, 0, none⟩) k cap)) p t #[.slice (some ⟨gg, 0, none⟩) k cap] ∧ (w2.setCell ⟨p, 0, none⟩ (.slice (some ⟨gg, 0, none⟩) k cap)).ownsRow base e 1 (.slice (some ⟨gg, 0, none⟩) k cap) k ys := by
  have hne := own_ne hown hb hte
  have hb2 : Blk w2 p t #[v] := (hgrow.block p (by have := h1.size; have := hb.lt; omega) (fun e => hne e.symm)).trans ((h1.block p hb.lt).trans hb)
  exact ⟨hb2, by have := hb2.set 0 (.slice (some ⟨gg, 0, none⟩) k cap); simpa using this, own_setCell_far hown2 (own_ne hown2 hb2 hte) _⟩

theorem Qy.sel_snoc {pre : List Addr} {x : Addr} {gs : List Qy.Arg} {y : Qy.Arg} (h : gs[pre.length]? = some y) : Qy.sel (pre ++ [x]) gs = Qy.sel pre gs ++ (if y.var then [⟨x.block, x.off + 1, none⟩] else []) := by
  induction pre generalizing gs with
  | nil =>
    cases gs with
    | nil => simp at h
    | cons z r => simp at h; subst h; simp [Qy.sel]
  | cons p pre ih =>
    cases gs with
    | nil => simp at h
    | cons z r =>
      have := ih (gs := r) (by simpa using h)
      unfold Qy.sel at this ⊢
      rw [List.cons_append, List.zip_cons_cons, List.zip_cons_cons, List.flatMap_cons, List.flatMap_cons, this, List.append_assoc]

theorem Qy.sel_len : ∀ (l : List Addr) (gs : List Qy.Arg), (Qy.sel l gs).length ≤ l.length
  | [], gs => by simp [Qy.sel]
  | p :: r, [] => by simp [Qy.sel]
  | p :: r, z :: gs => by
    have := Qy.sel_len r gs
    unfold Qy.sel at this ⊢
    rw [List.zip_cons_cons, List.flatMap_cons, List.length_append, List.length_cons]
    split
    · simp only [List.length_cons, List.length_nil]; omega
    · simp only [List.length_nil]; omega
theorem flat_len {α : Type} (f : Nat → List α) (c : Nat) (h : ∀ i, (f i).length ≤ c) : ∀ n, ((List.range n).flatMap f).length ≤ c * n
  | 0 => by simp
  | n + 1 => by
    have := flat_len f c h n
    have := h n
    rw [range_step, List.length_append, Nat.mul_succ]
    omega
theorem Qy.args_len (A2 A3 : Option Addr) (n2 n3 : Nat) : (Qy.argsAt A2 A3 n2 n3).length ≤ 3 * n2 + 2 * n3 := by
  have h1 := flat_len (Qy.inAtom A2) 3 (fun i => by unfold Qy.inAtom; split <;> simp) n2
  have h2 := flat_len (Qy.inTest A3) 2 (fun i => by unfold Qy.inTest; split <;> simp) n3
  unfold Qy.argsAt
  rw [List.length_append]
  omega
/-- What a row's growing and a store into a box keep. -/
theorem keeps_row {B base m p i : Nat} {e t : TypeId} {v u : Value} {xs : List Value} {cs : Array Value} {W W1 w3 : World} (hown : W.ownsRow base e 1 v m xs) (h1 : Below W.heap.size W W1) (hg : W1.grownBy w3 v.ownBlock) (hb : Blk w3 p t cs) : KeepsFrom B W (w3.setCell ⟨p, i, none⟩ u) :=
  ⟨by have := h1.size; have := hg.size; simp [World.setCell]; omega, fun k o _ hk ho => by
    have hlt := (Array.getElem?_eq_some_iff.1 hk).1
    have hk1 := (h1.block k hlt).trans hk
    have hk3 : w3.heap[k]? = some o := (hg.block k (by have := h1.size; omega) (fun e1 => by
      rcases hown.2 with ⟨rfl, _⟩ | ⟨g', cap', cur', rfl, _, hh', _⟩
      · simp [Value.ownBlock] at e1
      · have : k = g' := by simpa [Value.ownBlock] using e1
        subst this
        rw [hk] at hh'
        injection hh' with hh'
        subst hh'
        cases ho)).trans hk1
    rw [Below.heap_setCell]
    · exact hk3
    · rintro rfl
      unfold Blk at hb
      rw [hk3] at hb
      injection hb with hb
      subst hb
      cases ho⟩
/-- Between two rounds: the box holds the pointers so far. -/
def VarsI (L1 : List Addr) (gs : List Qy.Arg) (w : World) (pre : List Addr) (W : World) : Prop := (∃ v, Boxed W w.heap.size 130 v ∧ W.ownsRow w.heap.size 100 1 v (L1 ++ Qy.sel pre gs).length (ptrs (L1 ++ Qy.sel pre gs)) ∧ True) ∧ Below w.heap.size w W
theorem varsI_own (L1 : List Addr) (gs : List Qy.Arg) (w : World) (B : Nat) (hB : w.heap.size ≤ B) : OwnFrom B (VarsI L1 gs w) :=
  OwnFrom.and (Own.from (holdsRow_own w.heap.size w.heap.size 130 100 1 (fun pre => (L1 ++ Qy.sel pre gs).length) (fun pre => ptrs (L1 ++ Qy.sel pre gs)) (fun _ _ => True)) _) (ownFrom_below (Nat.le_refl _) hB)
/-- At an operation that has been run: back to the run itself. -/
theorem upon_back {P : Program} {F : Fence} {n : Nat} {o : Oper} {a : Act} {K : Act → World → Prop} {Q : Exit → Act → World → Prop} {r : Result Next} (W : World) (h : (o.semAt F.round a.eval).run P W = r)
    (hk : o.uponIn F n P a K Q ((o.semAt F.round a.eval).run P W)) : o.uponIn F n P a K Q r := by rw [← h]; exact hk
theorem upon_append_lies {P : Program} {F : Fence} {n : Nat} {w : World} {o : Oper} {a : Act} {K : Act → World → Prop} {Q : Exit → Act → World → Prop} (s x : Operand) (t : TypeId)
    (ho : o.op = .call { callee := .builtin .append, args := #[s, x], argTypes := #[t, t] })
    (base : Nat) (e : TypeId) (i : TypeInfo) (z : Value) (size bytes : Nat) (ht : P.underlying t = some (.slice e)) (hi : P.info? e = some i) (hz : i.zero = some z)
    (hsize : i.size = size) (hby : i.bytes = bytes) (hzs : z.cells.size = size) (hsz : 0 < size)
    (v : Value) (k : Nat) (xs : List Value) (hs : a.eval s = v) (hown : w.ownsRow base e size v k xs)
    (ad : Addr) (m c : Nat) (news : List Value) (hx : a.eval x = .slice (some ad) m c) (hl : news.length = m * size) (hnews : ∀ j u, news[j]? = some u → w.cell? (ad.add j) = some u) (h1 : ∀ u ∈ news, u.oneCell' = true)
    (hm : 0 < m) (h63 : k + m ≤ maxLen) (hbytes : (k + m) * bytes ≤ 140737488355328) (hbase : base ≤ w.heap.size) (H : Nat) (hH : w.heap.size = H)
    (h : ∀ g cap w', w'.ownsRow base e size (.slice (some ⟨g, 0, none⟩) (k + m) cap) (k + m) (xs ++ news) → w.grownBy w' v.ownBlock → (v.ownBlock = some g ∨ g = H) → g < w'.heap.size → K (a.put o.dst (.slice (some ⟨g, 0, none⟩) (k + m) cap)) w') :
    o.uponIn F n P a K Q ((o.semAt F.round a.eval).run P w) := by
  obtain ⟨g, cap, w', hr, h2, h3, h4, h5⟩ := run_append_lies (P := P) w t o.type base e i z size bytes ht hi hz hsize hby hzs hsz v k xs hown ad m c news hl hnews h1 hm h63 hbytes hbase H hH
  rw [Oper.semAt_eq _ _ _ (by intro c; rw [ho]; exact fun h => nomatch h)]
  unfold execOp
  simp only [ho, resolve, invoke, builtin, Sem.run_bind, Sem.run_pure, Result.andThen_ok, List.map_toArray, List.map_cons, List.map_nil, hs, hx, hr]
  exact h g cap w' h2 h3 h4 h5

set_option maxRecDepth 20000 in
set_option maxHeartbeats 2000000 in
theorem varsSeq (n Bn Qb n1 n2 n3 c1 c2 c3 : Nat) (A1 A2 A3 : Option Addr) (gs : List Qy.Arg) (h1 : n1 ≤ 1000) (h2 : n2 ≤ 1000) (h3 : n3 ≤ 1000) (ha1 : 0 < n1 → ∃ b o, A1 = some ⟨b, o, none⟩) (ha2 : 0 < n2 → ∃ b o, A2 = some ⟨b, o, none⟩) (ha3 : 0 < n3 → ∃ b o, A3 = some ⟨b, o, none⟩) :
    SeqB Fence.wide n Tryd.prog 82 #[.pointer (some ⟨Bn, 0, none⟩)] (fun (a : Addr) => #[.pointer (some a)]) (KT 100) (Qy.varsAt A1 A2 A3 n1 n2 n3 gs) (VarsPre Bn Qb n1 n2 n3 c1 c2 c3 A1 A2 A3 gs) := by
  intro l J Jx w hPre hJ0 hJp hJxp hY
  obtain ⟨hB, hq1, hq2, hq3, hQ, hal, hargs⟩ := hPre
  refine callsIn_of_wp_marks Tryd.func82 rfl trivial ?_ rfl
  refine wpIn_wide.2 ?_
  obtain ⟨i0, hi0, hz0, hz1, hz2⟩ := info_parts Tryd.infoIntPtr
  have cB := hB.cell 0
  have hBlt := hB.lt
  simp at cB
  have HJ0 := Lib.hid hJ0; have HJp := Lib.hid hJp; have HJxp := Lib.hid hJxp; have HY := Lib.hid hY
  have Hal := Lib.hid hal; have Hargs := Lib.hid hargs; have HB := Lib.hid hB
  clear hJ0 hJp hJxp hY hB hal hargs
  obtain ⟨L1, hL1⟩ : ∃ L1, L1 = (List.range n1).flatMap (Qy.inShow A1) := ⟨_, rfl⟩
  have HL1 := Lib.hid hL1
  clear hL1
  simp only [Tryd.ntmps82, List.size_toArray, List.length_cons, List.length_nil, Nat.reduceAdd, Nat.reduceSub, Array.replicate_succ, Array.replicate_zero, List.push_toArray, List.append_toArray, List.nil_append, List.cons_append]
  go_wp2_with fail
  go_loopw [13] (fun v13 wr => ∃ (k : Nat) (v : Value), k ≤ n1 ∧ v13 = .int .i64 k ∧ Blk wr w.heap.size 130 #[v] ∧ wr.ownsRow w.heap.size 100 1 v k (ptrs ((List.range k).flatMap (Qy.inShow A1))) ∧ Below w.heap.size w wr) (fun v13 _ => n1 - (intOf v13).toNat)
  case atStart => exact ⟨0, _, by omega, rfl, Blk.new _ _ _, ⟨rfl, .inl ⟨rfl, rfl⟩⟩, (Below.refl _ _).alloc (Nat.le_refl _) _⟩
  case round =>
    obtain ⟨k, v, hk, rfl, hb, hown, hbel⟩ := hrel
    by_cases hlt : k < n1
    · obtain ⟨b, o, rfl⟩ := ha1 (by omega)
      have cB' := (hbel.cell (p := ⟨Bn, 0, none⟩) hBlt).trans cB
      have cq := (hbel.cell (p := ⟨Qb, 1, none⟩) hQ).trans hq1
      have hsz := hbel.size
      obtain ⟨vA, cA, rfl⟩ := own_form hown
      have d0 := hb.cell 0; have df0 := hb.free 0
      have hblt := hb.lt
      simp at d0
      have Hown := Lib.hid hown; have Hbel := Lib.hid hbel; have Hb := Lib.hid hb
      clear hown hbel hb
      go_wp2_with fail
      refine wp_region_noPanic ?_
      go_region_law (refine step_append_lies _ rfl _ _ _ rfl w.heap.size 100 i0 _ 1 8 Tryd.underlying130 hi0 hz0 hz1 hz2 rfl (by omega) _ k _ rfl ((Hown.out.alloc _).drew) ⟨wr.heap.size, 0, none⟩ 1 1 [.pointer (some ⟨b, o + k, none⟩)] rfl rfl (World.news_of_block (cs := #[.pointer (some ⟨b, o + k, none⟩)]) (t := 100) (fr := (0, 0)) (heap_alloc_new wr _)) (by simp [Value.oneCell']) (by omega) (by unfold maxLen; omega) (by omega) (by simp; omega) (wr.heap.size + 1) (by simp) ?_; intro gg cap w3 hown3 hgrow3 hat3 hlt3; have hbg := box_grown Hb.out Hown.out (by decide) (((Below.refl _ wr).alloc (Nat.le_refl _) _).drew) hgrow3 hown3; have e0 := hbg.1.cell 0; have ef0 := hbg.1.free 0; simp at e0; have HP := Lib.hid (And.intro hbg.2 (Below.grown (((Below.refl w.heap.size wr).alloc hsz _).drew) hgrow3 (by simp; omega) (fun j hj => (World.ownsRow.lt Hown.out j hj).1))); clear hbg hown3 hgrow3 hat3)
      all_goals (refine NoPanic.normal ?_)
      all_goals (try go_wp2_with fail)
      all_goals go_roundw
      all_goals first
        | (refine ⟨k + 1, _, by omega, by go_num, HP.out.1.1, ?_, Hbel.out.trans (HP.out.2.setCell (show w.heap.size ≤ (⟨w.heap.size, 0, none⟩ : Addr).block from Nat.le_refl _) _)⟩; rw [range_step, ptrs_app]; exact HP.out.1.2)
        | (simp [intOf]; omega)
    · obtain rfl : k = n1 := by omega
      rw [← HL1.out] at hown
      have hsz := hbel.size
      have cB' := (hbel.cell (p := ⟨Bn, 0, none⟩) hBlt).trans cB
      have Hown := Lib.hid hown; have Hbel := Lib.hid hbel; have Hb := Lib.hid hb
      clear hown hbel hb
      go_wp2_with fail
      refine (lArguments _ _).mono ?_
      rintro e w2 ⟨rfl, rfl⟩
      go_wp2_with fail
      obtain ⟨W0, hW0⟩ : ∃ W0, W0 = wr.alloc (.cells #[.pointer (some ⟨Qb, 0, none⟩)] 95) := ⟨_, rfl⟩
      have hsz0 : W0.heap.size = wr.heap.size + 1 := by rw [hW0]; simp
      have hpre : ∀ Y, Below W0.heap.size W0 Y → ArgsPre wr.heap.size Qb n2 n3 c2 c3 A2 A3 Y := fun Y hY => by
        have hb0 : Below w.heap.size w Y := (Hbel.out.trans (by rw [hW0]; exact (Below.refl _ _).alloc hsz _)).trans (hY.mono (by omega))
        exact ⟨(hY.block _ (by omega)).trans (by rw [hW0]; exact Blk.new _ _ _), (hb0.cell (p := ⟨Qb, 2, none⟩) hQ).trans hq2, (hb0.cell (p := ⟨Qb, 3, none⟩) hQ).trans hq3, by have := hY.size; omega⟩
      have hI0 : ∀ Y, Below W0.heap.size W0 Y → VarsI L1 gs w [] Y := fun Y hY => by
        show (∃ v, Boxed Y w.heap.size 130 v ∧ Y.ownsRow w.heap.size 100 1 v (L1 ++ Qy.sel [] gs).length (ptrs (L1 ++ Qy.sel [] gs)) ∧ True) ∧ Below w.heap.size w Y
        have hb0 : Below wr.heap.size wr Y := (show Below wr.heap.size wr W0 by rw [hW0]; exact (Below.refl _ _).alloc (Nat.le_refl _) _).trans (hY.mono (by omega))
        have he : L1 ++ Qy.sel [] gs = L1 := by simp [Qy.sel]
        have hk : L1.length = k := by have := Hown.out.1; simpa [ptrs] using this
        rw [he, hk]
        exact ⟨⟨v, (hb0.block _ Hb.out.lt).trans Hb.out, own_below Hown.out hb0, trivial⟩, Hbel.out.trans (hb0.mono hsz)⟩
      rw [← hW0]
      have HL1n : Hid (L1.length = k) := Lib.hid (by have := Hown.out.1; simpa [ptrs] using this)
      have Hpre := Lib.hid hpre; have HI0 := Lib.hid hI0
      clear hW0 hpre hI0 Hown Hbel Hb
      refine (wpIn_wide (n := n)).1 ?_
      refine wpIn_rangeB (F := Fence.wide) (n := n) rfl (fun h => (by cases h)) (gf := 81) (lb := #[.pointer (some ⟨wr.heap.size, 0, none⟩)]) rfl trivial (enters_of Tryd.func81 (by kernel_rfl) rfl)
        (argsSeq (n - 1) wr.heap.size Qb n2 n3 c2 c3 A2 A3 h2 h3 ha2 ha3) Hpre.out (fun h k => KT.trans h k) (fun W l r r' _ h => KT.put W l r r' h) (fun _ => rfl)
        (VarsI L1 gs w) (fun _ _ _ => False) (varsI_own L1 gs w W0.heap.size (by omega))
        (fun _ _ _ _ _ hs _ _ => hs) HI0.out ?a1 ?assign ?body ?done ?stop
      case assign =>
        intro l x W K hK
        gi_wp2
        exact hK
      case body =>
        intro lr pre x W hVI hpx
        obtain ⟨⟨vb, hbx, hown, -⟩, hbel⟩ := hVI
        have hix : (Qy.argsAt A2 A3 n2 n3)[pre.length]? = some x := by
          obtain ⟨tl, htl⟩ := hpx
          rw [← htl]; simp
        have hlt5 := (List.getElem?_eq_some_iff.1 hix).1
        obtain ⟨y, hy⟩ : ∃ y, gs[pre.length]? = some y := ⟨_, List.getElem?_eq_getElem (by rw [Hal.out]; exact hlt5)⟩
        obtain ⟨b, o, rfl, hbw, hcell⟩ := Hargs.out _ _ _ hix hy
        have hcx := (hbel.cell (p := ⟨b, o, none⟩) hbw).trans hcell
        have Hsn := Lib.hid (Qy.sel_snoc (x := ⟨b, o, none⟩) hy)
        have hcnt : (L1 ++ Qy.sel pre gs).length ≤ 100000 := by
          have h1 := Qy.sel_len pre gs
          have h2 := Qy.args_len A2 A3 n2 n3
          have h3 := HL1n.out
          rw [List.length_append]
          omega
        have hszW := hbel.size
        have hbl := hbx.cell
        have hbf := hbx.frozen
        have hblt := hbx.lt
        obtain ⟨AA, cA, rfl⟩ := own_form hown
        obtain ⟨N, hN⟩ : ∃ N, N = (L1 ++ Qy.sel pre gs).length := ⟨_, rfl⟩
        rw [← hN] at hown hbl hbx hcnt
        have HN := Lib.hid hN
        have Hown := Lib.hid hown; have Hbel := Lib.hid hbel; have Hb := Lib.hid hbx
        clear hown hbel hbx hix hy hpx hcell hlt5 hN
        cases hyv : y.var
        · rw [hyv] at hcx Hsn
          clear hyv
          have he : L1 ++ Qy.sel (pre ++ [⟨b, o, none⟩]) gs = L1 ++ Qy.sel pre gs := by rw [Hsn.out]; simp
          have He := Lib.hid he
          clear he
          gi_wp2
          refine ⟨KeepsFrom.refl _ _, KT.refl _ _, ⟨_, Hb.out, ?_, trivial⟩, Hbel.out⟩
          rw [He.out, ← HN.out]; exact Hown.out
        · rw [hyv] at hcx Hsn
          clear hyv
          have he : L1 ++ Qy.sel (pre ++ [⟨b, o, none⟩]) gs = (L1 ++ Qy.sel pre gs) ++ [⟨b, o + 1, none⟩] := by rw [Hsn.out]; simp
          have He := Lib.hid he
          clear he
          gi_wp2
          gi_region_with (first
            | (refine upon_back ((W.alloc (.cells #[.pointer (some ⟨b, o + 1, none⟩)] 100)).drew) (by go_simp) ?_; refine upon_append_lies _ _ _ rfl w.heap.size 100 i0 _ 1 8 Tryd.underlying130 hi0 hz0 hz1 hz2 rfl (by omega) _ N _ rfl ((Hown.out.alloc _).drew) ⟨W.heap.size, 0, none⟩ 1 1 [.pointer (some ⟨b, o + 1, none⟩)] rfl rfl (World.news_of_block (cs := #[.pointer (some ⟨b, o + 1, none⟩)]) (t := 100) (fr := (0, 0)) (heap_alloc_new W _)) (by simp [Value.oneCell']) (by omega) (by unfold maxLen; omega) (by omega) (by simp; omega) (W.heap.size + 1) (by simp) ?_; intro gg cap w3 hown3 hgrow3 hat3 hlt3; have hbg := box_grown Hb.out Hown.out (by decide) (((Below.refl _ W).alloc (Nat.le_refl _) _).drew) hgrow3 hown3; have e0 := hbg.1.cell 0; have ef0 := hbg.1.free 0; simp at e0; have hk3 : KeepsFrom W0.heap.size W (w3.setCell ⟨w.heap.size, 0, none⟩ (.slice (some ⟨gg, 0, none⟩) (N + 1) cap)) := keeps_row Hown.out (((Below.refl _ W).alloc (Nat.le_refl _) _).drew) hgrow3 hbg.1; have hKT3 := KT.set hbg.1 (show 130 ≠ 96 by decide) (((KT.refl 96 W).below (((Below.refl _ W).alloc (Nat.le_refl _) _).drew)).grown ((Hown.out.alloc _).drew) (by decide) hgrow3) 0 (.slice (some ⟨gg, 0, none⟩) (N + 1) cap); have hB3 := (Hbel.out.trans (Below.grown (((Below.refl w.heap.size W).alloc hszW _).drew) hgrow3 (by simp; omega) (fun j hj => (World.ownsRow.lt Hown.out j hj).1))).setCell (p := ⟨w.heap.size, 0, none⟩) (Nat.le_refl _) (.slice (some ⟨gg, 0, none⟩) (N + 1) cap); have HP := Lib.hid (And.intro hbg.2 (And.intro hk3 (And.intro hKT3 hB3))); clear hk3 hKT3 hB3 hbg hown3 hgrow3 hat3))
          all_goals (try gi_wp2)
          all_goals refine ⟨HP.out.2.1, HP.out.2.2.1, ⟨_, HP.out.1.1, ?_, trivial⟩, HP.out.2.2.2⟩
          all_goals (rw [He.out, List.length_append, List.length_singleton, ← HN.out, ptrs_app]; exact HP.out.1.2)
      case done =>
        intro D W hD hVI hdef
        obtain ⟨⟨vb, hbx, hown, -⟩, hbel⟩ := hVI
        have hxs : L1 ++ Qy.sel (Qy.argsAt A2 A3 n2 n3) gs = Qy.varsAt A1 A2 A3 k n2 n3 gs := by rw [HL1.out]; rfl
        rw [hxs] at hown
        have hNb : (Qy.varsAt A1 A2 A3 k n2 n3 gs).length ≤ 100000 := by
          have h1 := Qy.sel_len (Qy.argsAt A2 A3 n2 n3) gs
          have h2 := Qy.args_len A2 A3 n2 n3
          have h3 := HL1n.out
          rw [← hxs, List.length_append]
          omega
        have hbl := hbx.cell
        have hJ := Lib.hid (HJ0.out _ hbel)
        have hszW := hbel.size
        obtain ⟨A, cA, rfl, hcA, hL⟩ := own_lies hown ((Qy.varsAt A1 A2 A3 k n2 n3 gs).map fun a => [.pointer (some a)]) (ptrs_flat _) (fun c hc => by
          obtain ⟨x, _, rfl⟩ := List.mem_map.1 hc; rfl) (by rw [List.length_map]) (by omega)
        obtain ⟨N, hN⟩ : ∃ N, N = (Qy.varsAt A1 A2 A3 k n2 n3 gs).length := ⟨_, rfl⟩
        rw [← hN] at hown hbl hbx hNb hcA
        have HN := Lib.hid hN
        have Hown := Lib.hid hown; have HL := Lib.hid hL; have Hdef := Lib.hid hdef
        clear hown hbel hbx hL hdef hxs hN
        obtain ⟨w0, hw0⟩ : ∃ w0, w0 = W := ⟨_, rfl⟩
        rw [← hw0] at hJ Hown HL Hdef hbl hszW ⊢
        clear hw0
        dsimp only
        go_wp2_with fail
        refine (wpIn_wide (n := n)).1 ?_
        gi_loopw [41] (fun v41 wq => ∃ j : Nat, j ≤ N ∧ v41 = .int .i64 j ∧ Hid (J ((Qy.varsAt A1 A2 A3 k n2 n3 gs).take j) wq) ∧ Hid (KT 100 w0 wq)) (fun v41 _ => N - (intOf v41).toNat)
        case atStart => exact ⟨0, by omega, rfl, hJ, Lib.hid (KT.refl _ _)⟩
        case round =>
          obtain ⟨j, hj, rfl, HJ, HK⟩ := hrel
          have Hdef2 := Lib.hid (HK.out.defs _ _ Hdef.out)
          by_cases hlt3 : j < N
          · obtain ⟨x, hx⟩ : ∃ x, (Qy.varsAt A1 A2 A3 k n2 n3 gs)[j]? = some x := ⟨_, List.getElem?_eq_getElem (by rw [← HN.out]; exact hlt3)⟩
            have htk : (Qy.varsAt A1 A2 A3 k n2 n3 gs).take (j + 1) = (Qy.varsAt A1 A2 A3 k n2 n3 gs).take j ++ [x] := by rw [List.take_add_one, hx]; rfl
            obtain ⟨b, o, rfl, hbl3, hc⟩ := HL.out.at_ j [.pointer (some x)] (by rw [List.getElem?_map, hx]; rfl)
            have hcell := hc 0 _ rfl
            rw [Nat.mul_one, Nat.add_zero] at hcell
            have hcell2 : wr.cell? ⟨b, o + j, none⟩ = some (.pointer (some x)) := by
              rw [← hcell]
              rcases Hown.out.2 with ⟨h, _⟩ | ⟨g', cap', cur', hv, _, hh, _⟩
              · simp at h
              · simp at hv
                obtain ⟨⟨rfl, rfl⟩, _⟩ := hv
                exact World.cell?_of_block (a := ⟨b, 0 + j, none⟩) ((HK.out.rows _ _ _ hh).trans hh.symm)
            obtain ⟨fn, tmps, assign, body, hy, hR⟩ := HY.out _ x wr HJ.out (by rw [← htk]; exact List.take_prefix _ _)
            have Htk := Lib.hid htk
            have HR := Lib.hid hR
            clear hc hx htk hcell hR
            gi_wp2
            refine ⟨fun h => (by cases h), HR.out.mono ?_⟩
            rintro e W3 (⟨rfl, hJ3, hk3⟩ | ⟨rfl, hJx3, hd3⟩)
            · have HJ3 := Lib.hid hJ3; have Hk3 := Lib.hid hk3
              clear hJ3 hk3 hy
              gi_wp2
              go_roundw
              case rel => exact ⟨j + 1, by omega, by go_num, by rw [Htk.out]; exact HJ3, Lib.hid (HK.out.trans Hk3.out)⟩
              case measure => simp [intOf]; omega
            · have HJx3 := Lib.hid hJx3
              have Hd3 := Lib.hid (hd3 _ _ (by omega) Hdef2.out)
              clear hJx3 hy hd3
              gi_wp2
              refine ⟨by simp, .inl ⟨D, _, rfl, run_takeDeferred Hd3.out, ?_⟩⟩
              exact ⟨_, results_none rfl _ _ _, ⟨_, rfl⟩, .inr ⟨_, by rw [← Htk.out]; exact List.take_prefix _ _, HJxp.out _ _ D _ _ HJx3.out (by omega) Hd3.out rfl⟩⟩
          · obtain rfl : j = N := by omega
            have hall : (Qy.varsAt A1 A2 A3 k n2 n3 gs).take j = Qy.varsAt A1 A2 A3 k n2 n3 gs := List.take_of_length_le (by rw [← HN.out]; exact Nat.le_refl _)
            rw [hall] at HJ
            clear hall
            gi_wp2
            refine ⟨by simp, .inl ⟨D, _, rfl, run_takeDeferred Hdef2.out, ?_⟩⟩
            exact ⟨_, results_none rfl _ _ _, ⟨_, rfl⟩, .inl (HJp.out _ _ D _ _ HJ.out (by omega) Hdef2.out rfl)⟩
      case stop =>
        rintro D c pre W _ _ h
        exact h.elim
end Go.Proofs.YtocelmjncjompaaDoor

namespace Go.Proofs.YtocelmjncjompaaDoor
open Go.RowKit Go.Maps Go.WideMaps

theorem snoc_ind {α : Type} {p : List α → Prop} (h0 : p []) (hs : ∀ l a, p l → p (l ++ [a])) : ∀ l, p l := by
  have h : ∀ l : List α, p l.reverse := fun l => by
    induction l with
    | nil => exact h0
    | cons a r ih => rw [List.reverse_cons]; exact hs _ _ ih
  intro l
  have := h l.reverse
  rwa [List.reverse_reverse] at this
/-- The map of the numbers of those that were met. -/
def Qy.mapD (m : List Int) : DataW Unit := m.zipIdx.foldl (fun D p => D.put (.int .i64 p.1) (.lit (.int .i64 (p.2 : Nat)))) (.map [])
theorem Qy.mapD_snoc (m : List Int) (n : Int) : Qy.mapD (m ++ [n]) = (Qy.mapD m).put (.int .i64 n) (.lit (.int .i64 (m.length : Nat))) := by
  unfold Qy.mapD
  rw [List.zipIdx_append, List.foldl_append]
  simp
theorem Qy.mapD_tidy (m : List Int) : Tidy (Qy.mapD m) := by
  refine snoc_ind (p := fun m => Tidy (Qy.mapD m)) tidy_empty (fun m n ih => ?_) m
  show Tidy (Qy.mapD (m ++ [n]))
  rw [Qy.mapD_snoc]; exact ih.put (show WideAt.IsKeyLit (.int .i64 n) from trivial) _
theorem Qy.idx_snoc (m : List Int) (x n : Int) : (m ++ [x]).findIdx? (· == n) = match m.findIdx? (· == n) with | some i => some i | none => if x = n then some m.length else none := by
  rw [List.findIdx?_append]
  cases h : m.findIdx? (· == n) with
  | some i => rfl
  | none =>
    by_cases e : x = n
    · simp [e]
    · simp [e]
theorem Qy.mapD_at (m : List Int) (n : Int) (hnd : m.Nodup) (z : DataW Unit) : (Qy.mapD m).atKey (.int .i64 n) z = match m.findIdx? (· == n) with | some i => .lit (.int .i64 (i : Nat)) | none => z := by
  revert hnd
  refine snoc_ind (p := fun m => m.Nodup → (Qy.mapD m).atKey (.int .i64 n) z = match m.findIdx? (· == n) with | some i => .lit (.int .i64 (i : Nat)) | none => z) (fun _ => rfl) (fun m x ih hnd => ?_) m
  · have hnd' := List.nodup_append.1 hnd
    rw [Qy.mapD_snoc, Qy.idx_snoc]
    by_cases e : x = n
    · subst e
      rw [atKey_put_same (Qy.mapD_tidy m).isMap (show WideAt.IsKeyLit (.int .i64 x) from trivial)]
      have : m.findIdx? (· == x) = none := by
        rw [List.findIdx?_eq_none_iff]
        intro y hy
        have := hnd'.2.2 y hy x (by simp)
        simpa using this
      rw [this]
      simp
    · rw [atKey_put_other (by intro h; injection h with _ h; exact e h.symm), ih hnd'.1]
      cases m.findIdx? (· == n) with
      | some i => rfl
      | none => rw [if_neg e]
theorem Qy.mapD_has (m : List Int) (n : Int) (hnd : m.Nodup) : has (Qy.mapD m) (.int .i64 n) = (m.findIdx? (· == n)).isSome := by
  have h := Qy.mapD_at m n hnd
  cases hi : m.findIdx? (· == n) with
  | some i => exact has_true_of_atKey (fun z => by rw [h z, hi])
  | none => exact has_false_of_atKey (fun z => by rw [h z, hi])
theorem Qy.mapD_size (m : List Int) (hnd : m.Nodup) : size (Qy.mapD m) = m.length := by
  revert hnd
  refine snoc_ind (p := fun m => m.Nodup → size (Qy.mapD m) = m.length) (fun _ => rfl) (fun m x ih hnd => ?_) m
  · have hnd' := List.nodup_append.1 hnd
    rw [Qy.mapD_snoc, size_put (Qy.mapD_tidy m), Qy.mapD_has m x hnd'.1, ih hnd'.1]
    have : m.findIdx? (· == x) = none := by
      rw [List.findIdx?_eq_none_iff]
      intro y hy
      have := hnd'.2.2 y hy x (by simp)
      simpa using this
    rw [this]
    simp

theorem Qy.ixList_snoc : ∀ (l : List Int) (m : List Int) (n : Int), Qy.ixList m (l ++ [n]) = ((Qy.ixList m l).1 ++ [(Qy.ix (Qy.ixList m l).2 n).1], (Qy.ix (Qy.ixList m l).2 n).2)
  | [], m, n => rfl
  | x :: r, m, n => by
    show ((Qy.ix m x).1 :: (Qy.ixList (Qy.ix m x).2 (r ++ [n])).1, (Qy.ixList (Qy.ix m x).2 (r ++ [n])).2) = _
    rw [Qy.ixList_snoc r _ n]
    rfl
theorem Qy.ixList_len : ∀ (l : List Int) (m : List Int), (Qy.ixList m l).1.length = l.length
  | [], _ => rfl
  | x :: r, m => by
    show ((Qy.ix m x).1 :: (Qy.ixList (Qy.ix m x).2 r).1).length = _
    rw [List.length_cons, Qy.ixList_len r, List.length_cons]
theorem Qy.ixList_app : ∀ (a : List Int) (m b : List Int), Qy.ixList m (a ++ b) = ((Qy.ixList m a).1 ++ (Qy.ixList (Qy.ixList m a).2 b).1, (Qy.ixList (Qy.ixList m a).2 b).2)
  | [], m, b => rfl
  | x :: r, m, b => by
    show ((Qy.ix m x).1 :: (Qy.ixList (Qy.ix m x).2 (r ++ b)).1, (Qy.ixList (Qy.ix m x).2 (r ++ b)).2) = _
    rw [Qy.ixList_app r]
    rfl
theorem Qy.ixArg_list (m : List Int) (a : Qy.Arg) : Qy.ixArg m a = (⟨a.var, ((Qy.ixList m a.vars).1).headD a.n⟩, (Qy.ixList m a.vars).2) := by
  obtain ⟨v, n⟩ := a
  cases v <;> rfl
end Go.Proofs.YtocelmjncjompaaDoor

namespace Go.Proofs.YtocelmjncjompaaDoor
open Go.RowKit Go.Maps Go.WideMaps

/-- A row grows: the parser's block and what lies below are as they were. -/
theorem grow_rest {g B mb : Nat} {A : Option Addr} {l : List Lx.Tok} {v : Value} {cs : Array Value} {w w1 w2 : World} {base sz n : Nat} {e : TypeId} {xs : List Value} (hb : Blk w g 105 cs) (hT : Toks w B A l) (hk : KindsAt w mb) (hm : mb < g) (hB : B ≤ g)
    (hown : w.ownsRow g e sz v n xs) (he : e ≠ 105) (h1 : Below w.heap.size w w1) (hgrow : w1.grownBy w2 v.ownBlock) (hbase : base = g) :
    Blk w2 g 105 cs ∧ Toks w2 B A l ∧ KindsAt w2 mb ∧ Below (g + 1) w w2 := by
  have hlt := hb.lt
  have hne := own_ne hown hb he
  have hbel : Below (g + 1) w w2 := Below.grown (h1.mono (by omega)) hgrow (by have := h1.size; omega) (fun k hk => by
    have h2 := (World.ownsRow.lt hown k hk).1
    rcases Nat.lt_or_ge g k with h3 | h3
    · exact h3
    · obtain rfl : k = g := by omega
      exact absurd hk hne)
  exact ⟨hb.below hbel (by omega), hT.below hbel (by omega), hk.under hbel (by omega), hbel⟩

theorem PSt.drewN {g B mb : Nat} {last : Int} {s : Qy.St} {w : World} (h : PSt g B mb last s w) (n : Nat) : PSt g B mb last s (w.drewN n) := by
  obtain ⟨⟨A, c, vN, vS, vA, vT, h1, h2, h3, h4⟩, hk, hm, hB, hf, ht⟩ := h
  exact ⟨⟨A, c, vN, vS, vA, vT, h1, h2.drewN n, h3, ⟨h4.n, h4.s, h4.a, h4.t⟩⟩, hk, hm, hB, hf, ht⟩
set_option maxRecDepth 20000 in
set_option maxHeartbeats 1000000 in
theorem lKind (g B mb : Nat) (last : Int) (s : Qy.St) (w : World) (h : PSt g B mb last s w) :
    Calls Tryd.prog 86 #[.pointer (some ⟨g, 0, none⟩)] w fun e w' => e = .returned (.tuple #[.int .i64 ((Qy.kind s).1 : Nat), .bool (Qy.kOk (Qy.kind s).1)]) ∧ PSt g B mb last (Qy.kind s).2 w' ∧ Fr g w w' := by
  have Hsame := Lib.hid h
  obtain ⟨⟨A, c, vN, vS, vA, vT, hb, hT, hcap, ho⟩, hk, hm, hB, hf, htx⟩ := h
  obtain ⟨toks, names, shown, atoms, tests⟩ := s
  simp only at hb hT hcap ho hf htx
  have c0 := hb.cell 0; have c2 := hb.cell 2
  have f0 := hb.free 0
  simp at c0 c2
  obtain ⟨R, hR⟩ : ∃ R, R = Qy.kind ⟨toks, names, shown, atoms, tests⟩ := ⟨_, rfl⟩
  rw [← hR]
  cases toks with
  | nil =>
    have HR : Hid (R = (0, ⟨[], names, shown, atoms, tests⟩)) := Lib.hid hR
    clear hR hb hT ho hk htx hm hB hf
    go_enter Tryd.func86, Tryd.ntmps86
    go_wp2_with fail
    go_ret2
    exact ⟨by rw [HR.out]; rfl, by rw [HR.out]; exact Hsame.out, Fr.refl _ _⟩
  | cons t r =>
    obtain ⟨b, o, rfl, hbB, q0, q1, q2, q3⟩ := hT.at_ 0 t rfl
    have htt := hT.texts t (by simp)
    have hl := hT.len
    simp only [List.length_cons] at hl c0 hcap
    simp only [Nat.zero_mul, Nat.add_zero] at q0 q1 q2 q3
    have hlook := fun n => KindsAt.look2 (w := w.drewN n) hk (Lx.bs t.text) (by rw [Lx.bs_size]; unfold maxLen; omega)
    rw [Lx.bs_list] at hlook
    have Hc := Lib.hid (fun n => pst_cut (w := w.drewN n) hb (hT.drewN n) ⟨ho.n, ho.s, ho.a, ho.t⟩ hk hm hB hf htx)
    clear hb hT ho hk htx hf
    cases hk2 : t.kind != 1
    · have hk1 : t.kind = 1 := by simpa using hk2
      obtain ⟨K, hK⟩ : ∃ K, K = Qy.kindOf t.text := ⟨_, rfl⟩
      rw [← hK] at hlook
      cases hd : Qy.kOk K
      · rw [hd] at hlook
        have Hlook := Lib.hid hlook
        clear hlook
        have HR : Hid (R = (0, ⟨t :: r, names, shown, atoms, tests⟩) ∧ K = 0) := Lib.hid (by
          have : K = 0 := by simpa [Qy.kOk] using hd
          refine ⟨?_, this⟩
          rw [hR]; unfold Qy.kind; simp only; rw [if_neg (by rw [← hK]; simp [this])])
        clear hR hK hk1 hd
        go_enter Tryd.func86, Tryd.ntmps86
        go_wp2_with fail
        have hlook := Hlook.out
        go_quiet (fail)
        clear hlook
        go_wp2_with fail
        go_ret2
        exact ⟨by rw [HR.out.1, HR.out.2]; rfl, by rw [HR.out.1]; exact Hsame.out.drewN _, Fr.drewN _ _ _⟩
      · rw [hd] at hlook
        have Hlook := Lib.hid hlook
        clear hlook
        have HR : Hid (R = (K, ⟨r, names, shown, atoms, tests⟩) ∧ Qy.kOk K = true) := Lib.hid (by
          refine ⟨?_, hd⟩
          rw [hR]; unfold Qy.kind; simp only; rw [if_pos ⟨hk1, by rw [← hK]; simpa [Qy.kOk] using hd⟩, ← hK])
        clear hR hK hk1 hd
        have hne : b ≠ g := by omega
        go_enter Tryd.func86, Tryd.ntmps86
        go_wp2_with fail
        have hlook := Hlook.out
        go_quiet (fail)
        clear hlook
        go_wp2_with fail
        · rename_i hc1
          have hr : r = [] := List.eq_nil_of_length_eq_zero (by omega)
          go_ret2
          rw [HR.out.1]
          have hE := HR.out.2
          refine ⟨by show _ = Ending.returned (.tuple #[.int .i64 (K : Nat), .bool (Qy.kOk K)]); rw [hE]; rfl, ?_⟩
          have hF := Hc.out nq b o 0 (fun h => absurd hr h) (by rw [hr]; exact Nat.le_refl 0)
          exact ⟨by simpa using hF.1, Fr.draw (by simpa using hF.2)⟩
        · go_ret2
          rw [HR.out.1]
          have hE := HR.out.2
          refine ⟨by show _ = Ending.returned (.tuple #[.int .i64 (K : Nat), .bool (Qy.kOk K)]); rw [hE]; rfl, ?_⟩
          have hF := Hc.out nq b (o + 4) (c - 1) (fun _ => ⟨rfl, rfl⟩) (by omega)
          exact ⟨by simpa using hF.1, Fr.draw (by simpa using hF.2)⟩
    · have HR : Hid (R = (0, ⟨t :: r, names, shown, atoms, tests⟩)) := Lib.hid (by rw [hR]; unfold Qy.kind; simp only; rw [if_neg (by simp at hk2; simp [hk2])])
      clear hR hlook
      go_enter Tryd.func86, Tryd.ntmps86
      go_wp2_with fail
      go_ret2
      exact ⟨by rw [HR.out]; rfl, by rw [HR.out]; exact Hsame.out, Fr.refl _ _⟩
end Go.Proofs.YtocelmjncjompaaDoor
