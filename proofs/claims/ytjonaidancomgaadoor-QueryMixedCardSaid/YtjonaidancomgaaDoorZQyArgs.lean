/- Parts of the proof, joined into one text: QyArgs, QyVars, QyIx, QyCatch. -/
import Derived.Test.YtjonaidancomgaaDoorZQyMxB
import Derived.Test.YtjonaidancomgaaDoorZQyParB
import Derived.Deep.AppendLies
import Derived.Deep.RegionLaw
import Derived.Deep.LoopGhost
import Derived.OwnWalkIn
import Derived.TacticsInMore
import Derived.LoopIn
import Derived.Stop.RegionWithIn
import Derived.Deep.RegionHeld3
import Derived.Test.YtjonaidancomgaaDoorZQyAgain
import Derived.Maps.Views
import Derived.Test.YtjonaidancomgaaDoorZQyParse
import Derived.RangeFuncLeaves
import Derived.RecoverIn

namespace Go.Proofs.YtjonaidancomgaaDoor
open Go.RowKit Go.Maps Go.WideMaps

/-- Where the arguments of the atoms and of the tests lie. -/
def Qy.inAtom (A : Option Addr) (i : Nat) : List Addr := match A with
  | some a => [⟨a.block, a.off + i * 9 + 1, none⟩, ⟨a.block, a.off + i * 9 + 3, none⟩, ⟨a.block, a.off + i * 9 + 5, none⟩]
  | none => []
def Qy.inTest (A : Option Addr) (i : Nat) : List Addr := match A with
  | some a => [⟨a.block, a.off + i * 5 + 1, none⟩, ⟨a.block, a.off + i * 5 + 3, none⟩]
  | none => []
def Qy.argsAt (A2 A3 : Option Addr) (n2 n3 : Nat) : List Addr := (List.range n2).flatMap (Qy.inAtom A2) ++ (List.range n3).flatMap (Qy.inTest A3)
def ptrs (l : List Addr) : List Value := l.map fun a => .pointer (some a)
theorem Tryd.infoArgP : (Tryd.prog.info? 59).map (fun i => (i.zero, i.size, i.bytes)) = some (some (.pointer none), 1, 8) := by kernel_rfl
theorem ptrs_app (a b : List Addr) : ptrs (a ++ b) = ptrs a ++ ptrs b := by simp [ptrs]
theorem ptrs_flat (l : List Addr) : ptrs l = (l.map fun a => [Value.pointer (some a)]).flatten := by
  induction l with
  | nil => rfl
  | cons a r ih => simp only [ptrs, List.map_cons, List.flatten_cons] at ih ⊢; rw [← ih]; rfl
theorem range_step {α : Type} (f : Nat → List α) (k : Nat) : (List.range (k + 1)).flatMap f = (List.range k).flatMap f ++ f k := by rw [List.range_succ, List.flatMap_append]; simp

/-- The box of the pointer, and the query's slices of atoms and tests. -/
structure ArgsPre (Bn Qb n2 n3 c2 c3 : Nat) (A2 A3 : Option Addr) (w : World) : Prop where
  box : Blk w Bn 58 #[.pointer (some ⟨Qb, 0, none⟩)]
  two : w.cell? ⟨Qb, 2, none⟩ = some (.slice A2 n2 c2)
  three : w.cell? ⟨Qb, 3, none⟩ = some (.slice A3 n3 c3)
  lt : Qb < w.heap.size

set_option maxRecDepth 20000 in
set_option maxHeartbeats 2000000 in
theorem argsSeq (n Bn Qb n2 n3 c2 c3 : Nat) (A2 A3 : Option Addr) (h2 : n2 ≤ 1000) (h3 : n3 ≤ 1000) (ha2 : 0 < n2 → ∃ b o, A2 = some ⟨b, o, none⟩) (ha3 : 0 < n3 → ∃ b o, A3 = some ⟨b, o, none⟩) :
    SeqB Fence.wide n Tryd.prog 34 #[.pointer (some ⟨Bn, 0, none⟩)] (fun (a : Addr) => #[.pointer (some a)]) (KT 59) (Qy.argsAt A2 A3 n2 n3) (ArgsPre Bn Qb n2 n3 c2 c3 A2 A3) := by
  intro l J Jx w hPre hJ0 _ _ hY
  obtain ⟨hB, hq2, hq3, hQ⟩ := hPre
  refine callsIn_wide.2 ?_
  obtain ⟨i0, hi0, hz0, hz1, hz2⟩ := info_parts Tryd.infoArgP
  have cB := hB.cell 0
  have hBlt := hB.lt
  simp at cB
  have HJ0 := Lib.hid hJ0; have HY := Lib.hid hY
  clear hJ0 hY hB
  obtain ⟨L1, hL1⟩ : ∃ L1, L1 = (List.range n2).flatMap (Qy.inAtom A2) := ⟨_, rfl⟩
  have HL1 := Lib.hid hL1
  clear hL1
  go_enter Tryd.func34, Tryd.ntmps34
  go_wp2_with fail
  go_loopw [3, 14] (fun v3 v14 wr => ∃ k : Nat, k ≤ n2 ∧ v14 = .int .i64 k ∧ wr.ownsRow w.heap.size 59 1 v3 (3 * k) (ptrs ((List.range k).flatMap (Qy.inAtom A2))) ∧ Below w.heap.size w wr) (fun _ v14 _ => n2 - (intOf v14).toNat)
  case atStart => exact ⟨0, by omega, rfl, ⟨rfl, .inl ⟨rfl, rfl⟩⟩, Below.refl _ _⟩
  case round =>
    obtain ⟨k, hk, rfl, hown, hbel⟩ := hrel
    by_cases hlt : k < n2
    · obtain ⟨b, o, rfl⟩ := ha2 (by omega)
      have cB' := (hbel.cell (p := ⟨Bn, 0, none⟩) hBlt).trans cB
      have cq := (hbel.cell (p := ⟨Qb, 2, none⟩) hQ).trans hq2
      have hsz := hbel.size
      obtain ⟨vA, cA, rfl⟩ := own_form hown
      have Hown := Lib.hid hown; have Hbel := Lib.hid hbel
      clear hown hbel
      go_wp2_with fail
      go_region_law (refine step_append_lies _ rfl _ _ _ rfl w.heap.size 59 i0 _ 1 8 Tryd.underlying90 hi0 hz0 hz1 hz2 rfl (by omega) _ (3 * k) _ rfl ((Hown.out.alloc _).drew) ⟨wr.heap.size, 0, none⟩ 3 3 [.pointer (some ⟨b, o + k * 9 + 1, none⟩), .pointer (some ⟨b, o + k * 9 + 3, none⟩), .pointer (some ⟨b, o + k * 9 + 5, none⟩)] rfl rfl (World.news_of_block (cs := #[.pointer (some ⟨b, o + k * 9 + 1, none⟩), .pointer (some ⟨b, o + k * 9 + 3, none⟩), .pointer (some ⟨b, o + k * 9 + 5, none⟩)]) (t := 59) (fr := (0, 0)) (heap_alloc_new wr _)) (by simp [Value.oneCell']) (by omega) (by unfold maxLen; omega) (by omega) (by simp; omega) (wr.heap.size + 1) (by simp) ?_; intro gg cap w3 hown3 hgrow3 hat3 hlt3; have HP := Lib.hid (And.intro hown3 (Below.grown (((Below.refl w.heap.size wr).alloc hsz _).drew) hgrow3 (by simp; omega) (fun j hj => (World.ownsRow.lt Hown.out j hj).1))); clear hown3 hgrow3 hat3)
      all_goals (try go_wp2_with fail)
      all_goals go_roundw
      all_goals first
        | (refine ⟨k + 1, by omega, by go_num, ?_, Hbel.out.trans HP.out.2⟩; rw [range_step, ptrs_app]; exact HP.out.1)
        | (simp [intOf]; omega)
    · obtain rfl : k = n2 := by omega
      rw [← HL1.out] at hown
      have Hown := Lib.hid hown; have Hbel := Lib.hid hbel
      have cB' := (hbel.cell (p := ⟨Bn, 0, none⟩) hBlt).trans cB
      have cq := (hbel.cell (p := ⟨Qb, 3, none⟩) hQ).trans hq3
      clear hown hbel
      go_wp2_with fail
      clear cB' cq
      go_loopw [3, 41] (fun v3 v41 wr => ∃ k2 : Nat, k2 ≤ n3 ∧ v41 = .int .i64 k2 ∧ wr.ownsRow w.heap.size 59 1 v3 (3 * k + 2 * k2) (ptrs (L1 ++ (List.range k2).flatMap (Qy.inTest A3))) ∧ Below w.heap.size w wr) (fun _ v41 _ => n3 - (intOf v41).toNat)
      case atStart => exact ⟨0, by omega, rfl, by simpa using Hown.out, Hbel.out⟩
      case round =>
        clear Hown Hbel
        obtain ⟨k2, hk2, rfl, hown, hbel⟩ := hrel
        by_cases hlt2 : k2 < n3
        · obtain ⟨b, o, rfl⟩ := ha3 (by omega)
          have cB' := (hbel.cell (p := ⟨Bn, 0, none⟩) hBlt).trans cB
          have cq := (hbel.cell (p := ⟨Qb, 3, none⟩) hQ).trans hq3
          have hsz := hbel.size
          obtain ⟨vA, cA, rfl⟩ := own_form hown
          have Hown := Lib.hid hown; have Hbel := Lib.hid hbel
          clear hown hbel
          go_wp2_with fail
          go_region_law (refine step_append_lies _ rfl _ _ _ rfl w.heap.size 59 i0 _ 1 8 Tryd.underlying90 hi0 hz0 hz1 hz2 rfl (by omega) _ (3 * k + 2 * k2) _ rfl ((Hown.out.alloc _).drew) ⟨wr.heap.size, 0, none⟩ 2 2 [.pointer (some ⟨b, o + k2 * 5 + 1, none⟩), .pointer (some ⟨b, o + k2 * 5 + 3 - 0, none⟩)] rfl rfl (World.news_of_block (cs := #[.pointer (some ⟨b, o + k2 * 5 + 1, none⟩), .pointer (some ⟨b, o + k2 * 5 + 3, none⟩)]) (t := 59) (fr := (0, 0)) (heap_alloc_new wr _)) (by simp [Value.oneCell']) (by omega) (by unfold maxLen; omega) (by omega) (by simp; omega) (wr.heap.size + 1) (by simp) ?_; intro gg cap w3 hown3 hgrow3 hat3 hlt3; have HP := Lib.hid (And.intro hown3 (Below.grown (((Below.refl w.heap.size wr).alloc hsz _).drew) hgrow3 (by simp; omega) (fun j hj => (World.ownsRow.lt Hown.out j hj).1))); clear hown3 hgrow3 hat3)
          all_goals (try go_wp2_with fail)
          all_goals go_roundw
          all_goals first
            | (refine ⟨k2 + 1, by omega, by go_num, ?_, Hbel.out.trans HP.out.2⟩; rw [range_step, ← List.append_assoc, ptrs_app]; exact HP.out.1)
            | (simp [intOf]; omega)
        · obtain rfl : k2 = n3 := by omega
          have hxs : L1 ++ (List.range k2).flatMap (Qy.inTest A3) = Qy.argsAt A2 A3 k k2 := by rw [HL1.out]; rfl
          rw [hxs] at hown
          have hlen : (Qy.argsAt A2 A3 k k2).length = 3 * k + 2 * k2 := by have := hown.1; simpa [ptrs] using this
          have hJ := Lib.hid (HJ0.out _ hbel)
          obtain ⟨A, cA, rfl, hcA, hL⟩ := own_lies hown ((Qy.argsAt A2 A3 k k2).map fun a => [.pointer (some a)]) (ptrs_flat _) (fun c hc => by
            obtain ⟨x, _, rfl⟩ := List.mem_map.1 hc; rfl) (by rw [List.length_map, hlen]) (by omega)
          have Hown := Lib.hid hown; have HL := Lib.hid hL
          have Hlen := Lib.hid hlen
          clear hown hbel hxs hL hlen HL1 HJ0
          obtain ⟨N, hN⟩ : ∃ N, N = 3 * k + 2 * k2 := ⟨_, rfl⟩
          rw [← hN] at Hown Hlen ⊢
          have hNb : N ≤ 5000 := by omega
          clear hN
          obtain ⟨w0, hw0⟩ : ∃ w0, w0 = wr := ⟨_, rfl⟩
          rw [← hw0] at hJ Hown HL ⊢
          clear hw0
          go_wp2_with fail
          refine (wpIn_wide (n := n)).1 ?_
          gi_loopw [64] (fun v64 wq => ∃ j : Nat, j ≤ N ∧ v64 = .int .i64 j ∧ Hid (J ((Qy.argsAt A2 A3 k k2).take j) wq) ∧ Hid (KT 59 w0 wq)) (fun v64 _ => N - (intOf v64).toNat)
          case atStart => exact ⟨0, by omega, rfl, hJ, Lib.hid (KT.refl _ _)⟩
          case round =>
            obtain ⟨j, hj, rfl, HJ, HK⟩ := hrel
            by_cases hlt3 : j < N
            · obtain ⟨x, hx⟩ : ∃ x, (Qy.argsAt A2 A3 k k2)[j]? = some x := ⟨_, List.getElem?_eq_getElem (by rw [Hlen.out]; exact hlt3)⟩
              have htk : (Qy.argsAt A2 A3 k k2).take (j + 1) = (Qy.argsAt A2 A3 k k2).take j ++ [x] := by rw [List.take_add_one, hx]; rfl
              obtain ⟨b, o, rfl, hbl, hc⟩ := HL.out.at_ j [.pointer (some x)] (by rw [List.getElem?_map, hx]; rfl)
              have hcell := hc 0 _ rfl
              rw [Nat.mul_one, Nat.add_zero] at hcell
              have hcell2 : wr.cell? ⟨b, o + j, none⟩ = some (.pointer (some x)) := by
                have hown2 := HK.out.own Hown.out
                rw [← hcell]
                rcases Hown.out.2 with ⟨h, _⟩ | ⟨g', cap', cur', hv, _, hh, _⟩
                · simp at h
                · simp at hv
                  obtain ⟨⟨rfl, rfl⟩, _⟩ := hv
                  exact World.cell?_of_block (a := ⟨b, 0 + j, none⟩) ((HK.out.rows _ _ _ hh).trans hh.symm)
              obtain ⟨fn, tmps, assign, body, hy, hR⟩ := HY.out _ x wr HJ.out (by rw [← htk]; exact List.take_prefix _ _)
              have Htk := Lib.hid htk
              have HR := Lib.hid hR
              clear hc hx htk hcell hR
              gi_wp2
              refine ⟨fun h => (by cases h), HR.out.mono ?_⟩
              rintro e W3 (⟨rfl, hJ3, hk3⟩ | ⟨rfl, hJx3, _⟩)
              · have HJ3 := Lib.hid hJ3; have Hk3 := Lib.hid hk3
                clear hJ3 hk3 hy
                gi_wp2
                go_roundw
                case rel => exact ⟨j + 1, by omega, by go_num, by rw [Htk.out]; exact HJ3, Lib.hid (HK.out.trans Hk3.out)⟩
                case measure => simp [intOf]; omega
              · have HJx3 := Lib.hid hJx3
                clear hJx3 hy
                gi_wp2
                refine bodyPost_ret (results_none rfl _ _ _) rfl ?_
                exact ⟨⟨_, rfl⟩, .inr ⟨_, by rw [← Htk.out]; exact List.take_prefix _ _, HJx3.out⟩⟩
            · obtain rfl : j = N := by omega
              have hall : (Qy.argsAt A2 A3 k k2).take j = Qy.argsAt A2 A3 k k2 := List.take_of_length_le (by rw [Hlen.out]; exact Nat.le_refl _)
              rw [hall] at HJ
              clear hall
              gi_wp2
              go_end0
              exact ⟨⟨_, rfl⟩, .inl HJ.out⟩
end Go.Proofs.YtjonaidancomgaaDoor

namespace Go.Proofs.YtjonaidancomgaaDoor
open Go.RowKit Go.Maps Go.WideMaps
attribute [local go_sem] Oper.semAt_some

/-- Where the numbers of the variables lie. -/
def Qy.inShow (A : Option Addr) (i : Nat) : List Addr := match A with
  | some a => [⟨a.block, a.off + i, none⟩]
  | none => []
def Qy.sel (l : List Addr) (gs : List Qy.Arg) : List Addr := (l.zip gs).flatMap fun p => if p.2.var then [⟨p.1.block, p.1.off + 1, none⟩] else []
def Qy.varsAt (A1 A2 A3 : Option Addr) (n1 n2 n3 : Nat) (gs : List Qy.Arg) : List Addr := (List.range n1).flatMap (Qy.inShow A1) ++ Qy.sel (Qy.argsAt A2 A3 n2 n3) gs
theorem Tryd.infoIntPtr : (Tryd.prog.info? 63).map (fun i => (i.zero, i.size, i.bytes)) = some (some (.pointer none), 1, 8) := by kernel_rfl
structure VarsPre (Bn Qb n1 n2 n3 c1 c2 c3 : Nat) (A1 A2 A3 : Option Addr) (gs : List Qy.Arg) (w : World) : Prop where
  box : Blk w Bn 58 #[.pointer (some ⟨Qb, 0, none⟩)]
  one : w.cell? ⟨Qb, 1, none⟩ = some (.slice A1 n1 c1)
  two : w.cell? ⟨Qb, 2, none⟩ = some (.slice A2 n2 c2)
  three : w.cell? ⟨Qb, 3, none⟩ = some (.slice A3 n3 c3)
  lt : Qb < w.heap.size
  len : gs.length = (Qy.argsAt A2 A3 n2 n3).length
  args : ∀ (i : Nat) (a : Addr) (x : Qy.Arg), (Qy.argsAt A2 A3 n2 n3)[i]? = some a → gs[i]? = some x → ∃ b o, a = ⟨b, o, none⟩ ∧ b < w.heap.size ∧ w.cell? ⟨b, o, none⟩ = some (.bool x.var)

set_option maxHeartbeats 400000 in
theorem lArguments (p : Option Addr) (w : World) : Calls Tryd.prog 19 #[.pointer p] w fun e w' => e = .returned (.func (.func 34) #[] #[.pointer (some ⟨w.heap.size, 0, none⟩)]) ∧ w' = w.alloc (.cells #[.pointer p] 58) := by
  go_enter Tryd.func19, Tryd.ntmps19
  go_wp2
  go_ret
  exact ⟨rfl, rfl⟩
set_option maxHeartbeats 400000 in
theorem lVariables (p : Option Addr) (w : World) : Calls Tryd.prog 20 #[.pointer p] w fun e w' => e = .returned (.func (.func 35) #[] #[.pointer (some ⟨w.heap.size, 0, none⟩)]) ∧ w' = w.alloc (.cells #[.pointer p] 58) := by
  go_enter Tryd.func20, Tryd.ntmps20
  go_wp2
  go_ret
  exact ⟨rfl, rfl⟩

/-- The box grows: the row's element has been stored, the box holds the new slice. -/
theorem box_grown {p base gg cap m k : Nat} {t e : TypeId} {v : Value} {xs ys : List Value} {w w1 w2 : World} (hb : Blk w p t #[v]) (hown : w.ownsRow base e 1 v m xs) (hte : e ≠ t) (h1 : Below w.heap.size w w1) (hgrow : w1.grownBy w2 v.ownBlock)
    (hown2 : w2.ownsRow base e 1 (.slice (some ⟨gg, 0, none⟩) k cap) k ys) :
    Blk w2 p t #[v] ∧ Blk (w2.setCell ⟨p, 0, none⟩ (.slice (some ⟨gg, 0, none⟩) k cap)) p t #[.slice (some ⟨gg, 0, none⟩) k cap] ∧ (w2.setCell ⟨p, 0, none⟩ (.slice (some ⟨gg, 0, none⟩) k cap)).ownsRow base e 1 (.slice (some ⟨gg, 0, none⟩) k cap) k ys := by
  have hne := own_ne hown hb hte
  have hb2 : Blk w2 p t #[v] := (hgrow.block p (by have := h1.size; have := hb.lt; omega) (fun e => hne e.symm)).trans ((h1.block p hb.lt).trans hb)
  exact ⟨hb2, by have := hb2.set 0 (.slice (some ⟨gg, 0, none⟩) k cap); simpa using this, own_setCell_far hown2 (own_ne hown2 hb2 hte) _⟩

theorem Qy.sel_snoc {pre : List Addr} {x : Addr} {gs : List Qy.Arg} {y : Qy.Arg} (h : gs[pre.length]? = some y) : Qy.sel (pre ++ [x]) gs = Qy.sel pre gs ++ (if y.var then [⟨x.block, x.off + 1, none⟩] else []) := by
  induction pre generalizing gs with
  | nil =>
    cases gs with
    | nil => simp at h
    | cons z r => simp at h; subst h; simp [Qy.sel]
  | cons p pre ih =>
    cases gs with
    | nil => simp at h
    | cons z r =>
      have := ih (gs := r) (by simpa using h)
      unfold Qy.sel at this ⊢
      rw [List.cons_append, List.zip_cons_cons, List.zip_cons_cons, List.flatMap_cons, List.flatMap_cons, this, List.append_assoc]

theorem Qy.sel_len : ∀ (l : List Addr) (gs : List Qy.Arg), (Qy.sel l gs).length ≤ l.length
  | [], gs => by simp [Qy.sel]
  | p :: r, [] => by simp [Qy.sel]
  | p :: r, z :: gs => by
    have := Qy.sel_len r gs
    unfold Qy.sel at this ⊢
    rw [List.zip_cons_cons, List.flatMap_cons, List.length_append, List.length_cons]
    split
    · simp only [List.length_cons, List.length_nil]; omega
    · simp only [List.length_nil]; omega
theorem flat_len {α : Type} (f : Nat → List α) (c : Nat) (h : ∀ i, (f i).length ≤ c) : ∀ n, ((List.range n).flatMap f).length ≤ c * n
  | 0 => by simp
  | n + 1 => by
    have := flat_len f c h n
    have := h n
    rw [range_step, List.length_append, Nat.mul_succ]
    omega
theorem Qy.args_len (A2 A3 : Option Addr) (n2 n3 : Nat) : (Qy.argsAt A2 A3 n2 n3).length ≤ 3 * n2 + 2 * n3 := by
  have h1 := flat_len (Qy.inAtom A2) 3 (fun i => by unfold Qy.inAtom; split <;> simp) n2
  have h2 := flat_len (Qy.inTest A3) 2 (fun i => by unfold Qy.inTest; split <;> simp) n3
  unfold Qy.argsAt
  rw [List.length_append]
  omega
/-- What a row's growing and a store into a box keep. -/
theorem keeps_row {B base m p i : Nat} {e t : TypeId} {v u : Value} {xs : List Value} {cs : Array Value} {W W1 w3 : World} (hown : W.ownsRow base e 1 v m xs) (h1 : Below W.heap.size W W1) (hg : W1.grownBy w3 v.ownBlock) (hb : Blk w3 p t cs) : KeepsFrom B W (w3.setCell ⟨p, i, none⟩ u) :=
  ⟨by have := h1.size; have := hg.size; simp [World.setCell]; omega, fun k o _ hk ho => by
    have hlt := (Array.getElem?_eq_some_iff.1 hk).1
    have hk1 := (h1.block k hlt).trans hk
    have hk3 : w3.heap[k]? = some o := (hg.block k (by have := h1.size; omega) (fun e1 => by
      rcases hown.2 with ⟨rfl, _⟩ | ⟨g', cap', cur', rfl, _, hh', _⟩
      · simp [Value.ownBlock] at e1
      · have : k = g' := by simpa [Value.ownBlock] using e1
        subst this
        rw [hk] at hh'
        injection hh' with hh'
        subst hh'
        cases ho)).trans hk1
    rw [Below.heap_setCell]
    · exact hk3
    · rintro rfl
      unfold Blk at hb
      rw [hk3] at hb
      injection hb with hb
      subst hb
      cases ho⟩
/-- Between two rounds: the box holds the pointers so far. -/
def VarsI (L1 : List Addr) (gs : List Qy.Arg) (w : World) (pre : List Addr) (W : World) : Prop := (∃ v, Boxed W w.heap.size 93 v ∧ W.ownsRow w.heap.size 63 1 v (L1 ++ Qy.sel pre gs).length (ptrs (L1 ++ Qy.sel pre gs)) ∧ True) ∧ Below w.heap.size w W
theorem varsI_own (L1 : List Addr) (gs : List Qy.Arg) (w : World) (B : Nat) (hB : w.heap.size ≤ B) : OwnFrom B (VarsI L1 gs w) :=
  OwnFrom.and (Own.from (holdsRow_own w.heap.size w.heap.size 93 63 1 (fun pre => (L1 ++ Qy.sel pre gs).length) (fun pre => ptrs (L1 ++ Qy.sel pre gs)) (fun _ _ => True)) _) (ownFrom_below (Nat.le_refl _) hB)
/-- At an operation that has been run: back to the run itself. -/
theorem upon_back {P : Program} {F : Fence} {n : Nat} {o : Oper} {a : Act} {K : Act → World → Prop} {Q : Exit → Act → World → Prop} {r : Result Next} (W : World) (h : (o.semAt F.round a.eval).run P W = r)
    (hk : o.uponIn F n P a K Q ((o.semAt F.round a.eval).run P W)) : o.uponIn F n P a K Q r := by rw [← h]; exact hk
theorem upon_append_lies {P : Program} {F : Fence} {n : Nat} {w : World} {o : Oper} {a : Act} {K : Act → World → Prop} {Q : Exit → Act → World → Prop} (s x : Operand) (t : TypeId)
    (ho : o.op = .call { callee := .builtin .append, args := #[s, x], argTypes := #[t, t] })
    (base : Nat) (e : TypeId) (i : TypeInfo) (z : Value) (size bytes : Nat) (ht : P.underlying t = some (.slice e)) (hi : P.info? e = some i) (hz : i.zero = some z)
    (hsize : i.size = size) (hby : i.bytes = bytes) (hzs : z.cells.size = size) (hsz : 0 < size)
    (v : Value) (k : Nat) (xs : List Value) (hs : a.eval s = v) (hown : w.ownsRow base e size v k xs)
    (ad : Addr) (m c : Nat) (news : List Value) (hx : a.eval x = .slice (some ad) m c) (hl : news.length = m * size) (hnews : ∀ j u, news[j]? = some u → w.cell? (ad.add j) = some u) (h1 : ∀ u ∈ news, u.oneCell' = true)
    (hm : 0 < m) (h63 : k + m ≤ maxLen) (hbytes : (k + m) * bytes ≤ 140737488355328) (hbase : base ≤ w.heap.size) (H : Nat) (hH : w.heap.size = H)
    (h : ∀ g cap w', w'.ownsRow base e size (.slice (some ⟨g, 0, none⟩) (k + m) cap) (k + m) (xs ++ news) → w.grownBy w' v.ownBlock → (v.ownBlock = some g ∨ g = H) → g < w'.heap.size → K (a.put o.dst (.slice (some ⟨g, 0, none⟩) (k + m) cap)) w') :
    o.uponIn F n P a K Q ((o.semAt F.round a.eval).run P w) := by
  obtain ⟨g, cap, w', hr, h2, h3, h4, h5⟩ := run_append_lies (P := P) w t o.type base e i z size bytes ht hi hz hsize hby hzs hsz v k xs hown ad m c news hl hnews h1 hm h63 hbytes hbase H hH
  rw [Oper.semAt_eq _ _ _ (by intro c; rw [ho]; exact fun h => nomatch h)]
  unfold execOp
  simp only [ho, resolve, invoke, builtin, Sem.run_bind, Sem.run_pure, Result.andThen_ok, List.map_toArray, List.map_cons, List.map_nil, hs, hx, hr]
  exact h g cap w' h2 h3 h4 h5

set_option maxRecDepth 20000 in
set_option maxHeartbeats 2000000 in
theorem varsSeq (n Bn Qb n1 n2 n3 c1 c2 c3 : Nat) (A1 A2 A3 : Option Addr) (gs : List Qy.Arg) (h1 : n1 ≤ 1000) (h2 : n2 ≤ 1000) (h3 : n3 ≤ 1000) (ha1 : 0 < n1 → ∃ b o, A1 = some ⟨b, o, none⟩) (ha2 : 0 < n2 → ∃ b o, A2 = some ⟨b, o, none⟩) (ha3 : 0 < n3 → ∃ b o, A3 = some ⟨b, o, none⟩) :
    SeqB Fence.wide n Tryd.prog 35 #[.pointer (some ⟨Bn, 0, none⟩)] (fun (a : Addr) => #[.pointer (some a)]) (KT 63) (Qy.varsAt A1 A2 A3 n1 n2 n3 gs) (VarsPre Bn Qb n1 n2 n3 c1 c2 c3 A1 A2 A3 gs) := by
  intro l J Jx w hPre hJ0 hJp hJxp hY
  obtain ⟨hB, hq1, hq2, hq3, hQ, hal, hargs⟩ := hPre
  refine callsIn_of_wp_marks Tryd.func35 rfl trivial ?_ rfl
  refine wpIn_wide.2 ?_
  obtain ⟨i0, hi0, hz0, hz1, hz2⟩ := info_parts Tryd.infoIntPtr
  have cB := hB.cell 0
  have hBlt := hB.lt
  simp at cB
  have HJ0 := Lib.hid hJ0; have HJp := Lib.hid hJp; have HJxp := Lib.hid hJxp; have HY := Lib.hid hY
  have Hal := Lib.hid hal; have Hargs := Lib.hid hargs; have HB := Lib.hid hB
  clear hJ0 hJp hJxp hY hB hal hargs
  obtain ⟨L1, hL1⟩ : ∃ L1, L1 = (List.range n1).flatMap (Qy.inShow A1) := ⟨_, rfl⟩
  have HL1 := Lib.hid hL1
  clear hL1
  simp only [Tryd.ntmps35, List.size_toArray, List.length_cons, List.length_nil, Nat.reduceAdd, Nat.reduceSub, Array.replicate_succ, Array.replicate_zero, List.push_toArray, List.append_toArray, List.nil_append, List.cons_append]
  go_wp2_with fail
  go_loopw [13] (fun v13 wr => ∃ (k : Nat) (v : Value), k ≤ n1 ∧ v13 = .int .i64 k ∧ Blk wr w.heap.size 93 #[v] ∧ wr.ownsRow w.heap.size 63 1 v k (ptrs ((List.range k).flatMap (Qy.inShow A1))) ∧ Below w.heap.size w wr) (fun v13 _ => n1 - (intOf v13).toNat)
  case atStart => exact ⟨0, _, by omega, rfl, Blk.new _ _ _, ⟨rfl, .inl ⟨rfl, rfl⟩⟩, (Below.refl _ _).alloc (Nat.le_refl _) _⟩
  case round =>
    obtain ⟨k, v, hk, rfl, hb, hown, hbel⟩ := hrel
    by_cases hlt : k < n1
    · obtain ⟨b, o, rfl⟩ := ha1 (by omega)
      have cB' := (hbel.cell (p := ⟨Bn, 0, none⟩) hBlt).trans cB
      have cq := (hbel.cell (p := ⟨Qb, 1, none⟩) hQ).trans hq1
      have hsz := hbel.size
      obtain ⟨vA, cA, rfl⟩ := own_form hown
      have d0 := hb.cell 0; have df0 := hb.free 0
      have hblt := hb.lt
      simp at d0
      have Hown := Lib.hid hown; have Hbel := Lib.hid hbel; have Hb := Lib.hid hb
      clear hown hbel hb
      go_wp2_with fail
      refine wp_region_noPanic ?_
      go_region_law (refine step_append_lies _ rfl _ _ _ rfl w.heap.size 63 i0 _ 1 8 Tryd.underlying93 hi0 hz0 hz1 hz2 rfl (by omega) _ k _ rfl ((Hown.out.alloc _).drew) ⟨wr.heap.size, 0, none⟩ 1 1 [.pointer (some ⟨b, o + k, none⟩)] rfl rfl (World.news_of_block (cs := #[.pointer (some ⟨b, o + k, none⟩)]) (t := 63) (fr := (0, 0)) (heap_alloc_new wr _)) (by simp [Value.oneCell']) (by omega) (by unfold maxLen; omega) (by omega) (by simp; omega) (wr.heap.size + 1) (by simp) ?_; intro gg cap w3 hown3 hgrow3 hat3 hlt3; have hbg := box_grown Hb.out Hown.out (by decide) (((Below.refl _ wr).alloc (Nat.le_refl _) _).drew) hgrow3 hown3; have e0 := hbg.1.cell 0; have ef0 := hbg.1.free 0; simp at e0; have HP := Lib.hid (And.intro hbg.2 (Below.grown (((Below.refl w.heap.size wr).alloc hsz _).drew) hgrow3 (by simp; omega) (fun j hj => (World.ownsRow.lt Hown.out j hj).1))); clear hbg hown3 hgrow3 hat3)
      all_goals (refine NoPanic.normal ?_)
      all_goals (try go_wp2_with fail)
      all_goals go_roundw
      all_goals first
        | (refine ⟨k + 1, _, by omega, by go_num, HP.out.1.1, ?_, Hbel.out.trans (HP.out.2.setCell (show w.heap.size ≤ (⟨w.heap.size, 0, none⟩ : Addr).block from Nat.le_refl _) _)⟩; rw [range_step, ptrs_app]; exact HP.out.1.2)
        | (simp [intOf]; omega)
    · obtain rfl : k = n1 := by omega
      rw [← HL1.out] at hown
      have hsz := hbel.size
      have cB' := (hbel.cell (p := ⟨Bn, 0, none⟩) hBlt).trans cB
      have Hown := Lib.hid hown; have Hbel := Lib.hid hbel; have Hb := Lib.hid hb
      clear hown hbel hb
      go_wp2_with fail
      refine (lArguments _ _).mono ?_
      rintro e w2 ⟨rfl, rfl⟩
      go_wp2_with fail
      obtain ⟨W0, hW0⟩ : ∃ W0, W0 = wr.alloc (.cells #[.pointer (some ⟨Qb, 0, none⟩)] 58) := ⟨_, rfl⟩
      have hsz0 : W0.heap.size = wr.heap.size + 1 := by rw [hW0]; simp
      have hpre : ∀ Y, Below W0.heap.size W0 Y → ArgsPre wr.heap.size Qb n2 n3 c2 c3 A2 A3 Y := fun Y hY => by
        have hb0 : Below w.heap.size w Y := (Hbel.out.trans (by rw [hW0]; exact (Below.refl _ _).alloc hsz _)).trans (hY.mono (by omega))
        exact ⟨(hY.block _ (by omega)).trans (by rw [hW0]; exact Blk.new _ _ _), (hb0.cell (p := ⟨Qb, 2, none⟩) hQ).trans hq2, (hb0.cell (p := ⟨Qb, 3, none⟩) hQ).trans hq3, by have := hY.size; omega⟩
      have hI0 : ∀ Y, Below W0.heap.size W0 Y → VarsI L1 gs w [] Y := fun Y hY => by
        show (∃ v, Boxed Y w.heap.size 93 v ∧ Y.ownsRow w.heap.size 63 1 v (L1 ++ Qy.sel [] gs).length (ptrs (L1 ++ Qy.sel [] gs)) ∧ True) ∧ Below w.heap.size w Y
        have hb0 : Below wr.heap.size wr Y := (show Below wr.heap.size wr W0 by rw [hW0]; exact (Below.refl _ _).alloc (Nat.le_refl _) _).trans (hY.mono (by omega))
        have he : L1 ++ Qy.sel [] gs = L1 := by simp [Qy.sel]
        have hk : L1.length = k := by have := Hown.out.1; simpa [ptrs] using this
        rw [he, hk]
        exact ⟨⟨v, (hb0.block _ Hb.out.lt).trans Hb.out, own_below Hown.out hb0, trivial⟩, Hbel.out.trans (hb0.mono hsz)⟩
      rw [← hW0]
      have HL1n : Hid (L1.length = k) := Lib.hid (by have := Hown.out.1; simpa [ptrs] using this)
      have Hpre := Lib.hid hpre; have HI0 := Lib.hid hI0
      clear hW0 hpre hI0 Hown Hbel Hb
      refine (wpIn_wide (n := n)).1 ?_
      refine wpIn_rangeB (F := Fence.wide) (n := n) rfl (fun h => (by cases h)) (gf := 34) (lb := #[.pointer (some ⟨wr.heap.size, 0, none⟩)]) rfl trivial (enters_of Tryd.func34 (by kernel_rfl) rfl)
        (argsSeq (n - 1) wr.heap.size Qb n2 n3 c2 c3 A2 A3 h2 h3 ha2 ha3) Hpre.out (fun h k => KT.trans h k) (fun W l r r' _ h => KT.put W l r r' h) (fun _ => rfl)
        (VarsI L1 gs w) (fun _ _ _ => False) (varsI_own L1 gs w W0.heap.size (by omega))
        (fun _ _ _ _ _ hs _ _ => hs) HI0.out ?a1 ?assign ?body ?done ?stop
      case assign =>
        intro l x W K hK
        gi_wp2
        exact hK
      case body =>
        intro lr pre x W hVI hpx
        obtain ⟨⟨vb, hbx, hown, -⟩, hbel⟩ := hVI
        have hix : (Qy.argsAt A2 A3 n2 n3)[pre.length]? = some x := by
          obtain ⟨tl, htl⟩ := hpx
          rw [← htl]; simp
        have hlt5 := (List.getElem?_eq_some_iff.1 hix).1
        obtain ⟨y, hy⟩ : ∃ y, gs[pre.length]? = some y := ⟨_, List.getElem?_eq_getElem (by rw [Hal.out]; exact hlt5)⟩
        obtain ⟨b, o, rfl, hbw, hcell⟩ := Hargs.out _ _ _ hix hy
        have hcx := (hbel.cell (p := ⟨b, o, none⟩) hbw).trans hcell
        have Hsn := Lib.hid (Qy.sel_snoc (x := ⟨b, o, none⟩) hy)
        have hcnt : (L1 ++ Qy.sel pre gs).length ≤ 100000 := by
          have h1 := Qy.sel_len pre gs
          have h2 := Qy.args_len A2 A3 n2 n3
          have h3 := HL1n.out
          rw [List.length_append]
          omega
        have hszW := hbel.size
        have hbl := hbx.cell
        have hbf := hbx.frozen
        have hblt := hbx.lt
        obtain ⟨AA, cA, rfl⟩ := own_form hown
        obtain ⟨N, hN⟩ : ∃ N, N = (L1 ++ Qy.sel pre gs).length := ⟨_, rfl⟩
        rw [← hN] at hown hbl hbx hcnt
        have HN := Lib.hid hN
        have Hown := Lib.hid hown; have Hbel := Lib.hid hbel; have Hb := Lib.hid hbx
        clear hown hbel hbx hix hy hpx hcell hlt5 hN
        cases hyv : y.var
        · rw [hyv] at hcx Hsn
          clear hyv
          have he : L1 ++ Qy.sel (pre ++ [⟨b, o, none⟩]) gs = L1 ++ Qy.sel pre gs := by rw [Hsn.out]; simp
          have He := Lib.hid he
          clear he
          gi_wp2
          refine ⟨KeepsFrom.refl _ _, KT.refl _ _, ⟨_, Hb.out, ?_, trivial⟩, Hbel.out⟩
          rw [He.out, ← HN.out]; exact Hown.out
        · rw [hyv] at hcx Hsn
          clear hyv
          have he : L1 ++ Qy.sel (pre ++ [⟨b, o, none⟩]) gs = (L1 ++ Qy.sel pre gs) ++ [⟨b, o + 1, none⟩] := by rw [Hsn.out]; simp
          have He := Lib.hid he
          clear he
          gi_wp2
          gi_region_with (first
            | (refine upon_back ((W.alloc (.cells #[.pointer (some ⟨b, o + 1, none⟩)] 63)).drew) (by go_simp) ?_; refine upon_append_lies _ _ _ rfl w.heap.size 63 i0 _ 1 8 Tryd.underlying93 hi0 hz0 hz1 hz2 rfl (by omega) _ N _ rfl ((Hown.out.alloc _).drew) ⟨W.heap.size, 0, none⟩ 1 1 [.pointer (some ⟨b, o + 1, none⟩)] rfl rfl (World.news_of_block (cs := #[.pointer (some ⟨b, o + 1, none⟩)]) (t := 63) (fr := (0, 0)) (heap_alloc_new W _)) (by simp [Value.oneCell']) (by omega) (by unfold maxLen; omega) (by omega) (by simp; omega) (W.heap.size + 1) (by simp) ?_; intro gg cap w3 hown3 hgrow3 hat3 hlt3; have hbg := box_grown Hb.out Hown.out (by decide) (((Below.refl _ W).alloc (Nat.le_refl _) _).drew) hgrow3 hown3; have e0 := hbg.1.cell 0; have ef0 := hbg.1.free 0; simp at e0; have hk3 : KeepsFrom W0.heap.size W (w3.setCell ⟨w.heap.size, 0, none⟩ (.slice (some ⟨gg, 0, none⟩) (N + 1) cap)) := keeps_row Hown.out (((Below.refl _ W).alloc (Nat.le_refl _) _).drew) hgrow3 hbg.1; have hKT3 := KT.set hbg.1 (show 93 ≠ 59 by decide) (((KT.refl 59 W).below (((Below.refl _ W).alloc (Nat.le_refl _) _).drew)).grown ((Hown.out.alloc _).drew) (by decide) hgrow3) 0 (.slice (some ⟨gg, 0, none⟩) (N + 1) cap); have hB3 := (Hbel.out.trans (Below.grown (((Below.refl w.heap.size W).alloc hszW _).drew) hgrow3 (by simp; omega) (fun j hj => (World.ownsRow.lt Hown.out j hj).1))).setCell (p := ⟨w.heap.size, 0, none⟩) (Nat.le_refl _) (.slice (some ⟨gg, 0, none⟩) (N + 1) cap); have HP := Lib.hid (And.intro hbg.2 (And.intro hk3 (And.intro hKT3 hB3))); clear hk3 hKT3 hB3 hbg hown3 hgrow3 hat3))
          all_goals (try gi_wp2)
          all_goals refine ⟨HP.out.2.1, HP.out.2.2.1, ⟨_, HP.out.1.1, ?_, trivial⟩, HP.out.2.2.2⟩
          all_goals (rw [He.out, List.length_append, List.length_singleton, ← HN.out, ptrs_app]; exact HP.out.1.2)
      case done =>
        intro D W hD hVI hdef
        obtain ⟨⟨vb, hbx, hown, -⟩, hbel⟩ := hVI
        have hxs : L1 ++ Qy.sel (Qy.argsAt A2 A3 n2 n3) gs = Qy.varsAt A1 A2 A3 k n2 n3 gs := by rw [HL1.out]; rfl
        rw [hxs] at hown
        have hNb : (Qy.varsAt A1 A2 A3 k n2 n3 gs).length ≤ 100000 := by
          have h1 := Qy.sel_len (Qy.argsAt A2 A3 n2 n3) gs
          have h2 := Qy.args_len A2 A3 n2 n3
          have h3 := HL1n.out
          rw [← hxs, List.length_append]
          omega
        have hbl := hbx.cell
        have hJ := Lib.hid (HJ0.out _ hbel)
        have hszW := hbel.size
        obtain ⟨A, cA, rfl, hcA, hL⟩ := own_lies hown ((Qy.varsAt A1 A2 A3 k n2 n3 gs).map fun a => [.pointer (some a)]) (ptrs_flat _) (fun c hc => by
          obtain ⟨x, _, rfl⟩ := List.mem_map.1 hc; rfl) (by rw [List.length_map]) (by omega)
        obtain ⟨N, hN⟩ : ∃ N, N = (Qy.varsAt A1 A2 A3 k n2 n3 gs).length := ⟨_, rfl⟩
        rw [← hN] at hown hbl hbx hNb hcA
        have HN := Lib.hid hN
        have Hown := Lib.hid hown; have HL := Lib.hid hL; have Hdef := Lib.hid hdef
        clear hown hbel hbx hL hdef hxs hN
        obtain ⟨w0, hw0⟩ : ∃ w0, w0 = W := ⟨_, rfl⟩
        rw [← hw0] at hJ Hown HL Hdef hbl hszW ⊢
        clear hw0
        dsimp only
        go_wp2_with fail
        refine (wpIn_wide (n := n)).1 ?_
        gi_loopw [41] (fun v41 wq => ∃ j : Nat, j ≤ N ∧ v41 = .int .i64 j ∧ Hid (J ((Qy.varsAt A1 A2 A3 k n2 n3 gs).take j) wq) ∧ Hid (KT 63 w0 wq)) (fun v41 _ => N - (intOf v41).toNat)
        case atStart => exact ⟨0, by omega, rfl, hJ, Lib.hid (KT.refl _ _)⟩
        case round =>
          obtain ⟨j, hj, rfl, HJ, HK⟩ := hrel
          have Hdef2 := Lib.hid (HK.out.defs _ _ Hdef.out)
          by_cases hlt3 : j < N
          · obtain ⟨x, hx⟩ : ∃ x, (Qy.varsAt A1 A2 A3 k n2 n3 gs)[j]? = some x := ⟨_, List.getElem?_eq_getElem (by rw [← HN.out]; exact hlt3)⟩
            have htk : (Qy.varsAt A1 A2 A3 k n2 n3 gs).take (j + 1) = (Qy.varsAt A1 A2 A3 k n2 n3 gs).take j ++ [x] := by rw [List.take_add_one, hx]; rfl
            obtain ⟨b, o, rfl, hbl3, hc⟩ := HL.out.at_ j [.pointer (some x)] (by rw [List.getElem?_map, hx]; rfl)
            have hcell := hc 0 _ rfl
            rw [Nat.mul_one, Nat.add_zero] at hcell
            have hcell2 : wr.cell? ⟨b, o + j, none⟩ = some (.pointer (some x)) := by
              rw [← hcell]
              rcases Hown.out.2 with ⟨h, _⟩ | ⟨g', cap', cur', hv, _, hh, _⟩
              · simp at h
              · simp at hv
                obtain ⟨⟨rfl, rfl⟩, _⟩ := hv
                exact World.cell?_of_block (a := ⟨b, 0 + j, none⟩) ((HK.out.rows _ _ _ hh).trans hh.symm)
            obtain ⟨fn, tmps, assign, body, hy, hR⟩ := HY.out _ x wr HJ.out (by rw [← htk]; exact List.take_prefix _ _)
            have Htk := Lib.hid htk
            have HR := Lib.hid hR
            clear hc hx htk hcell hR
            gi_wp2
            refine ⟨fun h => (by cases h), HR.out.mono ?_⟩
            rintro e W3 (⟨rfl, hJ3, hk3⟩ | ⟨rfl, hJx3, hd3⟩)
            · have HJ3 := Lib.hid hJ3; have Hk3 := Lib.hid hk3
              clear hJ3 hk3 hy
              gi_wp2
              go_roundw
              case rel => exact ⟨j + 1, by omega, by go_num, by rw [Htk.out]; exact HJ3, Lib.hid (HK.out.trans Hk3.out)⟩
              case measure => simp [intOf]; omega
            · have HJx3 := Lib.hid hJx3
              have Hd3 := Lib.hid (hd3 _ _ (by omega) Hdef2.out)
              clear hJx3 hy hd3
              gi_wp2
              refine ⟨by simp, .inl ⟨D, _, rfl, run_takeDeferred Hd3.out, ?_⟩⟩
              exact ⟨_, results_none rfl _ _ _, ⟨_, rfl⟩, .inr ⟨_, by rw [← Htk.out]; exact List.take_prefix _ _, HJxp.out _ _ D _ _ HJx3.out (by omega) Hd3.out rfl⟩⟩
          · obtain rfl : j = N := by omega
            have hall : (Qy.varsAt A1 A2 A3 k n2 n3 gs).take j = Qy.varsAt A1 A2 A3 k n2 n3 gs := List.take_of_length_le (by rw [← HN.out]; exact Nat.le_refl _)
            rw [hall] at HJ
            clear hall
            gi_wp2
            refine ⟨by simp, .inl ⟨D, _, rfl, run_takeDeferred Hdef2.out, ?_⟩⟩
            exact ⟨_, results_none rfl _ _ _, ⟨_, rfl⟩, .inl (HJp.out _ _ D _ _ HJ.out (by omega) Hdef2.out rfl)⟩
      case stop =>
        rintro D c pre W _ _ h
        exact h.elim
end Go.Proofs.YtjonaidancomgaaDoor

namespace Go.Proofs.YtjonaidancomgaaDoor
open Go.RowKit Go.Maps Go.WideMaps

theorem snoc_ind {α : Type} {p : List α → Prop} (h0 : p []) (hs : ∀ l a, p l → p (l ++ [a])) : ∀ l, p l := by
  have h : ∀ l : List α, p l.reverse := fun l => by
    induction l with
    | nil => exact h0
    | cons a r ih => rw [List.reverse_cons]; exact hs _ _ ih
  intro l
  have := h l.reverse
  rwa [List.reverse_reverse] at this
/-- The map of the numbers of those that were met. -/
def Qy.mapD (m : List Int) : DataW Unit := m.zipIdx.foldl (fun D p => D.put (.int .i64 p.1) (.lit (.int .i64 (p.2 : Nat)))) (.map [])
theorem Qy.mapD_snoc (m : List Int) (n : Int) : Qy.mapD (m ++ [n]) = (Qy.mapD m).put (.int .i64 n) (.lit (.int .i64 (m.length : Nat))) := by
  unfold Qy.mapD
  rw [List.zipIdx_append, List.foldl_append]
  simp
theorem Qy.mapD_tidy (m : List Int) : Tidy (Qy.mapD m) := by
  refine snoc_ind (p := fun m => Tidy (Qy.mapD m)) tidy_empty (fun m n ih => ?_) m
  show Tidy (Qy.mapD (m ++ [n]))
  rw [Qy.mapD_snoc]; exact ih.put (show WideAt.IsKeyLit (.int .i64 n) from trivial) _
theorem Qy.idx_snoc (m : List Int) (x n : Int) : (m ++ [x]).findIdx? (· == n) = match m.findIdx? (· == n) with | some i => some i | none => if x = n then some m.length else none := by
  rw [List.findIdx?_append]
  cases h : m.findIdx? (· == n) with
  | some i => rfl
  | none =>
    by_cases e : x = n
    · simp [e]
    · simp [e]
theorem Qy.mapD_at (m : List Int) (n : Int) (hnd : m.Nodup) (z : DataW Unit) : (Qy.mapD m).atKey (.int .i64 n) z = match m.findIdx? (· == n) with | some i => .lit (.int .i64 (i : Nat)) | none => z := by
  revert hnd
  refine snoc_ind (p := fun m => m.Nodup → (Qy.mapD m).atKey (.int .i64 n) z = match m.findIdx? (· == n) with | some i => .lit (.int .i64 (i : Nat)) | none => z) (fun _ => rfl) (fun m x ih hnd => ?_) m
  · have hnd' := List.nodup_append.1 hnd
    rw [Qy.mapD_snoc, Qy.idx_snoc]
    by_cases e : x = n
    · subst e
      rw [atKey_put_same (Qy.mapD_tidy m).isMap (show WideAt.IsKeyLit (.int .i64 x) from trivial)]
      have : m.findIdx? (· == x) = none := by
        rw [List.findIdx?_eq_none_iff]
        intro y hy
        have := hnd'.2.2 y hy x (by simp)
        simpa using this
      rw [this]
      simp
    · rw [atKey_put_other (by intro h; injection h with _ h; exact e h.symm), ih hnd'.1]
      cases m.findIdx? (· == n) with
      | some i => rfl
      | none => rw [if_neg e]
theorem Qy.mapD_has (m : List Int) (n : Int) (hnd : m.Nodup) : has (Qy.mapD m) (.int .i64 n) = (m.findIdx? (· == n)).isSome := by
  have h := Qy.mapD_at m n hnd
  cases hi : m.findIdx? (· == n) with
  | some i => exact has_true_of_atKey (fun z => by rw [h z, hi])
  | none => exact has_false_of_atKey (fun z => by rw [h z, hi])
theorem Qy.mapD_size (m : List Int) (hnd : m.Nodup) : size (Qy.mapD m) = m.length := by
  revert hnd
  refine snoc_ind (p := fun m => m.Nodup → size (Qy.mapD m) = m.length) (fun _ => rfl) (fun m x ih hnd => ?_) m
  · have hnd' := List.nodup_append.1 hnd
    rw [Qy.mapD_snoc, size_put (Qy.mapD_tidy m), Qy.mapD_has m x hnd'.1, ih hnd'.1]
    have : m.findIdx? (· == x) = none := by
      rw [List.findIdx?_eq_none_iff]
      intro y hy
      have := hnd'.2.2 y hy x (by simp)
      simpa using this
    rw [this]
    simp

theorem Qy.ixList_snoc : ∀ (l : List Int) (m : List Int) (n : Int), Qy.ixList m (l ++ [n]) = ((Qy.ixList m l).1 ++ [(Qy.ix (Qy.ixList m l).2 n).1], (Qy.ix (Qy.ixList m l).2 n).2)
  | [], m, n => rfl
  | x :: r, m, n => by
    show ((Qy.ix m x).1 :: (Qy.ixList (Qy.ix m x).2 (r ++ [n])).1, (Qy.ixList (Qy.ix m x).2 (r ++ [n])).2) = _
    rw [Qy.ixList_snoc r _ n]
    rfl
theorem Qy.ixList_len : ∀ (l : List Int) (m : List Int), (Qy.ixList m l).1.length = l.length
  | [], _ => rfl
  | x :: r, m => by
    show ((Qy.ix m x).1 :: (Qy.ixList (Qy.ix m x).2 r).1).length = _
    rw [List.length_cons, Qy.ixList_len r, List.length_cons]
theorem Qy.ixList_app : ∀ (a : List Int) (m b : List Int), Qy.ixList m (a ++ b) = ((Qy.ixList m a).1 ++ (Qy.ixList (Qy.ixList m a).2 b).1, (Qy.ixList (Qy.ixList m a).2 b).2)
  | [], m, b => rfl
  | x :: r, m, b => by
    show ((Qy.ix m x).1 :: (Qy.ixList (Qy.ix m x).2 (r ++ b)).1, (Qy.ixList (Qy.ix m x).2 (r ++ b)).2) = _
    rw [Qy.ixList_app r]
    rfl
theorem Qy.ixArg_list (m : List Int) (a : Qy.Arg) : Qy.ixArg m a = (⟨a.var, ((Qy.ixList m a.vars).1).headD a.n⟩, (Qy.ixList m a.vars).2) := by
  obtain ⟨v, n⟩ := a
  cases v <;> rfl
end Go.Proofs.YtjonaidancomgaaDoor

namespace Go.Proofs.YtjonaidancomgaaDoor
open Go.RowKit

set_option maxHeartbeats 1000000 in
theorem qCatchIdle (n : Nat) (p q r : Addr) (w : World) :
    CallsDIn Fence.wide n Tryd.prog 24 #[.pointer (some p), .pointer (some q), .pointer (some r)] .returning w fun e u' w' => e = .returned (.tuple #[]) ∧ u' = .returning ∧ w' = w := by
  refine callsDIn_of_wpSIn Tryd.func24 rfl trivial fun c₀ cs hu => ?_
  apply wpSIn_seq
  apply wpSIn_region
  simp [wpOpsSIn, go_sem, recoverD, hu, Tryd.ntmps24, Exit.thenS, Array.replicate_succ]
  refine wpSIn_of_wpIn rfl (wpIn_wide.2 ?_)
  go_wp2
  cases c₀
  simp_all [bodyPostS, results, Tryd.results24]

theorem assert_failure (p x : Int) (w : World) : (Instr.typeAssert (.iface 70 (.agg #[.int .i64 p, .int .i64 x])) 20 70 true).run Tryd.prog w = .ok (.tuple #[.agg #[.int .i64 p, .int .i64 x], .bool true]) w := by kernel_rfl

set_option maxHeartbeats 1000000 in
theorem qCatch (n N : Nat) (p x : Int) (cq : Array Value) (x1 x2 : Value) (hcq : cq.size = 4) (w : World) (h0 : Blk w N 27 cq) (h1 : Blk w (N + 1) 3 #[x1]) (h2 : Blk w (N + 2) 31 #[x2]) :
    CallsDIn Fence.wide n Tryd.prog 24 #[.pointer (some ⟨N, 0, none⟩), .pointer (some ⟨N + 1, 0, none⟩), .pointer (some ⟨N + 2, 0, none⟩)] (.panicking [{ v := .iface 70 (.agg #[.int .i64 p, .int .i64 x]), recovered := false }]) w fun e u' w' =>
      e = .returned (.tuple #[]) ∧ u' = .panicking [{ v := .iface 70 (.agg #[.int .i64 p, .int .i64 x]), recovered := true }] ∧ Blk w' N 27 #[.slice none 0 0, .slice none 0 0, .slice none 0 0, .slice none 0 0] ∧ Blk w' (N + 1) 3 #[.int .i64 p] ∧ Blk w' (N + 2) 31 #[.int .i64 x] ∧ Below N w w' := by
  obtain ⟨y0, y1, y2, y3, rfl⟩ : ∃ y0 y1 y2 y3, cq = #[y0, y1, y2, y3] := by
    obtain ⟨l⟩ := cq
    match l, hcq with
    | [y0, y1, y2, y3], _ => exact ⟨y0, y1, y2, y3, rfl⟩
  refine callsDIn_of_wpSIn Tryd.func24 rfl trivial fun c₀ cs hu => ?_
  apply wpSIn_seq
  apply wpSIn_region
  simp [wpOpsSIn, go_sem, recoverD, hu, Tryd.ntmps24, Exit.thenS, Array.replicate_succ]
  refine wpSIn_of_wpIn rfl (wpIn_wide.2 ?_)
  have l2 := h2.lt
  have hta := assert_failure
  go_wp2
  clear hta hcq hu
  obtain ⟨W, hW⟩ : ∃ W, W = w.alloc (Obj.cells #[Value.int IntKind.i64 p, Value.int IntKind.i64 x] 70) := ⟨_, rfl⟩
  rw [← hW]
  have h0a : Blk W N 27 #[y0, y1, y2, y3] := by rw [hW]; exact h0.alloc _
  have h1a : Blk W (N + 1) 3 #[x1] := by rw [hW]; exact h1.alloc _
  have h2a : Blk W (N + 2) 31 #[x2] := by rw [hW]; exact h2.alloc _
  have h3a : Blk W w.heap.size 70 #[.int .i64 p, .int .i64 x] := by rw [hW]; exact Blk.new _ _ _
  have hbel : Below N w W := by rw [hW]; exact (Below.refl _ _).alloc (by omega) _
  have c0 := h0a.cell 0; have c1 := h0a.cell 1; have c2 := h0a.cell 2; have c3 := h0a.cell 3; have e1 := h1a.cell 0; have e2 := h2a.cell 0
  have f0 := h0a.free 0; have f1 := h0a.free 1; have f2 := h0a.free 2; have f3 := h0a.free 3; have g1 := h1a.free 0; have g2 := h2a.free 0
  have k0 := h3a.cell 0; have k1 := h3a.cell 1
  have hne0 : w.heap.size ≠ N := by omega
  have hne1 : w.heap.size ≠ N + 1 := by omega
  have hne2 : w.heap.size ≠ N + 2 := by omega
  simp at c0 c1 c2 c3 e1 e2 k0 k1
  have H0 := Lib.hid h0a; have H1 := Lib.hid h1a; have H2 := Lib.hid h2a; have HB := Lib.hid hbel
  clear hW h0 h1 h2 h0a h1a h2a h3a hbel
  go_region
  all_goals (refine ⟨rfl, _, rfl, .tuple #[], by simp [results, Tryd.results24], rfl, rfl, ?_⟩)
  refine ⟨?_, ?_, ?_, ?_⟩
  · have := ((((((H0.out.set 0 (.slice none 0 0)).set 1 (.slice none 0 0)).set 2 (.slice none 0 0)).set 3 (.slice none 0 0)).far (p := ⟨N + 1, 0, none⟩) (by simp) (.int .i64 p)).far (p := ⟨N + 2, 0, none⟩) (by simp) (.int .i64 x)).drew
    simpa using this
  · have := ((((((H1.out.far (p := ⟨N, 0, none⟩) (by simp) (.slice none 0 0)).far (p := ⟨N, 1, none⟩) (by simp) (.slice none 0 0)).far (p := ⟨N, 2, none⟩) (by simp) (.slice none 0 0)).far (p := ⟨N, 3, none⟩) (by simp) (.slice none 0 0)).set 0 (.int .i64 p)).far (p := ⟨N + 2, 0, none⟩) (by simp) (.int .i64 x)).drew
    simpa using this
  · have := ((((((H2.out.far (p := ⟨N, 0, none⟩) (by simp) (.slice none 0 0)).far (p := ⟨N, 1, none⟩) (by simp) (.slice none 0 0)).far (p := ⟨N, 2, none⟩) (by simp) (.slice none 0 0)).far (p := ⟨N, 3, none⟩) (by simp) (.slice none 0 0)).far (p := ⟨N + 1, 0, none⟩) (by simp) (.int .i64 p)).set 0 (.int .i64 x)).drew
    simpa using this
  · exact ((((((HB.out.setCell (p := ⟨N, 0, none⟩) (Nat.le_refl _) _).setCell (p := ⟨N, 1, none⟩) (Nat.le_refl _) _).setCell (p := ⟨N, 2, none⟩) (Nat.le_refl _) _).setCell (p := ⟨N, 3, none⟩) (Nat.le_refl _) _).setCell (p := ⟨N + 1, 0, none⟩) (show N ≤ N + 1 by omega) _).setCell (p := ⟨N + 2, 0, none⟩) (show N ≤ N + 2 by omega) _).drew
end Go.Proofs.YtjonaidancomgaaDoor
