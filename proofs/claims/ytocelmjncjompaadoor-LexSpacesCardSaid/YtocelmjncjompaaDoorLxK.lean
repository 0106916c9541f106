/- Walks: lex.Same. -/
import Derived.Test.YtocelmjncjompaaDoorLxJ
namespace Go.Proofs.YtocelmjncjompaaDoor
open Go.RowKit
open Lx (Tok)

set_option maxHeartbeats 1000000 in
theorem lSame1 (k n p k' n' p' : Int) (s s' : List UInt8) (w : World) :
    Calls Tryd.prog 52 #[.agg #[.int .i64 k, .string (Lx.bs s), .int .i64 n, .int .i64 p], .agg #[.int .i64 k', .string (Lx.bs s'), .int .i64 n', .int .i64 p']] w fun e w' =>
      e = .returned (.bool (Lx.same1 ⟨k, s, n, p⟩ ⟨k', s', n', p'⟩)) ∧ Below w.heap.size w w' := by
  rw [Lx.same1_iff, ← Lx.bs_beq]
  cases e1 : k == k'
  · go_enter Tryd.func52, Tryd.ntmps52
    go_wp2
    go_ret
    exact ⟨ret_bool (by simp), ((Below.refl _ _).alloc (Nat.le_refl _) _).alloc (by simp) _⟩
  cases e2 : (Lx.bs s).toList == (Lx.bs s').toList
  all_goals
    go_enter Tryd.func52, Tryd.ntmps52
    go_wp2
    go_ret
    exact ⟨ret_bool (by simp), ((Below.refl _ _).alloc (Nat.le_refl _) _).alloc (by simp) _⟩

theorem cell_alloc_old (w : World) (O : Obj) (b i : Nat) (h : b < w.heap.size) : (w.alloc O).cell? ⟨b, i, none⟩ = w.cell? ⟨b, i, none⟩ := World.cell?_alloc_lt w O ⟨b, i, none⟩ h

set_option maxHeartbeats 1000000 in
theorem lEqualFunc (A A' : Option Addr) (c c' : Nat) (l l' : List Tok) (w : World) (h : Toks w w.heap.size A l) (h' : Toks w w.heap.size A' l') :
    Calls Tryd.prog 51 #[.slice A l.length c, .slice A' l'.length c', .func (.func 52) #[] #[]] w fun e w' =>
      e = .returned (.bool (Lx.same l l')) ∧ Below w.heap.size w w' := by
  have hlen := h.len
  have hlen' := h'.len
  by_cases hll : l.length = l'.length
  case neg =>
    have hne : ((l.length : Int) != (l'.length : Int)) = true := by rw [bne_iff_ne]; omega
    rw [Lx.same_ne l l' hll]
    have Hll := Lib.hid hll; clear hll
    go_enter Tryd.func51, Tryd.ntmps51
    go_wp2
    go_ret
    exact ⟨rfl, Below.refl _ _⟩
  have Hll := Lib.hid hll
  obtain ⟨m, hm⟩ : ∃ m, m = l'.length := ⟨_, rfl⟩
  rw [← hm] at hll ⊢
  rw [hll]
  have hml : m ≤ 3518437208883 := by omega
  have hlm : l.length ≤ m := by omega
  have hml' : l'.length ≤ m := by omega
  have hlm2 : m ≤ l.length := by omega
  have hlm3 : m ≤ l'.length := by omega
  clear hll hm hlen hlen'
  go_enter Tryd.func51, Tryd.ntmps51
  go_wp2
  go_loopw [17] (fun i wr => ∃ k : Nat, k ≤ m ∧ i = .int .i64 k ∧ Below w.heap.size w wr ∧ ∀ (j : Nat) (x y : Tok), j < k → l[j]? = some x → l'[j]? = some y → Lx.same1 x y = true) (fun i _ => m - (intOf i).toNat)
  case atStart => exact ⟨0, by omega, rfl, Below.refl _ _, fun j x y hj => absurd hj (by omega)⟩
  case round =>
    obtain ⟨k, hk, rfl, hbel, hh⟩ := hrel
    have Hh := Lib.hid hh; clear hh
    have H := h.below hbel (Nat.le_refl _)
    have H' := h'.below hbel (Nat.le_refl _)
    have hsz := hbel.size
    have Hbel := Lib.hid hbel; clear hbel
    by_cases hlt : k < m
    · obtain ⟨x, hx⟩ : ∃ x, l[k]? = some x := ⟨_, List.getElem?_eq_getElem (by omega)⟩
      obtain ⟨y, hy⟩ : ∃ y, l'[k]? = some y := ⟨_, List.getElem?_eq_getElem (by omega)⟩
      obtain ⟨b, o, rfl, hb, h4⟩ := H.at_ k x hx
      obtain ⟨b', o', rfl, hb', h4'⟩ := H'.at_ k y hy
      have Hx := Lib.hid hx; have Hy := Lib.hid hy; have HH := Lib.hid H; have HH' := Lib.hid H'
      clear hx hy H H'
      obtain ⟨p1, p2, p3, p4⟩ := h4
      obtain ⟨q1, q2, q3, q4⟩ := h4'
      have hcall := fun W => lSame1 x.kind x.n x.pos y.kind y.n y.pos x.text y.text W
      have hne1 : b < wr.heap.size := by omega
      have hne2 : b' < wr.heap.size := by omega
      have ra := fun (O : Obj) (b i : Nat) (h : b < wr.heap.size) => cell_alloc_old wr O b i h
      cases hs : Lx.same1 x y
      · have hcall' : ∀ W, Calls Tryd.prog 52 #[.agg #[.int .i64 x.kind, .string (Lx.bs x.text), .int .i64 x.n, .int .i64 x.pos], .agg #[.int .i64 y.kind, .string (Lx.bs y.text), .int .i64 y.n, .int .i64 y.pos]] W fun e w' =>
            e = .returned (.bool false) ∧ Below W.heap.size W w' := by rw [← hs]; exact hcall
        have Hcall := Lib.hid hcall'
        have Hs := Lib.hid hs
        clear hcall hcall' hs
        go_wp2_with fail
        refine (Hcall.out _).mono ?_
        rintro e w1 ⟨rfl, hb1⟩
        have Hb1 := Lib.hid hb1; clear hb1 ra
        go_wp2_with fail
        go_ret
        exact ⟨ret_bool (Lx.same_bad l l' k x y Hx.out Hy.out Hs.out).symm, Hbel.out.trans ((((Below.refl _ _).alloc (by omega) _).alloc (by simp; omega) _).trans (Hb1.out.mono (by simp; omega)))⟩
      · have hcall' : ∀ W, Calls Tryd.prog 52 #[.agg #[.int .i64 x.kind, .string (Lx.bs x.text), .int .i64 x.n, .int .i64 x.pos], .agg #[.int .i64 y.kind, .string (Lx.bs y.text), .int .i64 y.n, .int .i64 y.pos]] W fun e w' =>
            e = .returned (.bool true) ∧ Below W.heap.size W w' := by rw [← hs]; exact hcall
        have Hcall := Lib.hid hcall'
        have Hs := Lib.hid hs
        clear hcall hcall' hs
        go_wp2_with fail
        refine (Hcall.out _).mono ?_
        rintro e w1 ⟨rfl, hb1⟩
        have Hb1 := Lib.hid hb1; clear hb1 ra
        go_wp2_with fail
        go_roundw
        case rel =>
          refine ⟨k + 1, by omega, by go_num, Hbel.out.trans ((((Below.refl _ _).alloc (by omega) _).alloc (by simp; omega) _).trans (Hb1.out.mono (by simp; omega))), fun j u v hj hu hv => ?_⟩
          rcases Nat.lt_or_ge j k with hjk | hjk
          · exact Hh.out j u v hjk hu hv
          · obtain rfl : j = k := by omega
            rw [Hx.out] at hu; rw [Hy.out] at hv
            obtain rfl := Option.some.inj hu
            obtain rfl := Option.some.inj hv
            exact Hs.out
        case measure => simp [intOf]; omega
    · obtain rfl : k = m := by omega
      go_wp2
      go_ret
      exact ⟨ret_bool (Lx.same_all l l' Hll.out fun j x y hx hy => Hh.out j x y (by have := (List.getElem?_eq_some_iff.1 hx).1; omega) hx hy).symm, Hbel.out⟩

theorem lSame (A A' : Option Addr) (c c' : Nat) (l l' : List Tok) (w : World) (h : Toks w w.heap.size A l) (h' : Toks w w.heap.size A' l') :
    Calls Tryd.prog 21 #[.slice A l.length c, .slice A' l'.length c'] w fun e w' => e = .returned (.bool (Lx.same l l')) ∧ Below w.heap.size w w' := by
  have hcall := lEqualFunc A A' c c' l l' w h h'
  have Hcall := Lib.hid hcall; clear hcall
  go_enter Tryd.func21, Tryd.ntmps21
  go_wp2_with fail
  refine (Hcall.out).mono ?_
  rintro e w1 ⟨rfl, hb1⟩
  go_wp2_with fail
  go_ret
  exact ⟨rfl, hb1⟩
end Go.Proofs.YtocelmjncjompaaDoor
