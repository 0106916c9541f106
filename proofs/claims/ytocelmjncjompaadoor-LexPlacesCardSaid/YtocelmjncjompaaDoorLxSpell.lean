/- The text of a token, digit by digit, as the law LexPlaces spells it. -/
import Derived.Test.YtocelmjncjompaaDoorLxDec
import Derived.Test.YtocelmjncjompaaDoorLxGap
namespace Go.Proofs.YtocelmjncjompaaDoor
open Go.RowKit
open Lx (Tok)

set_option maxRecDepth 20000 in
theorem lSpelled2 (u : Nat) (p : Int) (s : ByteArray) (w : World) (hn : u ≤ 1099511627776) :
    Calls Tryd.prog 26 #[.agg #[.int .i64 2, .string s, .int .i64 u, .int .i64 p]] w fun e w' => e = .returned (.string (Lx.bs (Lib.decDigits u))) ∧ Below w.heap.size w w' := by
  have hdl := Lx.digits_len u hn
  have HN := Lib.hid hn; have HD := Lib.hid hdl; clear hn hdl
  go_enter Tryd.func26, Tryd.ntmps26
  go_wp2
  go_loopw [3, 4] (fun s i wr => ∃ (m : Nat) (x : List UInt8), m ≤ u ∧ i = .int .i64 m ∧ s = .string (Lx.bs x) ∧ Lib.decDigits u = Lib.decDigits m ++ x ∧ Below w.heap.size w wr)
    (fun _ i _ => (intOf i).toNat)
  case atStart => exact ⟨u, [], Nat.le_refl _, rfl, rfl, by simp, (Below.refl _ _).alloc (Nat.le_refl _) _⟩
  case round =>
    obtain ⟨m, x, hm, rfl, rfl, hx, hbel⟩ := hrel
    have hwr := hbel.size
    have Hbel := Lib.hid hbel; clear hbel
    have hmb : m ≤ 1099511627776 := Nat.le_trans hm HN.out
    have hxl : x.length ≤ 13 := by
      have := HD.out
      rw [hx] at this
      simp at this
      omega
    have hsz : (Lx.bs x).size = x.length := Lx.bs_size x
    have hdl := Lx.bs_size [Lx.dg m]
    obtain ⟨S, hS⟩ : ∃ S, S = Lx.bs x := ⟨_, rfl⟩
    rw [← hS] at hsz ⊢
    have HX := Lib.hid hx; have HS := Lib.hid hS
    clear hx hS
    by_cases h10 : m < 10
    · go_wp2
      rw [one_digit]
      go_wp2
      go_ret
      have := HX.out
      rw [Lx.digits_small h10] at this
      refine ⟨?_, Hbel.out.trans ((Below.refl _ _).alloc hwr _)⟩
      rw [HS.out, this, Lx.bs_app]
      rfl
    · go_wp2
      rw [one_digit]
      go_wp2
      go_roundw
      case rel =>
        refine ⟨m / 10, Lx.dg m :: x, by omega, by go_num, ?_, ?_, ?_⟩
        · rw [HS.out, Lx.bs_app]; rfl
        · rw [HX.out, Lx.digits_great h10, List.append_assoc]; rfl
        · exact Hbel.out.trans ((Below.refl _ _).alloc hwr _)
      case measure => simp [intOf]; omega

theorem lSpelled (t : Tok) (w : World) (hv : Lx.valid t = true) :
    Calls Tryd.prog 26 #[.agg #[.int .i64 t.kind, .string (Lx.bs t.text), .int .i64 t.n, .int .i64 t.pos]] w fun e w' => e = .returned (.string (Lx.bs t.out)) ∧ Below w.heap.size w w' := by
  by_cases h2 : t.kind = 2
  · obtain ⟨h0, h1⟩ := Lx.valid_num hv h2
    obtain ⟨u, hu⟩ := Int.eq_ofNat_of_zero_le h0
    have e : t.out = Lib.decDigits u := by unfold Tok.out; rw [if_pos h2, hu]; rfl
    rw [e, h2, hu]
    exact lSpelled2 u t.pos _ w (by omega)
  · have e : t.out = t.text := by unfold Tok.out; rw [if_neg h2]
    have h2' : (t.kind != 2) = true := bne_iff_ne.2 h2
    rw [e]
    clear h2 e hv
    go_enter Tryd.func26, Tryd.ntmps26
    go_wp2
    go_ret
    exact ⟨rfl, (Below.refl _ _).alloc (Nat.le_refl _) _⟩
end Go.Proofs.YtocelmjncjompaaDoor
