/- The reference's number of digits. -/
import Derived.Test.YtocelmjncjompaaDoorLxM
import Derived.Test.YtocelmjncjompaaDoorLxWord
import Derived.Deep.QuietTactic
namespace Go.Proofs.YtocelmjncjompaaDoor
open Go.RowKit
open Lx (Tok)

theorem Lx.decVal_take {l : List UInt8} {k : Nat} {c : UInt8} (h : l[k]? = some c) : Lx.decVal 0 (l.take (k + 1)) = 10 * Lx.decVal 0 (l.take k) + (c.toNat - 48) := by
  rw [List.take_add_one, h]
  exact Lx.decVal_snoc _ _ _
theorem Lx.decVal_le (l : List UInt8) (k : Nat) : Lx.decVal 0 (l.take k) ≤ Lx.decVal 0 l := by
  have e : Lx.decVal 0 l = Lx.decVal (Lx.decVal 0 (l.take k)) (l.drop k) := by
    unfold Lx.decVal
    rw [← List.foldl_append, List.take_append_drop]
  rw [e]
  exact Lx.decVal_ge _ _

/-- How the reference answers. -/
def NumPost (s : List UInt8) (w : World) (e : Ending) (w' : World) : Prop :=
  ∃ (v : Int) (b : Bool), e = .returned (.tuple #[.int .i64 v, .bool b]) ∧ (match Lx.number s with | some n => v = n ∧ b = true | none => b = false) ∧ ∃ k, w' = w.drewN k

set_option maxHeartbeats 1000000 in
theorem rNumber (s : ByteArray) (w : World) (hs : s.size ≤ 65536) (h0 : 0 < s.size) (hf : s.data.toList.all Lx.figure = true) :
    Calls Tryd.prog 44 #[.string s] w (NumPost s.data.toList w) := by
  go_enter Tryd.func44, Tryd.ntmps44
  go_wp2
  go_loop [4, 5] (fun n i => ∃ k : Nat, k ≤ s.size ∧ i = .int .i64 k ∧ n = .int .i64 (Lx.decVal 0 (s.data.toList.take k)) ∧ Lx.decVal 0 (s.data.toList.take k) ≤ 1099511627776) (fun _ i => s.size - (intOf i).toNat)
  case atStart => exact ⟨0, by omega, rfl, rfl, by simp [Lx.decVal]⟩
  case round =>
    obtain ⟨k, hk, rfl, rfl, hb⟩ := hrel
    obtain ⟨V, hV⟩ : ∃ V, V = Lx.decVal 0 (s.data.toList.take k) := ⟨_, rfl⟩
    rw [← hV] at hb ⊢
    have HV := Lib.hid hV; clear hV
    by_cases hlt : k < s.size
    · have hget : s.data.toList[k]? = some s[k] := by
        rw [List.getElem?_eq_getElem (by rw [Lx.ba_len]; exact hlt)]
        rw [Lx.ba_get s k hlt]
      have hnext := Lx.decVal_take hget
      have hfig := Lx.figure_nat (List.all_eq_true.1 hf s[k] (List.mem_of_getElem? hget))
      have hle := Lx.decVal_le s.data.toList (k + 1)
      rw [← HV.out] at hnext
      have hgb : (s[k].toNat : Int) ≤ 57 := by omega
      have hgc : 48 ≤ (s[k].toNat : Int) := by omega
      have Hf := Lib.hid hf; have Hget := Lib.hid hget
      clear hf hget
      by_cases hbig : 1099511627776 < 10 * V + (s[k].toNat - 48)
      · have hnone : Lx.number s.data.toList = none := Lx.number_big (by omega)
        have Hnone := Lib.hid hnone
        have Hn := Lib.hid hnext; have Hle := Lib.hid hle
        clear hnone hnext hle
        have hb2 : (1099511627776 : Int) < 10 * (V : Int) + ((s[k].toNat : Int) - 48) := by omega
        go_wp2
        go_ret2
        refine ⟨_, _, rfl, ?_, 0, rfl⟩
        rw [Hnone.out]
      · have hb2 : 10 * (V : Int) + ((s[k].toNat : Int) - 48) ≤ 1099511627776 := by omega
        have Hn := Lib.hid hnext; have Hle := Lib.hid hle
        clear hnext hle
        go_wp2
        go_round
        case rel => exact ⟨k + 1, by omega, by go_num, by rw [Hn.out]; go_num, by rw [Hn.out]; omega⟩
        case measure => simp [intOf]; omega
    · obtain rfl : k = s.size := by omega
      have hall : Lx.decVal 0 s.data.toList = V := by
        have := HV.out
        rw [List.take_of_length_le (by rw [Lx.ba_len]; omega)] at this
        exact this.symm
      have hget : s.data.toList[0]? = some s[0] := by
        rw [List.getElem?_eq_getElem (by rw [Lx.ba_len]; exact h0)]
        rw [Lx.ba_get s 0 h0]
      have hhead : s.data.toList.head? = some s[0] := by rw [List.head?_eq_getElem?]; exact hget
      have hlen := Lx.ba_len s
      have Hf := Lib.hid hf; clear hf hget
      by_cases h1 : s.size = 1
      · have hnum : Lx.number s.data.toList = some V := by
          rw [← hall]
          exact Lx.number_some (by omega) (Or.inl (by omega))
        have h1' : ((s.size : Int) == 1) = true := beq_iff_eq.2 (by omega)
        have Hnum := Lib.hid hnum; have H1 := Lib.hid h1; have Hh := Lib.hid hhead
        clear hnum hall hlen h1 hhead
        go_wp2
        go_quiet (fail)
        go_wp2
        go_ret2
        refine ⟨_, _, rfl, ?_, ?_⟩
        · rw [Hnum.out]; exact ⟨rfl, rfl⟩
        · exact ⟨_, rfl⟩
      · have h1' : ((s.size : Int) == 1) = false := beq_eq_false_iff_ne.2 (by omega)
        by_cases h48 : s[0] = 48
        · have hnum : Lx.number s.data.toList = none := Lx.number_zero (by
            rintro (h | h)
            · omega
            · exact h (by rw [hhead, h48]))
          have h48' : ((s[0].toNat : Int) != 48) = false := by rw [h48]; rfl
          have Hnum := Lib.hid hnum; have H1 := Lib.hid h1; have Hh := Lib.hid hhead; have H48 := Lib.hid h48
          clear hnum hall hlen h1 hhead h48
          go_wp2
          go_quiet (fail)
          go_wp2
          go_ret2
          refine ⟨_, _, rfl, ?_, ?_⟩
          · rw [Hnum.out]
          · exact ⟨_, rfl⟩
        · have hnum : Lx.number s.data.toList = some V := by
            rw [← hall]
            exact Lx.number_some (by omega) (Or.inr (by rw [hhead]; intro h; injection h with h; exact h48 h))
          have h48' : ((s[0].toNat : Int) != 48) = true := by
            rw [bne_iff_ne]
            intro h
            exact h48 (UInt8.toNat_inj.1 (by have : (48 : UInt8).toNat = 48 := rfl; omega))
          have Hnum := Lib.hid hnum; have H1 := Lib.hid h1; have Hh := Lib.hid hhead; have H48 := Lib.hid h48
          clear hnum hall hlen h1 hhead h48
          go_wp2
          go_quiet (fail)
          go_wp2
          go_ret2
          refine ⟨_, _, rfl, ?_, ?_⟩
          · rw [Hnum.out]; exact ⟨rfl, rfl⟩
          · exact ⟨_, rfl⟩
end Go.Proofs.YtocelmjncjompaaDoor
