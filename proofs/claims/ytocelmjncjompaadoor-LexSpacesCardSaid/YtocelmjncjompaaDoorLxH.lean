/- Walks of the scanner: sign. -/
import Derived.Test.YtocelmjncjompaaDoorLxG
import Derived.Lib.IndexBytes
namespace Go.Proofs.YtocelmjncjompaaDoor
open Go.RowKit
open Lx (Tok)

def Lx.signEnd (rest : List UInt8) (a : Nat) (l : List Tok) : Option (Nat × List Tok) :=
  if Lx.comment rest then some (a + (rest.takeWhile (· != 10)).length, l) else some (a + 1, l ++ [⟨3, rest.take 1, 0, a⟩])

set_option maxHeartbeats 1000000 in
theorem lSign1 (g a : Nat) (src : ByteArray) (l : List Tok) (w : World) (hS : Scan g src a l w) (ha : a < src.size) (hc : Lx.sign src[a] = true) :
    Calls Tryd.prog 39 #[.pointer (some ⟨g, 0, none⟩)] w (Steps1 g src a w (Lx.signEnd (src.data.toList.drop a) a l)) := by
  obtain ⟨⟨v, hblk, hown⟩, hfew, hat, hlen⟩ := hS
  have hlt := hblk.lt
  obtain ⟨R, hR⟩ : ∃ R, R = src.extract a src.size := ⟨_, rfl⟩
  have hRl : R.data.toList = src.data.toList.drop a := by rw [hR, Lib.extract_to_end]
  have c0 := hblk.cell 0
  have c1 := hblk.cell 1
  have f1 := hblk.free 1
  simp at c0 c1
  have Hblk := Lib.hid hblk; clear hblk
  have Hc := Lib.hid hc; clear hc
  have hpre : ∀ W, Calls Tryd.prog 71 #[.string R, .string ⟨#[47, 47]⟩] W fun e w' => e = .returned (.bool (Lx.comment (src.data.toList.drop a))) ∧ W = w' := fun W => by
    have := cHasPrefix R ⟨#[47, 47]⟩ W
    rw [hRl] at this
    rw [← Lx.comment_iff]
    exact this
  have Hpre := Lib.hid hpre; clear hpre
  rw [← hRl] at Hpre ⊢
  have HR := Lib.hid hR
  have HRl := Lib.hid hRl
  have hRs : R.size = src.size - a := by rw [← Lx.ba_len, hRl, List.length_drop, Lx.ba_len]
  have HRs := Lib.hid hRs
  have hRe : src.extract a src.size = R := hR.symm
  clear hR hRl hRs
  cases hcom : Lx.comment R.data.toList
  case true =>
    rw [hcom] at Hpre
    have hix : ∀ W, Calls Tryd.prog 72 #[.string R, .int .u8 10] W fun e w' => e = .returned (.int .i64 (Lib.indexByte R.data.toList 10)) ∧ W = w' := fun W => cIndexByte R 10 W
    have hse : Lx.signEnd R.data.toList a l = some (a + (R.data.toList.takeWhile (· != 10)).length, l) := by unfold Lx.signEnd; rw [hcom]; rfl
    rw [hse]
    by_cases hn : Lib.indexByte R.data.toList 10 < 0
    · rw [Lx.nl_none _ hn, Lx.ba_len]
      obtain ⟨x, hx⟩ : ∃ x, x = Lib.indexByte R.data.toList 10 := ⟨_, rfl⟩
      rw [← hx] at hix hn
      have Hix := Lib.hid hix
      clear hix hx hse hcom
      go_enter Tryd.func39, Tryd.ntmps39
      go_wp2_with fail
      go_quiet ((go_at_call 71; exact quiet_left (Hpre.out _)))
      go_wp2_with fail
      go_quiet ((go_at_call 72; exact quiet_add_left (Hix.out _)))
      go_wp2_with fail
      go_end0
      have hrs := HRs.out
      exact ⟨rfl, scan_move (Hblk.out.drewN _) (own_drewN hown _) hfew (by omega) hlen _ (by omega), (bel_drewN (Below.refl _ _) _).setCell (show g ≤ (⟨g, 1, none⟩ : Addr).block from Nat.le_refl g) _⟩
    · obtain ⟨o, ho⟩ := Int.eq_ofNat_of_zero_le (show 0 ≤ Lib.indexByte R.data.toList 10 by omega)
      rw [Lx.nl_some _ o ho]
      have hol : o ≤ R.size := by have := (List.getElem?_eq_some_iff.1 (Lib.indexByte_some ho).1).1; rw [Lx.ba_len] at this; omega
      have HRs' := HRs.out
      rw [ho] at hix
      have Hix := Lib.hid hix
      clear hix hse hcom hn ho
      have hol2 : a + o ≤ src.size := by omega
      clear HRs'
      go_enter Tryd.func39, Tryd.ntmps39
      go_wp2_with fail
      go_quiet ((go_at_call 71; exact quiet_left (Hpre.out _)))
      go_wp2_with fail
      go_quiet ((go_at_call 72; exact quiet_add_left (Hix.out _)))
      go_wp2_with fail
      go_end0
      exact ⟨rfl, scan_move (Hblk.out.drewN _) (own_drewN hown _) hfew (by omega) hlen _ (by omega), (bel_drewN (Below.refl _ _) _).setCell (show g ≤ (⟨g, 1, none⟩ : Addr).block from Nat.le_refl g) _⟩
  case false =>
    rw [hcom] at Hpre
    have hse : Lx.signEnd R.data.toList a l = some (a + 1, l ++ [⟨3, R.data.toList.take 1, 0, a⟩]) := by unfold Lx.signEnd; rw [hcom]; rfl
    rw [hse]
    clear hcom hse
    obtain ⟨t, ht⟩ : ∃ t, src.extract a (a + 1) = t := ⟨_, rfl⟩
    have htl : t.data.toList = R.data.toList.take 1 := by rw [← ht, HRl.out, Lx.ext_list]
    have hts : t.size = 1 := by rw [← ht, Lx.ext_size _ _ _ (by omega)]
    have ht0 : t[0]'(by omega) = src[a] := by
      rw [← Lx.ba_get t 0 (by omega), ← Lx.ba_get src a ha]
      have : t.data.toList[0]? = src.data.toList[a]? := by rw [htl, HRl.out]; simp
      rw [List.getElem?_eq_getElem (by rw [Lx.ba_len]; omega), List.getElem?_eq_getElem (by rw [Lx.ba_len]; omega)] at this
      exact Option.some.inj this
    have hv : Lx.valid ⟨3, t.data.toList, 0, 0⟩ = true := by
      rw [Lx.valid_three t 0 0 hts, ht0, Hc.out]; rfl
    rw [← htl]
    have Hv := Lib.hid hv; have Hts := Lib.hid hts
    have htsz : 1 ≤ t.size := by omega
    have htsz2 : t.size ≤ 1 := by omega
    clear htl hts ht0 hv
    go_enter Tryd.func39, Tryd.ntmps39
    go_wp2_with fail
    go_quiet ((go_at_call 71; exact quiet_left (Hpre.out _)))
    go_wp2_with fail
    go_quiet (fail)
    go_wp2_with fail
    refine (lAddOk g a l.length src t t 3 0 0 v _ _ (Hblk.out.drewN _) (own_drewN hown _) (by omega) (by omega) (by unfold maxLen; omega) Hv.out).mono ?_
    rintro e w2 ⟨rfl, v2, hb2, ho2, hbel2⟩
    go_wp2_with fail
    go_end0
    refine ⟨rfl, ?_, (bel_drewN (Below.refl _ _) _).trans hbel2⟩
    have hs := Hts.out
    rw [hs] at hb2
    exact scan_snoc hb2 ho2 (by omega) (by omega) hlen (by rw [Lx.bs_of' (l := t.data.toList) rfl]; rfl)
end Go.Proofs.YtocelmjncjompaaDoor
