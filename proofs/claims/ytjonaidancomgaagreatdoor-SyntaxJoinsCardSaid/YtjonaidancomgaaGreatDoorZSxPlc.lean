/- Parts of the proof, joined into one text: SxPlc, LxCard, LxOpen, SxCard. -/
import Derived.Test.YtjonaidancomgaaGreatDoorZSxSan
import Derived.Test.YtjonaidancomgaaGreatDoorCards
import Derived.Test.YtjonaidancomgaaGreatDoorTie
import Derived.Test.YtjonaidancomgaaGreatDoorZShelf
import Derived.WalkKit
import Derived.ProofKit
import Derived.LaidMore
import Derived.OpenShut
import Derived.Below
import Derived.ChangeSame
import Derived.Stop.Joined
import Derived.Stop.LaidErr
import Derived.Lib.LaidTab
import Derived.Deep.DeepHandedRow
import Derived.Deep.DeepWitnessRowRef
import Derived.Deep.Slices
import Derived.Deep.Fields
import Derived.Test.YtjonaidancomgaaGreatDoorZSxParC
import Derived.SliceStrings

namespace Go.Proofs.YtjonaidancomgaaGreatDoor
open Go.RowKit

def atB (e0 : Bool) (p : Int) (ts : List Lx.Tok) (k : Nat) : Bool := e0 || (ts.take k).any (fun t => t.pos == p)
theorem atB_next {e0 : Bool} {p : Int} {ts : List Lx.Tok} {k : Nat} {t : Lx.Tok} (h : ts[k]? = some t) : atB e0 p ts (k + 1) = (atB e0 p ts k || t.pos == p) := by
  unfold atB
  rw [List.take_add_one, h, List.any_append]
  simp [Bool.or_assoc]
theorem atB_all {e0 : Bool} {p : Int} {ts : List Lx.Tok} (h : e0 = true ∨ ∃ (k : Nat) (t : Lx.Tok), ts[k]? = some t ∧ t.pos = p) : atB e0 p ts ts.length = true := by
  unfold atB
  rcases h with rfl | ⟨k, t, h1, h2⟩
  · rfl
  · rw [List.take_length, Bool.or_eq_true]
    right
    exact List.any_eq_true.2 ⟨t, List.mem_of_getElem? h1, by simp [h2]⟩
theorem cat_any {w : World} {S : Nat → Prop} {x : Sx.Cat} {cs : List Value} (h : CatAt w S x cs) : ∃ a0 m0 ae0 a1 m1 ae1 a2 m2 ae2 a3 m3 ae3 a4 m4 ae4 a5 m5 ae5 a6 m6 ae6, cs = [.slice a0 m0 ae0, .slice a1 m1 ae1, .slice a2 m2 ae2, .slice a3 m3 ae3, .slice a4 m4 ae4, .slice a5 m5 ae5, .slice a6 m6 ae6] := by
  obtain ⟨A0, c0, A1, c1, A2, c2, A3, c3, A4, c4, A5, c5, A6, c6, rfl, _⟩ := h
  exact ⟨_, _, _, _, _, _, _, _, _, _, _, _, _, _, _, _, _, _, _, _, _, rfl⟩
/-- What the second parse answers. -/
def CutR (N : Nat) (t : ByteArray) (p2 x2 : Int) : Prop := ∀ W, EnvS N W → Calls Tryz.prog 12 #[.string t] W fun e w' => ∃ D0 n0 De0 D1 n1 De1 D2 n2 De2 D3 n3 De3 D4 n4 De4 D5 n5 De5 D6 n6 De6, e = .returned (.tuple #[.agg #[.slice D0 n0 De0, .slice D1 n1 De1, .slice D2 n2 De2, .slice D3 n3 De3, .slice D4 n4 De4, .slice D5 n5 De5, .slice D6 n6 De6], .int .i64 p2, .int .i64 x2]) ∧ Below W.heap.size W w'
theorem cut_call (N : Nat) (s : ByteArray) (j : Nat) (hs : s.size ≤ 3000) (hcut : Sx.parse (s.data.toList.take j) = .bad (j : Int) 100 ∨ ∃ q, Sx.parse (s.data.toList.take j) = .ok q) :
    ∃ p2 x2, CutR N (s.extract 0 j) p2 x2 ∧ (x2 = 0 ∨ x2 = 100 ∧ p2 = (j : Int)) := by
  have hxl : s.extract 0 j = Lx.bs (s.data.toList.take j) := by
    apply Lx.bs_of'
    have := Lx.ext_list s 0 j
    rw [Nat.zero_add] at this
    rw [this, List.drop_zero]
  have hsz : (s.extract 0 j).size ≤ 100000 := by rw [hxl, Lx.bs_size, List.length_take, Lx.ba_len]; omega
  have hls : (s.extract 0 j).data.toList = s.data.toList.take j := by rw [hxl, Lx.bs_list]
  rcases hcut with h | ⟨q, h⟩
  · exact ⟨j, 100, fun W hW => (sParse_bad (s.extract 0 j) N j 100 (by rw [hls]; exact h) W hW hsz).mono fun e w' ⟨h1, h2⟩ => ⟨none, 0, 0, none, 0, 0, none, 0, 0, none, 0, 0, none, 0, 0, none, 0, 0, none, 0, 0, h1, h2⟩, .inr ⟨rfl, rfl⟩⟩
  · exact ⟨0, 0, fun W hW => (sParse_ok (s.extract 0 j) N q (by rw [hls]; exact h) W hW hsz).mono fun e w' ⟨v, h1, h2, h3⟩ => by
      obtain ⟨a0, m0, ae0, a1, m1, ae1, a2, m2, ae2, a3, m3, ae3, a4, m4, ae4, a5, m5, ae5, a6, m6, ae6, rfl⟩ := cat_any h2
      exact ⟨_, _, _, _, _, _, _, _, _, _, _, _, _, _, _, _, _, _, _, _, _, h1, h3⟩, .inl rfl⟩

set_option maxRecDepth 20000 in
set_option maxHeartbeats 4000000 in
theorem plcA (N : Nat) (s : ByteArray) (ts : List Lx.Tok) (p2 x2 : Int) (w : World) (he : EnvS N w) (hlen' : s.size ≤ 3000) (htl : ts.length ≤ s.size) (hL : Lx.lex s.data.toList = .ok ts) (hp : Sx.parse s.data.toList = .bad (s.size : Nat) 100)
    (hall : atB true (s.size : Nat) ts ts.length = true) (hpc : CutR N s p2 x2) (hx2 : x2 = 0 ∨ x2 = 100 ∧ p2 = (s.size : Nat)) : Calls Tryz.prog 8 #[.string s] w (TruePost w) := by
  have HE := Lib.hid he; have HL := Lib.hid hL; have HP := Lib.hid hp; have Hall := Lib.hid hall; have Hpc := Lib.hid hpc; have Hx2 := Lib.hid hx2
  clear he hL hp hall hpc hx2
  go_enter Tryz.func8, Tryz.ntmps8
  go_wp2_with fail
  refine (sSane N w HE.out).mono ?_
  rintro e w1 ⟨rfl, b1⟩
  have B1 := Lib.hid b1; clear b1
  go_wp2_with fail
  refine (sParse_bad s N (s.size : Nat) 100 HP.out w1 (HE.out.next B1.out) (by omega)).mono ?_
  rintro e w2 ⟨rfl, b2⟩
  have B2 := Lib.hid (B1.out.trans (b2.mono B1.out.size)); clear b2
  go_wp2_with fail
  obtain ⟨W3, hW3⟩ : ∃ W3, W3 = w2.alloc (.cells #[.slice none 0 0, .slice none 0 0, .slice none 0 0, .slice none 0 0, .slice none 0 0, .slice none 0 0, .slice none 0 0] 30) := ⟨_, rfl⟩
  rw [← hW3]
  have b3 : Below w2.heap.size w2 W3 := by rw [hW3]; exact (Below.refl _ _).alloc (Nat.le_refl _) _
  have B3 := Lib.hid (B2.out.trans (b3.mono B2.out.size))
  clear b3 hW3
  refine (lLexOk s ts _ (HE.out.next B3.out).env (by omega) HL.out).mono ?_
  rintro e w4 ⟨A4, c4, rfl, hT4, hb4, _⟩
  have B4 := Lib.hid (B3.out.trans (hb4.mono B3.out.size)); have HT4 := Lib.hid hT4
  clear hb4 hT4
  go_wp2_with fail
  go_loopw [77, 9] (fun v77 v9 wr => ∃ (k : Nat), k ≤ ts.length ∧ v77 = .int .i64 k ∧ v9 = .bool (atB true (s.size : Nat) ts k) ∧ Below w4.heap.size w4 wr)
    (fun v77 _ _ => ts.length + 1 - (intOf v77).toNat)
  case atStart => exact ⟨0, by omega, rfl, by simp [atB], Below.refl _ _⟩
  case round =>
    obtain ⟨k, hk, rfl, rfl, hbel⟩ := hrel
    have Hbel := Lib.hid hbel
    have hwr := hbel.size
    have hT := HT4.out.below hbel (Nat.le_refl _)
    clear hbel
    by_cases hkl : k < ts.length
    · obtain ⟨t, ht⟩ : ∃ t, ts[k]? = some t := ⟨_, List.getElem?_eq_getElem hkl⟩
      obtain ⟨b, o, rfl, hb, p1, p2, p3, p4⟩ := hT.at_ k t ht
      have hnx : atB true (s.size : Nat) ts (k + 1) = (atB true (s.size : Nat) ts k || t.pos == (s.size : Nat)) := atB_next ht
      have Hnx := Lib.hid hnx
      clear ht hT hnx
      cases hB : atB true (s.size : Nat) ts k with
      | true =>
        go_wp2_with fail
        go_roundw
        case rel => exact ⟨k + 1, by omega, by go_num, by rw [Hnx.out, hB]; rfl, Hbel.out.trans (((Below.refl _ _).alloc (Nat.le_refl _) _).mono (by omega))⟩
        case measure => simp [intOf]; omega
      | false =>
        have Hb := Lib.hid hB
        clear hB
        go_wp2_with fail
        go_roundw
        case rel => exact ⟨k + 1, by omega, by go_num, by rw [Hnx.out, Hb.out]; rfl, Hbel.out.trans (((Below.refl _ _).alloc (Nat.le_refl _) _).mono (by omega))⟩
        case measure => simp [intOf]; omega
    · obtain rfl : k = ts.length := by omega
      rw [Hall.out]
      have B5 := Lib.hid (B4.out.trans (Hbel.out.mono B4.out.size))
      clear hT
      go_wp2_with fail
      refine (Hpc.out wr (HE.out.next B5.out)).mono ?_
      rintro e w6 ⟨D0, n0, De0, D1, n1, De1, D2, n2, De2, D3, n3, De3, D4, n4, De4, D5, n5, De5, D6, n6, De6, rfl, b6⟩
      have B6 := Lib.hid (B5.out.trans (b6.mono B5.out.size))
      clear b6
      rcases Hx2.out with rfl | ⟨rfl, rfl⟩
      · go_wp2_with fail
        go_ret
        exact ⟨rfl, B6.out.trans (((Below.refl _ _).alloc (Nat.le_refl _) _).mono B6.out.size)⟩
      · go_wp2_with fail
        go_ret
        exact ⟨rfl, B6.out.trans (((Below.refl _ _).alloc (Nat.le_refl _) _).mono B6.out.size)⟩
set_option maxRecDepth 20000 in
set_option maxHeartbeats 4000000 in
theorem plcB (N : Nat) (s : ByteArray) (j : Nat) (ts : List Lx.Tok) (p2 x2 : Int) (w : World) (he : EnvS N w) (hlen' : s.size ≤ 3000) (htl : ts.length ≤ s.size) (hj : j < s.size) (hL : Lx.lex s.data.toList = .ok ts) (hp : Sx.parse s.data.toList = .bad (j : Nat) 100)
    (hall : atB false (j : Nat) ts ts.length = true) (hpc : CutR N (s.extract 0 j) p2 x2) (hx2 : x2 = 0 ∨ x2 = 100 ∧ p2 = (j : Nat)) : Calls Tryz.prog 8 #[.string s] w (TruePost w) := by
  have HE := Lib.hid he; have HL := Lib.hid hL; have HP := Lib.hid hp; have Hall := Lib.hid hall; have Hpc := Lib.hid hpc; have Hx2 := Lib.hid hx2
  clear he hL hp hall hpc hx2
  have hj0 : ¬ (j : Int) < 0 := by omega
  have hj1 : ¬ (s.size : Int) < (j : Int) := by omega
  have hjn : ¬ (j : Int) = (s.size : Int) := by omega
  go_enter Tryz.func8, Tryz.ntmps8
  go_wp2_with fail
  refine (sSane N w HE.out).mono ?_
  rintro e w1 ⟨rfl, b1⟩
  have B1 := Lib.hid b1; clear b1
  go_wp2_with fail
  refine (sParse_bad s N (j : Nat) 100 HP.out w1 (HE.out.next B1.out) (by omega)).mono ?_
  rintro e w2 ⟨rfl, b2⟩
  have B2 := Lib.hid (B1.out.trans (b2.mono B1.out.size)); clear b2
  go_wp2_with fail
  obtain ⟨W3, hW3⟩ : ∃ W3, W3 = w2.alloc (.cells #[.slice none 0 0, .slice none 0 0, .slice none 0 0, .slice none 0 0, .slice none 0 0, .slice none 0 0, .slice none 0 0] 30) := ⟨_, rfl⟩
  rw [← hW3]
  have b3 : Below w2.heap.size w2 W3 := by rw [hW3]; exact (Below.refl _ _).alloc (Nat.le_refl _) _
  have B3 := Lib.hid (B2.out.trans (b3.mono B2.out.size))
  clear b3 hW3
  refine (lLexOk s ts _ (HE.out.next B3.out).env (by omega) HL.out).mono ?_
  rintro e w4 ⟨A4, c4, rfl, hT4, hb4, _⟩
  have B4 := Lib.hid (B3.out.trans (hb4.mono B3.out.size)); have HT4 := Lib.hid hT4
  clear hb4 hT4
  go_wp2_with fail
  go_loopw [77, 9] (fun v77 v9 wr => ∃ (k : Nat), k ≤ ts.length ∧ v77 = .int .i64 k ∧ v9 = .bool (atB false (j : Nat) ts k) ∧ Below w4.heap.size w4 wr)
    (fun v77 _ _ => ts.length + 1 - (intOf v77).toNat)
  case atStart => exact ⟨0, by omega, rfl, by simp [atB, hjn], Below.refl _ _⟩
  case round =>
    obtain ⟨k, hk, rfl, rfl, hbel⟩ := hrel
    have Hbel := Lib.hid hbel
    have hwr := hbel.size
    have hT := HT4.out.below hbel (Nat.le_refl _)
    clear hbel
    by_cases hkl : k < ts.length
    · obtain ⟨t, ht⟩ : ∃ t, ts[k]? = some t := ⟨_, List.getElem?_eq_getElem hkl⟩
      obtain ⟨b, o, rfl, hb, p1, p2, p3, p4⟩ := hT.at_ k t ht
      have hnx : atB false (j : Nat) ts (k + 1) = (atB false (j : Nat) ts k || t.pos == (j : Nat)) := atB_next ht
      have Hnx := Lib.hid hnx
      clear ht hT hnx
      cases hB : atB false (j : Nat) ts k with
      | true =>
        go_wp2_with fail
        go_roundw
        case rel => exact ⟨k + 1, by omega, by go_num, by rw [Hnx.out, hB]; rfl, Hbel.out.trans (((Below.refl _ _).alloc (Nat.le_refl _) _).mono (by omega))⟩
        case measure => simp [intOf]; omega
      | false =>
        have Hb := Lib.hid hB
        clear hB
        go_wp2_with fail
        go_roundw
        case rel => exact ⟨k + 1, by omega, by go_num, by rw [Hnx.out, Hb.out]; rfl, Hbel.out.trans (((Below.refl _ _).alloc (Nat.le_refl _) _).mono (by omega))⟩
        case measure => simp [intOf]; omega
    · obtain rfl : k = ts.length := by omega
      rw [Hall.out]
      have B5 := Lib.hid (B4.out.trans (Hbel.out.mono B4.out.size))
      clear hT
      go_wp2_with fail
      refine (Hpc.out wr (HE.out.next B5.out)).mono ?_
      rintro e w6 ⟨D0, n0, De0, D1, n1, De1, D2, n2, De2, D3, n3, De3, D4, n4, De4, D5, n5, De5, D6, n6, De6, rfl, b6⟩
      have B6 := Lib.hid (B5.out.trans (b6.mono B5.out.size))
      clear b6
      rcases Hx2.out with rfl | ⟨rfl, rfl⟩
      · go_wp2_with fail
        go_ret
        exact ⟨rfl, B6.out.trans (((Below.refl _ _).alloc (Nat.le_refl _) _).mono B6.out.size)⟩
      · go_wp2_with fail
        go_ret
        exact ⟨rfl, B6.out.trans (((Below.refl _ _).alloc (Nat.le_refl _) _).mono B6.out.size)⟩
set_option maxRecDepth 20000 in
set_option maxHeartbeats 4000000 in
theorem plcC (N : Nat) (s : ByteArray) (j : Nat) (ts : List Lx.Tok) (p2 x2 : Int) (w : World) (he : EnvS N w) (hlen' : s.size ≤ 3000) (htl : ts.length ≤ s.size) (hj : j < s.size) (hL : Lx.lex s.data.toList = .ok ts) (hp : Sx.parse s.data.toList = .bad (j : Nat) 2)
    (hall : atB false (j : Nat) ts ts.length = true) (hpc : CutR N (s.extract 0 j) p2 x2) (hx2 : x2 = 0 ∨ x2 = 100 ∧ p2 = (j : Nat)) : Calls Tryz.prog 8 #[.string s] w (TruePost w) := by
  have HE := Lib.hid he; have HL := Lib.hid hL; have HP := Lib.hid hp; have Hall := Lib.hid hall; have Hpc := Lib.hid hpc; have Hx2 := Lib.hid hx2
  clear he hL hp hall hpc hx2
  have hj0 : ¬ (j : Int) < 0 := by omega
  have hj1 : ¬ (s.size : Int) < (j : Int) := by omega
  have hjn : ¬ (j : Int) = (s.size : Int) := by omega
  go_enter Tryz.func8, Tryz.ntmps8
  go_wp2_with fail
  refine (sSane N w HE.out).mono ?_
  rintro e w1 ⟨rfl, b1⟩
  have B1 := Lib.hid b1; clear b1
  go_wp2_with fail
  refine (sParse_bad s N (j : Nat) 2 HP.out w1 (HE.out.next B1.out) (by omega)).mono ?_
  rintro e w2 ⟨rfl, b2⟩
  have B2 := Lib.hid (B1.out.trans (b2.mono B1.out.size)); clear b2
  go_wp2_with fail
  obtain ⟨W3, hW3⟩ : ∃ W3, W3 = w2.alloc (.cells #[.slice none 0 0, .slice none 0 0, .slice none 0 0, .slice none 0 0, .slice none 0 0, .slice none 0 0, .slice none 0 0] 30) := ⟨_, rfl⟩
  rw [← hW3]
  have b3 : Below w2.heap.size w2 W3 := by rw [hW3]; exact (Below.refl _ _).alloc (Nat.le_refl _) _
  have B3 := Lib.hid (B2.out.trans (b3.mono B2.out.size))
  clear b3 hW3
  refine (lLexOk s ts _ (HE.out.next B3.out).env (by omega) HL.out).mono ?_
  rintro e w4 ⟨A4, c4, rfl, hT4, hb4, _⟩
  have B4 := Lib.hid (B3.out.trans (hb4.mono B3.out.size)); have HT4 := Lib.hid hT4
  clear hb4 hT4
  go_wp2_with fail
  go_loopw [77, 9] (fun v77 v9 wr => ∃ (k : Nat), k ≤ ts.length ∧ v77 = .int .i64 k ∧ v9 = .bool (atB false (j : Nat) ts k) ∧ Below w4.heap.size w4 wr)
    (fun v77 _ _ => ts.length + 1 - (intOf v77).toNat)
  case atStart => exact ⟨0, by omega, rfl, by simp [atB, hjn], Below.refl _ _⟩
  case round =>
    obtain ⟨k, hk, rfl, rfl, hbel⟩ := hrel
    have Hbel := Lib.hid hbel
    have hwr := hbel.size
    have hT := HT4.out.below hbel (Nat.le_refl _)
    clear hbel
    by_cases hkl : k < ts.length
    · obtain ⟨t, ht⟩ : ∃ t, ts[k]? = some t := ⟨_, List.getElem?_eq_getElem hkl⟩
      obtain ⟨b, o, rfl, hb, p1, p2, p3, p4⟩ := hT.at_ k t ht
      have hnx : atB false (j : Nat) ts (k + 1) = (atB false (j : Nat) ts k || t.pos == (j : Nat)) := atB_next ht
      have Hnx := Lib.hid hnx
      clear ht hT hnx
      cases hB : atB false (j : Nat) ts k with
      | true =>
        go_wp2_with fail
        go_roundw
        case rel => exact ⟨k + 1, by omega, by go_num, by rw [Hnx.out, hB]; rfl, Hbel.out.trans (((Below.refl _ _).alloc (Nat.le_refl _) _).mono (by omega))⟩
        case measure => simp [intOf]; omega
      | false =>
        have Hb := Lib.hid hB
        clear hB
        go_wp2_with fail
        go_roundw
        case rel => exact ⟨k + 1, by omega, by go_num, by rw [Hnx.out, Hb.out]; rfl, Hbel.out.trans (((Below.refl _ _).alloc (Nat.le_refl _) _).mono (by omega))⟩
        case measure => simp [intOf]; omega
    · obtain rfl : k = ts.length := by omega
      rw [Hall.out]
      have B5 := Lib.hid (B4.out.trans (Hbel.out.mono B4.out.size))
      clear hT
      go_wp2_with fail
      refine (Hpc.out wr (HE.out.next B5.out)).mono ?_
      rintro e w6 ⟨D0, n0, De0, D1, n1, De1, D2, n2, De2, D3, n3, De3, D4, n4, De4, D5, n5, De5, D6, n6, De6, rfl, b6⟩
      have B6 := Lib.hid (B5.out.trans (b6.mono B5.out.size))
      clear b6
      rcases Hx2.out with rfl | ⟨rfl, rfl⟩
      · go_wp2_with fail
        go_ret
        exact ⟨rfl, B6.out.trans (((Below.refl _ _).alloc (Nat.le_refl _) _).mono B6.out.size)⟩
      · go_wp2_with fail
        go_ret
        exact ⟨rfl, B6.out.trans (((Below.refl _ _).alloc (Nat.le_refl _) _).mono B6.out.size)⟩
set_option maxRecDepth 20000 in
set_option maxHeartbeats 4000000 in
theorem sPlaces (N : Nat) (s : ByteArray) (w : World) (he : EnvS N w) : Calls Tryz.prog 8 #[.string s] w (TruePost w) := by
  have HE := Lib.hid he
  clear he
  by_cases hlen : 3000 < s.size
  · go_enter Tryz.func8, Tryz.ntmps8
    go_wp2_with fail
    refine (sSane N w HE.out).mono ?_
    rintro e w1 ⟨rfl, b1⟩
    have B1 := Lib.hid b1; clear b1
    go_wp2_with fail
    go_ret
    exact ⟨rfl, B1.out⟩
  have hlen' : s.size ≤ 3000 := by omega
  clear hlen
  have hll : s.data.toList.length ≤ 65536 := by rw [Lx.ba_len]; omega
  cases hL : Lx.lex s.data.toList with
  | err p =>
    have HP := Lib.hid (Sx.parse_lex_err hll hL)
    have HL := Lib.hid hL; clear hL
    go_enter Tryz.func8, Tryz.ntmps8
    go_wp2_with fail
    refine (sSane N w HE.out).mono ?_
    rintro e w1 ⟨rfl, b1⟩
    have B1 := Lib.hid b1; clear b1
    go_wp2_with fail
    refine (sParse_bad s N p 90 HP.out w1 (HE.out.next B1.out) (by omega)).mono ?_
    rintro e w2 ⟨rfl, b2⟩
    have B2 := Lib.hid (B1.out.trans (b2.mono B1.out.size)); clear b2
    go_wp2_with fail
    have b3 : Below w2.heap.size w2 (w2.alloc (.cells #[.slice none 0 0, .slice none 0 0, .slice none 0 0, .slice none 0 0, .slice none 0 0, .slice none 0 0, .slice none 0 0] 30)) := (Below.refl _ _).alloc (Nat.le_refl _) _
    have B3 := Lib.hid (B2.out.trans (b3.mono B2.out.size))
    clear b3
    refine (lLexErr s p _ (HE.out.next B3.out).env (by omega) HL.out).mono ?_
    rintro e w4 ⟨rfl, hb4, _⟩
    have B4 := Lib.hid (B3.out.trans (hb4.mono B3.out.size))
    clear hb4
    go_wp2_with fail
    go_ret
    exact ⟨rfl, B4.out⟩
  | ok ts =>
    have htl := (Lx.lex_len hL).2
    rw [Lx.ba_len] at htl
    cases hp : Sx.parse s.data.toList with
    | ok q =>
      have HL := Lib.hid hL; have HP := Lib.hid hp; clear hL hp
      go_enter Tryz.func8, Tryz.ntmps8
      go_wp2_with fail
      refine (sSane N w HE.out).mono ?_
      rintro e w1 ⟨rfl, b1⟩
      have B1 := Lib.hid b1; clear b1
      go_wp2_with fail
      refine (sParse_ok s N q HP.out w1 (HE.out.next B1.out) (by omega)).mono ?_
      rintro e w2 ⟨v1, rfl, t1, b2⟩
      have B2 := Lib.hid (B1.out.trans (b2.mono B1.out.size)); clear b2
      obtain ⟨a0, m0, ae0, a1, m1, ae1, a2, m2, ae2, a3, m3, ae3, a4, m4, ae4, a5, m5, ae5, a6, m6, ae6, rfl⟩ := cat_any t1
      clear t1
      go_wp2_with fail
      have b3 : Below w2.heap.size w2 (w2.alloc (.cells #[.slice a0 m0 ae0, .slice a1 m1 ae1, .slice a2 m2 ae2, .slice a3 m3 ae3, .slice a4 m4 ae4, .slice a5 m5 ae5, .slice a6 m6 ae6] 30)) := (Below.refl _ _).alloc (Nat.le_refl _) _
      have B3 := Lib.hid (B2.out.trans (b3.mono B2.out.size))
      clear b3
      refine (lLexOk s ts _ (HE.out.next B3.out).env (by omega) HL.out).mono ?_
      rintro e w4 ⟨A4, c4, rfl, _, hb4, _⟩
      have B4 := Lib.hid (B3.out.trans (hb4.mono B3.out.size))
      clear hb4
      go_wp2_with fail
      go_ret
      exact ⟨rfl, B4.out⟩
    | bad p x =>
      obtain ⟨j, rfl, hj, hx, hat, hcut⟩ := Sx.parse_place hll hL hp
      rw [Lx.ba_len] at hj hx hat
      obtain ⟨p2, x2, hpc, hx2⟩ := cut_call N s j hlen' hcut
      by_cases hjs : j = s.size
      · subst hjs
        obtain rfl : x = 100 := by rcases hx with h | ⟨_, h⟩ <;> omega
        have hes : s.extract 0 s.size = s := by
          have := Lx.ext_list s 0 s.size
          rw [Nat.zero_add, List.drop_zero, List.take_of_length_le (by rw [Lx.ba_len]; exact Nat.le_refl _)] at this
          exact (Lx.bs_of' this).trans (Lx.bs_of s)
        rw [hes] at hpc
        exact plcA N s ts p2 x2 w HE.out hlen' htl hL hp (atB_all (.inl rfl)) hpc hx2
      · have hall := atB_all (e0 := false) (p := (j : Int)) (ts := ts) (by
          rcases hat with h | h
          · exact absurd h hjs
          · exact .inr h)
        rcases hx with rfl | ⟨rfl, _⟩
        · exact plcB N s j ts p2 x2 w HE.out hlen' htl (by omega) hL hp hall hpc hx2
        · exact plcC N s j ts p2 x2 w HE.out hlen' htl (by omega) hL hp hall hpc hx2
end Go.Proofs.YtjonaidancomgaaGreatDoor

namespace Go.Proofs.YtjonaidancomgaaGreatDoor
open Go.RowKit Go.WideShapes Go.ChangeShapes
set_option maxRecDepth 100000

section
variable {H : Type} {enc : TypeId × Value → H} {P : Program}
theorem post_of_below {f : Func} {s : ChangeSpec} {apart fresh handsOn again : Bool} {W W' : World} {args : Array Value} {v : Value} {ds gs : List (DataW H)} {before pa pv : List MemPlace}
    (hW : DataW.Whole enc P f.params.toList s.vars apart W args.toList ds gs before)
    (hres : ∀ (b : Nat) (sp : Nat → Bool) (hd : Bool), DataW.TrodAll enc P W' b sp hd f.resultTypes.toList (v.resultList f.resultTypes.size) (s.fn H (ds ++ gs)).results [])
    (hargs : ∀ sp : Nat → Bool, (∀ p ∈ before, sp p.block = true) → DataW.TrodAll enc P W' 0 sp true f.params.toList args.toList (s.fn H (ds ++ gs)).args pa)
    (hvars : ∀ sp : Nat → Bool, (∀ p ∈ before, sp p.block = true) → DataW.TrodVars enc P W' sp s.vars (s.fn H (ds ++ gs)).vars pv)
    (hps : before = pa ++ pv) (hb : Below W.heap.size W W')
    (hok : ∀ (j : Nat) (t : TypeId) (r : Value), f.resultTypes[j]? = some t → (v.resultList f.resultTypes.size)[j]? = some r → Value.okWide P W' .any 0 t r) :
    s.post enc P f apart fresh handsOn again W args v W' := by
  have hlt : ∀ p ∈ before, p.block < W.heap.size := fun p hp => hW.lt p hp
  have hold : ∀ p ∈ before, (fun b => decide (b < W.heap.size)) p.block = true := fun p hp => by simpa using hlt p hp
  refine ⟨ds, gs, before, [], pa, pv, hW, hres _ _ _, hargs _ hold, hvars _ hold, World.keptBut_mono (fun p hp => ⟨hp, ?_⟩) (hb.frame (· ∈ before)), fun _ => ?_⟩
  · rw [hps, List.mem_append] at hp
    exact Or.inr hp
  · obtain ⟨_, _, _, _, _, hz, hn⟩ := hW
    refine ⟨hok, _, _, ([] ++ pa) ++ pv, ⟨[] ++ pa, pv, trodAll_append (hargs _ (fun _ _ => rfl)) (hres _ _ _), hvars _ (fun _ _ => rfl), rfl, ?_, ?_⟩, ?_⟩
    · intro b off hp
      have hin : MemPlace.cell b off ∈ before := by rw [hps]; simpa using hp
      rw [hb.frozen (hlt _ hin)]
      exact hz b off hin
    · intro ha
      have := hn ha
      rw [hps] at this
      simpa using this
    · intro p hp _
      rw [hps]
      simpa using hp
end

theorem own : ownKnob Tryz.prog.godebug = none := by kernel_rfl
theorem starErr : "*" ++ "errors.errorString" = "*errors.errorString" := by decide
theorem rowErr (u : TypeId) (h : Tryz.prog.typeName? 3 u = some "*errors.errorString") : u = 272 :=
  typeName_ptr_named (nm := "errors.errorString") (by rw [starErr]; kernel_rfl) (by kernel_rfl) (by decide) u (by rw [starErr]; exact h)

/-- WHAT THE LIST GIVES THE WALKS. -/
theorem env_of_laid {x y z : DataW Unit} {text : List UInt8} {r : List (String × DataW Unit)} {W : World} (hz : z = Lib.tabData .u64 Lib.pow10Tab)
    (h : laidMet Tryz.prog (("math/bits.deBruijn32tab", x) :: ("math/bits.deBruijn64tab", y) :: ("internal/strconv.uint64pow10", z) :: ("strconv.ErrRange", .iface "*errors.errorString" (.ptr (.agg [.lit (.string text)]))) :: r) W) : Env W := by
  subst hz
  have h1 := h.tail
  have h2 := h1.tail
  have h3 := h2.tail
  refine ⟨?_, ?_, ?_⟩
  · have ht := Lib.tabIs_of_head (P := Tryz.prog) (g := 8) (t := 266) (e := 229) (n := 20) (by kernel_rfl) (by kernel_rfl) Tryz.underlying266 Tryz.underlying229 (by kernel_rfl) (by kernel_rfl) h2
    unfold Lib.TabIs World.var? at ht
    rw [show Tryz.prog.globalNamed "internal/strconv.uint64pow10" = some 8 by kernel_rfl] at ht
    simp only [Option.bind_some] at ht
    split at ht
    · rename_i cs t fz hh
      cases ht
      exact ⟨t, fz, hh⟩
    · cases ht
  · obtain ⟨a, s, hv, _⟩ := laid_sentinel h3 (g := 6) (ti := 204) (by kernel_rfl) (by kernel_rfl) Tryz.underlying204 rowErr Tryz.underlying272 Tryz.underlying274 rfl rfl Tryz.underlying9 (by kernel_rfl) (by kernel_rfl)
    have := World.var?_cell (show Tryz.prog.globalNamed "strconv.ErrRange" = some 6 by kernel_rfl) hv 0
    exact ⟨_, _, by simpa using this⟩
  · obtain ⟨ps, ⟨g, t, cs, fuel, p, q, hg, _, hv, _⟩, _⟩ := h1
    obtain rfl := Option.some.inj ((show Tryz.prog.globalNamed "math/bits.deBruijn64tab" = some 10 by kernel_rfl).symm.trans hg)
    unfold World.var? at hv
    rw [hg] at hv
    simp only [Option.bind_some] at hv
    rcases Nat.lt_or_ge 10 W.heap.size with hh | hh
    · exact hh
    · rw [Array.getElem?_eq_none hh] at hv
      cases hv

/-- THE WITNESS's WORLD: the heap that the door's run leaves. -/
noncomputable def wit (os : Os) (args : Array Value) : World := (World.doorLaid Tryz.prog 87 os).forCall (fun _ _ => 0) ⟨#[], args, []⟩
theorem wit_vars (os : Os) (args : Array Value) : (wit os args).variablesRefB Tryz.prog = true := by kernel_rfl
theorem wit_rest (os : Os) (args : Array Value) : ((wit os args).heap.toList.drop Tryz.prog.globals.size).take ((begin Tryz.prog (fun _ _ => 0) default).world.heap.size - Tryz.prog.globals.size) =
      (begin Tryz.prog (fun _ _ => 0) default).world.heap.toList.drop Tryz.prog.globals.size := by kernel_rfl
end Go.Proofs.YtjonaidancomgaaGreatDoor

namespace Go.Proofs.YtjonaidancomgaaGreatDoor
open Go.RowKit Go.WideShapes Go.ChangeShapes Go.Deep


section
variable {H : Type} {enc : TypeId × Value → H} {P : Program} {w : World} {base : Nat} {spare : Nat → Bool} {held : Bool}
theorem open_slice_fields {t e : TypeId} {fs : Array Field} {fuel : Nat} {cs : List Value} {x : DataW H × List MemPlace} (ht : P.underlying t = some (.slice e)) (he : P.underlying e = some (.struct fs))
    (hone : oneCellFields P fs = true) (hC : P.cellsOf e = fs.size) (h : DataW.trod enc P w base spare held fuel t cs = some x) :
    (cs = [.slice none 0 0] ∧ x = (.nil, [])) ∨
    ∃ (a : Addr) (len cap m : Nat) (D : Nat → DataW H) (Pl : Nat → List MemPlace), cs = [.slice (some a) len cap] ∧ base ≤ a.block ∧ len ≤ cap ∧ cap ≤ maxLen ∧ m = (if spare a.block then cap else len) ∧
      x = (.slice ((List.range len).map D) ((List.range (m - len)).map fun j => D (len + j)), MemPlace.row a (m * fs.size) ++ (List.range m).flatMap Pl) ∧
      ∀ i, i < m → ∃ (ys : List (DataW H × List MemPlace)) (n : Nat), D i = .agg (ys.map (·.1)) ∧ Pl i = ys.flatMap (·.2) ∧ ys.length = fs.size ∧
        ∀ (j : Nat) (f : Field), fs[j]? = some f → ∃ (v : Value) (y : DataW H × List MemPlace), w.cell? (a.add (i * fs.size + j)) = some v ∧ ys[j]? = some y ∧ DataW.trod enc P w base spare held n f.type [v] = some y := by
  rcases open_slice ht h with h0 | ⟨a, len, cap, m, n, D, Pl, hcs, hb, hl, hm, hmm, hx, hi⟩
  · exact .inl h0
  · refine .inr ⟨a, len, cap, m, D, Pl, hcs, hb, hl, hm, hmm, by rw [hC] at hx; exact hx, fun i him => ?_⟩
    obtain ⟨cs', hc, ht'⟩ := hi i him
    rw [hC] at hc
    obtain ⟨ys, n', hn', hy, hlen, hyl, hf⟩ := DataW.trod_struct he ht'
    obtain ⟨_, hcl, hat⟩ := World.cells?_some hc
    simp only [Prod.mk.injEq] at hy
    refine ⟨ys, n', hy.1, hy.2, hyl, fun j f hj => ?_⟩
    obtain ⟨ho, hk⟩ := hone_of hone j f hj
    have hjl : j < fs.size := (Array.getElem?_eq_some_iff.1 hj).1
    have hcell := hat j hjl
    have hv : cs'[j]? = some (cs'[j]'(by omega)) := List.getElem?_eq_getElem (by omega)
    have h1 := hf j f hj
    rw [ho, hk] at h1
    have hone' : (cs'.drop j).take 1 = [cs'[j]'(by omega)] := by
      rw [List.drop_eq_getElem_cons (by omega)]
      rfl
    rw [hone'] at h1
    have hys : ys[j]? = some (ys[j]'(by omega)) := List.getElem?_eq_getElem (by omega)
    refine ⟨_, _, ?_, hys, h1.trans hys⟩
    rw [← Go.Deep.add_add, hcell, hv]
end

theorem add_none (b o j : Nat) : (⟨b, o, none⟩ : Addr).add j = ⟨b, o + j, none⟩ := by unfold Addr.add; split <;> simp_all
theorem cell_spot {w : World} {a : Addr} {v : Value} (h : w.cell? a = some v) : a.spot = none := by
  unfold World.cell? at h
  split at h
  · split at h
    · cases h
    · rename_i h2; simpa using h2
  · cases h

section
variable {H : Type} {enc : TypeId × Value → H}
theorem weights_tok {x y n p : DataW H} {s : List UInt8} (hx : x = .lit (.string s)) (rest : List (DataW H)) (i : Nat) (hi : rest[i]? = some (.agg [y, x, n, p])) {B : Nat}
    (h : ∀ k ∈ DataW.weightsAll Tryz.prog 55 rest, k ≤ B) : s.length ≤ B := by
  subst hx
  induction rest generalizing i with
  | nil => simp at hi
  | cons d r ih =>
    simp only [DataW.weightsAll, List.mem_append] at h
    cases i with
    | zero =>
      simp only [List.getElem?_cons_zero, Option.some.injEq] at hi
      subst hi
      refine h _ (Or.inl ?_)
      unfold DataW.weights
      rw [Tryz.underlying55]
      simp [DataW.weightsEach, DataW.weights]
    | succ i => exact ih i (fun k hk => h k (Or.inr hk)) (by simpa using hi)

set_option maxRecDepth 100000 in
theorem open_toks {W : World} {b0 : Nat} {v : Value} {d : DataW H} {ps : List MemPlace} (hval : Value.okWide Tryz.prog W .any b0 51 v) (hd : DataW.Trod enc Tryz.prog W 0 (fun _ => true) true 51 v d ps)
    (hlt : ∀ x ∈ ps, x.block < W.heap.size) (hw : ∀ k ∈ d.weights Tryz.prog 51, k ≤ reachBytes) : ∃ A l c, v = .slice A l.length c ∧ Toks W W.heap.size A l := by
  obtain ⟨A, n, c, rfl⟩ := okWide_slice Tryz.underlying51 hval
  obtain ⟨fuel, hf⟩ := hd
  have hcs : (Value.slice A n c).cells.toList = [.slice A n c] := by simp [Value.cells]
  rw [hcs] at hf
  rcases open_slice_fields Tryz.underlying51 Tryz.underlying55 (by kernel_rfl) (by kernel_rfl) hf with ⟨h1, _⟩ | ⟨a, len, cap, m, D, Pl, h1, hb, hl, hm, hmm, hx, hfld⟩
  · injection h1 with h1
    injection h1 with e1 e2 e3
    subst e1; subst e2; subst e3
    exact ⟨none, [], 0, rfl, Toks.nil _ _ _⟩
  · injection h1 with h1
    injection h1 with e1 e2 e3
    subst e1; subst e2; subst e3
    rw [if_pos rfl] at hmm
    subst hmm
    simp only [Prod.mk.injEq] at hx
    obtain ⟨rfl, rfl⟩ := hx
    have hspot : 0 < m → a.spot = none := by
      intro hi
      obtain ⟨ys, k, _, _, _, hj⟩ := hfld 0 hi
      obtain ⟨w0, y0, c0, _⟩ := hj 0 _ rfl
      have e : a.add (0 * 4 + 0) = a := rfl
      exact cell_spot (e ▸ c0)
    have htok : ∀ i, i < m → ∃ t : Lx.Tok, D i = .agg [.lit (.int .i64 t.kind), .lit (.string t.text), .lit (.int .i64 t.n), .lit (.int .i64 t.pos)] ∧ TokAt W a.block (a.off + i * 4) t ∧ a.spot = none := by
      intro i hi
      obtain ⟨ys, k, hD, _, hylen, hj⟩ := hfld i hi
      obtain ⟨w0, y0, c0, g0, t0⟩ := hj 0 _ rfl
      obtain ⟨w1, y1, c1, g1, t1⟩ := hj 1 _ rfl
      obtain ⟨w2, y2, c2, g2, t2⟩ := hj 2 _ rfl
      obtain ⟨w3, y3, c3, g3, t3⟩ := hj 3 _ rfl
      obtain ⟨k0, q0, r0, _⟩ := DataW.trod_int Tryz.underlying3 t0
      obtain ⟨s1, q1, r1, _⟩ := DataW.trod_string Tryz.underlying9 t1
      obtain ⟨k2, q2, r2, _⟩ := DataW.trod_int Tryz.underlying3 t2
      obtain ⟨k3, q3, r3, _⟩ := DataW.trod_int Tryz.underlying3 t3
      injection q0 with q0; injection q1 with q1; injection q2 with q2; injection q3 with q3
      subst q0; subst q1; subst q2; subst q3; subst r0; subst r1; subst r2; subst r3
      have hys : ys = [(.lit (.int .i64 k0), []), (.lit (.string s1.data.toList), []), (.lit (.int .i64 k2), []), (.lit (.int .i64 k3), [])] := by
        match ys, hylen, g0, g1, g2, g3 with
        | [_, _, _, _], _, g0, g1, g2, g3 =>
          simp only [List.getElem?_cons_zero, List.getElem?_cons_succ, Option.some.injEq] at g0 g1 g2 g3
          rw [g0, g1, g2, g3]
      have hsp : a.spot = none := hspot (by omega)
      obtain ⟨ab, ao, asp⟩ := a
      simp only at hsp
      subst hsp
      rw [add_none] at c0 c1 c2 c3
      refine ⟨⟨k0, s1.data.toList, k2, k3⟩, by rw [hD, hys]; rfl, ⟨c0, ?_, c2, c3⟩, rfl⟩
      rw [Lx.bs_of]
      exact c1
    have hmb : m * 40 ≤ reachBytes := by
      unfold DataW.weights at hw
      rw [Tryz.underlying51] at hw
      have := hw _ (List.mem_cons_self ..)
      rw [show Tryz.prog.bytesOf 55 = 40 by kernel_rfl] at this
      simp only [List.length_map, List.length_range] at this
      have e : n + (m - n) = m := by omega
      rwa [e] at this
    have hws : ∀ k ∈ DataW.weightsAll Tryz.prog 55 ((List.range n).map D), k ≤ reachBytes := by
      intro k hk
      unfold DataW.weights at hw
      rw [Tryz.underlying51] at hw
      exact hw k (List.mem_cons_of_mem _ (List.mem_append_left _ hk))
    have hch : ∀ i : Nat, ∃ t : Lx.Tok, i < m → D i = .agg [.lit (.int .i64 t.kind), .lit (.string t.text), .lit (.int .i64 t.n), .lit (.int .i64 t.pos)] ∧ TokAt W a.block (a.off + i * 4) t ∧ a.spot = none := by
      intro i
      by_cases hi : i < m
      · obtain ⟨t, ht⟩ := htok i hi
        exact ⟨t, fun _ => ht⟩
      · exact ⟨⟨0, [], 0, 0⟩, fun h => absurd h hi⟩
    obtain ⟨T, hT⟩ := Classical.axiomOfChoice hch
    have hlen : ((List.range n).map T).length = n := by simp
    refine ⟨some a, (List.range n).map T, m, by rw [hlen], ⟨fun k t ht => ?_, by rw [hlen]; unfold reachBytes at hmb; omega, fun t ht => ?_⟩⟩
    · have hk : k < n := by
        have := (List.getElem?_eq_some_iff.1 ht).1
        rwa [hlen] at this
      have e : t = T k := by
        rw [List.getElem?_map, List.getElem?_range hk] at ht
        simpa using ht.symm
      subst e
      obtain ⟨_, h2, h3⟩ := hT k (by omega)
      have hab : a.block < W.heap.size := by
        have hc := h2.kind
        rcases Nat.lt_or_ge a.block W.heap.size with h | h
        · exact h
        · unfold World.cell? at hc
          simp only [Array.getElem?_eq_none h] at hc
          cases hc
      obtain ⟨ab, ao, asp⟩ := a
      simp only at h3
      subst h3
      exact ⟨ab, ao, rfl, hab, h2⟩
    · obtain ⟨i, hi, rfl⟩ := List.mem_map.1 ht
      have hi' : i < n := List.mem_range.1 hi
      obtain ⟨h1, _, _⟩ := hT i (by omega)
      have := weights_tok rfl _ i (by rw [List.getElem?_map, List.getElem?_range hi']; simp [h1]; exact ⟨rfl, rfl, rfl, rfl⟩) hws
      unfold reachBytes at this
      exact this

/-- A slice's address, below block B, from which on n bytes lie. -/
structure Byts (w : World) (B : Nat) (A : Option Addr) (n : Nat) : Prop where
  at_ : ∀ k, k < n → ∃ b o z, A = some ⟨b, o, none⟩ ∧ b < B ∧ w.cell? ⟨b, o + k, none⟩ = some (.int .u8 (z : Nat)) ∧ z < 256
  len : n ≤ 140737488351232
set_option maxRecDepth 100000 in
theorem open_bytes {W : World} {b0 : Nat} {v : Value} {d : DataW H} {ps : List MemPlace} (hval : Value.okWide Tryz.prog W .any b0 221 v) (hd : DataW.Trod enc Tryz.prog W 0 (fun _ => true) true 221 v d ps)
    (hlt : ∀ x ∈ ps, x.block < W.heap.size) (hw : ∀ k ∈ d.weights Tryz.prog 221, k ≤ reachBytes) : ∃ A n c, v = .slice A n c ∧ Byts W W.heap.size A n := by
  obtain ⟨A, n, c, rfl⟩ := okWide_slice Tryz.underlying221 hval
  obtain ⟨fuel, hf⟩ := hd
  have hcs : (Value.slice A n c).cells.toList = [.slice A n c] := by simp [Value.cells]
  rw [hcs] at hf
  rcases open_ints Tryz.underlying221 Tryz.underlying5 (by kernel_rfl) hf with ⟨h1, _⟩ | ⟨a, len, cap, zs, h1, hb, hl, hm, hz, hx, hcell, hwf⟩
  · injection h1 with h1
    injection h1 with e1 e2 e3
    subst e1; subst e2; subst e3
    exact ⟨none, 0, 0, rfl, ⟨fun k hk => absurd hk (by omega), by omega⟩⟩
  · injection h1 with h1
    injection h1 with e1 e2 e3
    subst e1; subst e2; subst e3
    rw [if_pos rfl] at hz
    simp only [Prod.mk.injEq] at hx
    obtain ⟨rfl, rfl⟩ := hx
    have hnb : n ≤ reachBytes := by
      unfold DataW.weights at hw
      rw [Tryz.underlying221] at hw
      have := hw _ (List.mem_cons_self ..)
      rw [show Tryz.prog.bytesOf 5 = 1 by kernel_rfl] at this
      simp only [lits, List.length_map, List.length_take, List.length_drop] at this
      omega
    refine ⟨some a, n, c, rfl, ⟨fun k hk => ?_, by unfold reachBytes at hnb; exact hnb⟩⟩
    have h0 := hcell 0 (by omega)
    have hsp : a.spot = none := cell_spot (show W.cell? a = _ from h0)
    obtain ⟨ab, ao, asp⟩ := a
    simp only at hsp
    subst hsp
    have hk1 := hcell k (by omega)
    rw [add_none] at hk1
    have hk2 := hwf (zs.getD k 0) (by rw [List.getD_eq_getElem?_getD, List.getElem?_eq_getElem (by omega)]; exact List.getElem_mem _)
    have hab : ab < W.heap.size := by
      rcases Nat.lt_or_ge ab W.heap.size with h | h
      · exact h
      · have h0' : W.cell? ⟨ab, ao, none⟩ = some (.int .u8 (zs.getD 0 0)) := h0
        unfold World.cell? at h0'
        simp only [Array.getElem?_eq_none h] at h0'
        cases h0'
    have hz0 : 0 ≤ zs.getD k 0 ∧ zs.getD k 0 < 256 := by
      have hk3 : (decide (IntKind.u8.min ≤ zs.getD k 0) && decide (zs.getD k 0 ≤ IntKind.u8.max)) = true := hk2
      rw [Bool.and_eq_true, decide_eq_true_eq, decide_eq_true_eq] at hk3
      have e1 : IntKind.u8.min = 0 := rfl
      have e2 : IntKind.u8.max = 255 := rfl
      omega
    obtain ⟨z, hz⟩ := Int.eq_ofNat_of_zero_le hz0.1
    exact ⟨ab, ao, z, rfl, hab, by rw [← hz]; exact hk1, by omega⟩
end
theorem Byts.below {w w' : World} {B B' : Nat} {A : Option Addr} {n : Nat} (h : Byts w B A n) (hb : Below B' w w') (hB : B ≤ B') : Byts w' B A n :=
  ⟨fun k hk => by
    obtain ⟨b, o, z, e, hlt, hc, hz⟩ := h.at_ k hk
    exact ⟨b, o, z, e, hlt, (hb.cell (p := ⟨b, o + k, none⟩) (show b < B' by omega)).trans hc, hz⟩, h.len⟩
end Go.Proofs.YtjonaidancomgaaGreatDoor

namespace Go.Proofs.YtjonaidancomgaaGreatDoor
open Go.ChangeShapes Go.WideShapes Go.ChangeAt Go.RowKit Go.WideMaps Go.ChangeMaps

set_option maxRecDepth 100000 in
/-- What a variable with words holds. -/
theorem glob_of_laid {nm : String} {gi : Nat} {ws : List (List UInt8)} {d : DataW Unit} {r : List (String × DataW Unit)} {W : World} (hgi : Tryz.prog.globalNamed nm = some gi) (hty : (Tryz.prog.globals[gi]?).map (·.type) = some 105) (hne : 0 < ws.length) (hd0 : d = .slice (ws.map fun x => .lit (.string x)) [])
    (h : laidMet Tryz.prog ((nm, d) :: r) W) : GlobAt W W.heap.size gi ws := by
  obtain ⟨ps, ⟨g, t, cs, fuel, p, q, hg, ht, hv, hd, _⟩, _⟩ := h
  obtain rfl := Option.some.inj (hgi.symm.trans hg)
  obtain rfl := Option.some.inj (hty.symm.trans ht)
  subst hd0
  rcases open_strings Tryz.underlying105 Tryz.underlying9 (by kernel_rfl) hd with ⟨_, hx⟩ | ⟨a, len, cap, ss, hcs, _, hl, hm, hz, hx, hc, _⟩
  · cases hx
  · simp only [Prod.mk.injEq, DataW.slice.injEq] at hx
    obtain ⟨⟨hx1, hx2⟩, _⟩ := hx
    have hx2' : ss.drop len = [] := by
      unfold strs at hx2
      exact List.map_eq_nil_iff.1 hx2.symm
    have h1 : ss.take len = ss := by
      have := List.take_append_drop len ss
      rw [hx2', List.append_nil] at this
      exact this
    have hss : ss.map (·.data.toList) = ws := by
      rw [h1] at hx1
      unfold strs at hx1
      have h2 : (ws.map fun x => (DataW.lit (.string x) : DataW Unit)) = (ss.map (·.data.toList)).map fun x => DataW.lit (.string x) := by
        rw [hx1, List.map_map]; rfl
      have hinj : ∀ (l l' : List (List UInt8)), (l.map fun x => (DataW.lit (.string x) : DataW Unit)) = l'.map (fun x => DataW.lit (.string x)) → l = l' := by
        intro l
        induction l with
        | nil => intro l' h; cases l' with | nil => rfl | cons a b => simp at h
        | cons a b ih =>
          intro l' h
          cases l' with
          | nil => simp at h
          | cons a' b' =>
            simp only [List.map_cons, List.cons.injEq, DataW.lit.injEq, Lit.string.injEq] at h
            rw [h.1, ih b' h.2]
      exact (hinj _ _ h2).symm
    have hlss : ss.length = ws.length := by
      have := congrArg List.length hss
      rwa [List.length_map] at this
    rw [if_pos rfl] at hz
    have hlen : len = ws.length := by
      have := congrArg List.length hx2'
      rw [List.length_drop] at this
      simp only [List.length_nil] at this
      omega
    have h0 := hc 0 (by omega)
    have hsp : a.spot = none := cell_spot (show W.cell? a = _ from h0)
    obtain ⟨ab, ao, asp⟩ := a
    simp only at hsp
    subst hsp
    have hcell : W.cell? ⟨gi, 0, none⟩ = some (.slice (some ⟨ab, ao, none⟩) ws.length cap) := by
      have := World.var?_cell hg hv 0
      rw [Array.eq_one_of_toList hcs, hlen] at this
      simpa using this
    have hin : ∀ (k o : Nat) (v : Value), W.cell? ⟨k, o, none⟩ = some v → k < W.heap.size := fun k o v hk => by
      rcases Nat.lt_or_ge k W.heap.size with h | h
      · exact h
      · unfold World.cell? at hk
        simp only [Array.getElem?_eq_none h] at hk
        cases hk
    refine ⟨ab, ao, cap, hcell, hin _ _ _ hcell, hin ab ao _ (show W.cell? ⟨ab, ao, none⟩ = _ from h0), fun i x hx => ?_⟩
    have hi : i < ss.length := by
      have := (List.getElem?_eq_some_iff.1 hx).1
      omega
    have h1 := hc i hi
    rw [add_none] at h1
    rw [h1]
    rw [← hss, List.getElem?_map, List.getElem?_eq_getElem hi] at hx
    simp only [Option.map_some, Option.some.injEq] at hx
    have h2 : ss.getD i ByteArray.empty = ss[i] := by simp [List.getD, List.getElem?_eq_getElem hi]
    rw [h2, ← hx]
    unfold strV
    rw [Lx.bs_of]
set_option maxRecDepth 100000 in
theorem wit_metS (os : Os) (args : Array Value) : laidMetH Tryz.prog Rows.syntaxPlacesRow.laid (wit os args).memory :=
  laidMetH_of_parts3 (fuel := 8) (laidMet_of_run' 8 (by kernel_rfl) (by kernel_rfl)) (by kernel_rfl) (by kernel_rfl)
theorem envs_of_laid {W : World} (h : laidMet Tryz.prog Rows.syntaxPlacesRow.laid W) : EnvS W.heap.size W := by
  have he := env_of_laid rfl h
  have h5 := h.tail.tail.tail.tail.tail
  exact ⟨he, Nat.le_refl _, by have := he.size; omega,
    glob_of_laid (nm := "sizar/syntax.ruleWords") (by kernel_rfl) (by kernel_rfl) (by decide) rfl h5,
    glob_of_laid (nm := "sizar/syntax.kindWords") (by kernel_rfl) (by kernel_rfl) (by decide) rfl h5.tail,
    glob_of_laid (nm := "sizar/syntax.whenWords") (by kernel_rfl) (by kernel_rfl) (by decide) rfl h5.tail.tail,
    glob_of_laid (nm := "sizar/syntax.actionWords") (by kernel_rfl) (by kernel_rfl) (by decide) rfl h5.tail.tail.tail,
    glob_of_laid (nm := "sizar/syntax.repeatWords") (by kernel_rfl) (by kernel_rfl) (by decide) rfl h5.tail.tail.tail.tail⟩
end Go.Proofs.YtjonaidancomgaaGreatDoor
