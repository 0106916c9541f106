/- Parts of the proof, joined into one text: QyPlc. -/
import Derived.Test.YtocelmjncjompaaDoorZQySane
import Derived.Test.YtocelmjncjompaaDoorZLxTake

namespace Go.Proofs.YtocelmjncjompaaDoor
open Go.RowKit

def atB (e0 : Bool) (p : Int) (ts : List Lx.Tok) (k : Nat) : Bool := e0 || (ts.take k).any (fun t => t.pos == p)
theorem atB_next {e0 : Bool} {p : Int} {ts : List Lx.Tok} {k : Nat} {t : Lx.Tok} (h : ts[k]? = some t) : atB e0 p ts (k + 1) = (atB e0 p ts k || t.pos == p) := by
  unfold atB
  rw [List.take_add_one, h, List.any_append]
  simp [Bool.or_assoc]
theorem atB_all {e0 : Bool} {p : Int} {ts : List Lx.Tok} (h : e0 = true ∨ ∃ (k : Nat) (t : Lx.Tok), ts[k]? = some t ∧ t.pos = p) : atB e0 p ts ts.length = true := by
  unfold atB
  rcases h with rfl | ⟨k, t, h1, h2⟩
  · rfl
  · rw [List.take_length, Bool.or_eq_true]
    right
    exact List.any_eq_true.2 ⟨t, List.mem_of_getElem? h1, by simp [h2]⟩
/-- What the second parse answers. -/
def CutR (t : ByteArray) (p2 x2 : Int) : Prop := ∀ W, EnvQ W → Calls Tryd.prog 31 #[.string t] W fun e w' => ∃ B0 e0 B1 e1 B2 e2 B3 e3 n0 n1 n2 n3, e = .returned (.tuple #[.agg #[.slice B0 n0 e0, .slice B1 n1 e1, .slice B2 n2 e2, .slice B3 n3 e3], .int .i64 p2, .int .i64 x2]) ∧ Below W.heap.size W w'
theorem cut_call (s : ByteArray) (j : Nat) (hs : s.size ≤ maxLen) (hcut : Qy.parse (s.data.toList.take j) = .bad (j : Int) 500 ∨ ∃ q, Qy.parse (s.data.toList.take j) = .ok q) :
    ∃ p2 x2, CutR (s.extract 0 j) p2 x2 ∧ (x2 = 0 ∨ x2 = 500 ∧ p2 = (j : Int)) := by
  have hxl : s.extract 0 j = Lx.bs (s.data.toList.take j) := by
    apply Lx.bs_of'
    have := Lx.ext_list s 0 j
    rw [Nat.zero_add] at this
    rw [this, List.drop_zero]
  have hsz : (s.extract 0 j).size ≤ maxLen := by rw [hxl, Lx.bs_size, List.length_take, Lx.ba_len]; omega
  have hls : (s.extract 0 j).data.toList = s.data.toList.take j := by rw [hxl, Lx.bs_list]
  rcases hcut with h | ⟨q, h⟩
  · exact ⟨j, 500, fun W hW => (parse_bad_call (s.extract 0 j) j 500 (by rw [hls]; exact h) W hsz hW).mono fun e w' ⟨h1, h2⟩ => ⟨none, 0, none, 0, none, 0, none, 0, 0, 0, 0, 0, h1, h2⟩, .inr ⟨rfl, rfl⟩⟩
  · exact ⟨0, 0, fun W hW => (parse_ok_call (s.extract 0 j) q (by rw [hls]; exact h) W hsz hW).mono fun e w' ⟨v, h1, h2, h3⟩ => by
      obtain ⟨⟨B0, e0, B1, e1, B2, e2, B3, e3, hv, _⟩, _⟩ := h2
      subst hv
      exact ⟨B0, e0, B1, e1, B2, e2, B3, e3, _, _, _, _, h1, h3⟩, .inl rfl⟩

set_option maxRecDepth 20000 in
set_option maxHeartbeats 4000000 in
theorem plcA (s : ByteArray) (ts : List Lx.Tok) (p2 x2 : Int) (w : World) (hs : s.size ≤ maxLen) (he : EnvQ w) (hlen' : s.size ≤ 3000) (htl : ts.length ≤ s.size) (hL : Lx.lex s.data.toList = .ok ts) (hp : Qy.parse s.data.toList = .bad (s.size : Nat) 500)
    (hall : atB true (s.size : Nat) ts ts.length = true) (hpc : CutR s p2 x2) (hx2 : x2 = 0 ∨ x2 = 500 ∧ p2 = (s.size : Nat)) : Calls Tryd.prog 12 #[.string s] w (TruePost w) := by
  have HE := Lib.hid he; have HL := Lib.hid hL; have HP := Lib.hid hp; have Hall := Lib.hid hall; have Hpc := Lib.hid hpc; have Hx2 := Lib.hid hx2
  clear he hL hp hall hpc hx2
  go_enter Tryd.func12, Tryd.ntmps12
  go_wp2_with fail
  refine (lSaneQ w HE.out).mono ?_
  rintro e w1 ⟨rfl, b1⟩
  have B1 := Lib.hid b1; clear b1
  go_wp2_with fail
  refine (parse_bad_call s (s.size : Nat) 500 HP.out w1 hs (HE.out.next B1.out)).mono ?_
  rintro e w2 ⟨rfl, b2⟩
  have B2 := Lib.hid (B1.out.trans (b2.mono B1.out.size)); clear b2
  unfold nilQ
  go_wp2_with fail
  obtain ⟨W3, hW3⟩ : ∃ W3, W3 = w2.alloc (.cells #[.slice none 0 0, .slice none 0 0, .slice none 0 0, .slice none 0 0] 46) := ⟨_, rfl⟩
  rw [← hW3]
  have b3 : Below w2.heap.size w2 W3 := by rw [hW3]; exact (Below.refl _ _).alloc (Nat.le_refl _) _
  have B3 := Lib.hid (B2.out.trans (b3.mono B2.out.size))
  clear b3 hW3
  refine (lLexOk s ts _ (HE.out.next B3.out).env (by omega) HL.out).mono ?_
  rintro e w4 ⟨A4, c4, rfl, hT4, hb4, _⟩
  have B4 := Lib.hid (B3.out.trans (hb4.mono B3.out.size)); have HT4 := Lib.hid hT4
  clear hb4 hT4
  go_wp2_with fail
  go_loopw [77, 9] (fun v77 v9 wr => ∃ (k : Nat), k ≤ ts.length ∧ v77 = .int .i64 k ∧ v9 = .bool (atB true (s.size : Nat) ts k) ∧ Below w4.heap.size w4 wr)
    (fun v77 _ _ => ts.length + 1 - (intOf v77).toNat)
  case atStart => exact ⟨0, by omega, rfl, by simp [atB], Below.refl _ _⟩
  case round =>
    obtain ⟨k, hk, rfl, rfl, hbel⟩ := hrel
    have Hbel := Lib.hid hbel
    have hwr := hbel.size
    have hT := HT4.out.below hbel (Nat.le_refl _)
    clear hbel
    by_cases hkl : k < ts.length
    · obtain ⟨t, ht⟩ : ∃ t, ts[k]? = some t := ⟨_, List.getElem?_eq_getElem hkl⟩
      obtain ⟨b, o, rfl, hb, p1, p2, p3, p4⟩ := hT.at_ k t ht
      have hnx : atB true (s.size : Nat) ts (k + 1) = (atB true (s.size : Nat) ts k || t.pos == (s.size : Nat)) := atB_next ht
      have Hnx := Lib.hid hnx
      clear ht hT hnx
      cases hB : atB true (s.size : Nat) ts k with
      | true =>
        go_wp2_with fail
        go_roundw
        case rel => exact ⟨k + 1, by omega, by go_num, by rw [Hnx.out, hB]; rfl, Hbel.out.trans (((Below.refl _ _).alloc (Nat.le_refl _) _).mono (by omega))⟩
        case measure => simp [intOf]; omega
      | false =>
        have Hb := Lib.hid hB
        clear hB
        go_wp2_with fail
        go_roundw
        case rel => exact ⟨k + 1, by omega, by go_num, by rw [Hnx.out, Hb.out]; rfl, Hbel.out.trans (((Below.refl _ _).alloc (Nat.le_refl _) _).mono (by omega))⟩
        case measure => simp [intOf]; omega
    · obtain rfl : k = ts.length := by omega
      rw [Hall.out]
      have B5 := Lib.hid (B4.out.trans (Hbel.out.mono B4.out.size))
      clear hT
      go_wp2_with fail
      refine (Hpc.out wr (HE.out.next B5.out)).mono ?_
      rintro e w6 ⟨D0, e0, D1, e1, D2, e2, D3, e3, n0, n1, n2, n3, rfl, b6⟩
      have B6 := Lib.hid (B5.out.trans (b6.mono B5.out.size))
      clear b6
      rcases Hx2.out with rfl | ⟨rfl, rfl⟩
      · go_wp2_with fail
        go_ret
        exact ⟨rfl, B6.out.trans (((Below.refl _ _).alloc (Nat.le_refl _) _).mono B6.out.size)⟩
      · go_wp2_with fail
        go_ret
        exact ⟨rfl, B6.out.trans (((Below.refl _ _).alloc (Nat.le_refl _) _).mono B6.out.size)⟩
set_option maxRecDepth 20000 in
set_option maxHeartbeats 4000000 in
theorem plcB (s : ByteArray) (j : Nat) (ts : List Lx.Tok) (p2 x2 : Int) (w : World) (hs : s.size ≤ maxLen) (he : EnvQ w) (hlen' : s.size ≤ 3000) (htl : ts.length ≤ s.size) (hj : j < s.size) (hL : Lx.lex s.data.toList = .ok ts) (hp : Qy.parse s.data.toList = .bad (j : Nat) 500)
    (hall : atB false (j : Nat) ts ts.length = true) (hpc : CutR (s.extract 0 j) p2 x2) (hx2 : x2 = 0 ∨ x2 = 500 ∧ p2 = (j : Nat)) : Calls Tryd.prog 12 #[.string s] w (TruePost w) := by
  have HE := Lib.hid he; have HL := Lib.hid hL; have HP := Lib.hid hp; have Hall := Lib.hid hall; have Hpc := Lib.hid hpc; have Hx2 := Lib.hid hx2
  clear he hL hp hall hpc hx2
  have hj0 : ¬ (j : Int) < 0 := by omega
  have hj1 : ¬ (s.size : Int) < (j : Int) := by omega
  have hjn : ¬ (j : Int) = (s.size : Int) := by omega
  go_enter Tryd.func12, Tryd.ntmps12
  go_wp2_with fail
  refine (lSaneQ w HE.out).mono ?_
  rintro e w1 ⟨rfl, b1⟩
  have B1 := Lib.hid b1; clear b1
  go_wp2_with fail
  refine (parse_bad_call s (j : Nat) 500 HP.out w1 hs (HE.out.next B1.out)).mono ?_
  rintro e w2 ⟨rfl, b2⟩
  have B2 := Lib.hid (B1.out.trans (b2.mono B1.out.size)); clear b2
  unfold nilQ
  go_wp2_with fail
  obtain ⟨W3, hW3⟩ : ∃ W3, W3 = w2.alloc (.cells #[.slice none 0 0, .slice none 0 0, .slice none 0 0, .slice none 0 0] 46) := ⟨_, rfl⟩
  rw [← hW3]
  have b3 : Below w2.heap.size w2 W3 := by rw [hW3]; exact (Below.refl _ _).alloc (Nat.le_refl _) _
  have B3 := Lib.hid (B2.out.trans (b3.mono B2.out.size))
  clear b3 hW3
  refine (lLexOk s ts _ (HE.out.next B3.out).env (by omega) HL.out).mono ?_
  rintro e w4 ⟨A4, c4, rfl, hT4, hb4, _⟩
  have B4 := Lib.hid (B3.out.trans (hb4.mono B3.out.size)); have HT4 := Lib.hid hT4
  clear hb4 hT4
  go_wp2_with fail
  go_loopw [77, 9] (fun v77 v9 wr => ∃ (k : Nat), k ≤ ts.length ∧ v77 = .int .i64 k ∧ v9 = .bool (atB false (j : Nat) ts k) ∧ Below w4.heap.size w4 wr)
    (fun v77 _ _ => ts.length + 1 - (intOf v77).toNat)
  case atStart => exact ⟨0, by omega, rfl, by simp [atB, hjn], Below.refl _ _⟩
  case round =>
    obtain ⟨k, hk, rfl, rfl, hbel⟩ := hrel
    have Hbel := Lib.hid hbel
    have hwr := hbel.size
    have hT := HT4.out.below hbel (Nat.le_refl _)
    clear hbel
    by_cases hkl : k < ts.length
    · obtain ⟨t, ht⟩ : ∃ t, ts[k]? = some t := ⟨_, List.getElem?_eq_getElem hkl⟩
      obtain ⟨b, o, rfl, hb, p1, p2, p3, p4⟩ := hT.at_ k t ht
      have hnx : atB false (j : Nat) ts (k + 1) = (atB false (j : Nat) ts k || t.pos == (j : Nat)) := atB_next ht
      have Hnx := Lib.hid hnx
      clear ht hT hnx
      cases hB : atB false (j : Nat) ts k with
      | true =>
        go_wp2_with fail
        go_roundw
        case rel => exact ⟨k + 1, by omega, by go_num, by rw [Hnx.out, hB]; rfl, Hbel.out.trans (((Below.refl _ _).alloc (Nat.le_refl _) _).mono (by omega))⟩
        case measure => simp [intOf]; omega
      | false =>
        have Hb := Lib.hid hB
        clear hB
        go_wp2_with fail
        go_roundw
        case rel => exact ⟨k + 1, by omega, by go_num, by rw [Hnx.out, Hb.out]; rfl, Hbel.out.trans (((Below.refl _ _).alloc (Nat.le_refl _) _).mono (by omega))⟩
        case measure => simp [intOf]; omega
    · obtain rfl : k = ts.length := by omega
      rw [Hall.out]
      have B5 := Lib.hid (B4.out.trans (Hbel.out.mono B4.out.size))
      clear hT
      go_wp2_with fail
      refine (Hpc.out wr (HE.out.next B5.out)).mono ?_
      rintro e w6 ⟨D0, e0, D1, e1, D2, e2, D3, e3, n0, n1, n2, n3, rfl, b6⟩
      have B6 := Lib.hid (B5.out.trans (b6.mono B5.out.size))
      clear b6
      rcases Hx2.out with rfl | ⟨rfl, rfl⟩
      · go_wp2_with fail
        go_ret
        exact ⟨rfl, B6.out.trans (((Below.refl _ _).alloc (Nat.le_refl _) _).mono B6.out.size)⟩
      · go_wp2_with fail
        go_ret
        exact ⟨rfl, B6.out.trans (((Below.refl _ _).alloc (Nat.le_refl _) _).mono B6.out.size)⟩
set_option maxRecDepth 20000 in
set_option maxHeartbeats 4000000 in
theorem plcC (s : ByteArray) (j : Nat) (ts : List Lx.Tok) (p2 x2 : Int) (w : World) (hs : s.size ≤ maxLen) (he : EnvQ w) (hlen' : s.size ≤ 3000) (htl : ts.length ≤ s.size) (hj : j < s.size) (hL : Lx.lex s.data.toList = .ok ts) (hp : Qy.parse s.data.toList = .bad (j : Nat) 2)
    (hall : atB false (j : Nat) ts ts.length = true) (hpc : CutR (s.extract 0 j) p2 x2) (hx2 : x2 = 0 ∨ x2 = 500 ∧ p2 = (j : Nat)) : Calls Tryd.prog 12 #[.string s] w (TruePost w) := by
  have HE := Lib.hid he; have HL := Lib.hid hL; have HP := Lib.hid hp; have Hall := Lib.hid hall; have Hpc := Lib.hid hpc; have Hx2 := Lib.hid hx2
  clear he hL hp hall hpc hx2
  have hj0 : ¬ (j : Int) < 0 := by omega
  have hj1 : ¬ (s.size : Int) < (j : Int) := by omega
  have hjn : ¬ (j : Int) = (s.size : Int) := by omega
  go_enter Tryd.func12, Tryd.ntmps12
  go_wp2_with fail
  refine (lSaneQ w HE.out).mono ?_
  rintro e w1 ⟨rfl, b1⟩
  have B1 := Lib.hid b1; clear b1
  go_wp2_with fail
  refine (parse_bad_call s (j : Nat) 2 HP.out w1 hs (HE.out.next B1.out)).mono ?_
  rintro e w2 ⟨rfl, b2⟩
  have B2 := Lib.hid (B1.out.trans (b2.mono B1.out.size)); clear b2
  unfold nilQ
  go_wp2_with fail
  obtain ⟨W3, hW3⟩ : ∃ W3, W3 = w2.alloc (.cells #[.slice none 0 0, .slice none 0 0, .slice none 0 0, .slice none 0 0] 46) := ⟨_, rfl⟩
  rw [← hW3]
  have b3 : Below w2.heap.size w2 W3 := by rw [hW3]; exact (Below.refl _ _).alloc (Nat.le_refl _) _
  have B3 := Lib.hid (B2.out.trans (b3.mono B2.out.size))
  clear b3 hW3
  refine (lLexOk s ts _ (HE.out.next B3.out).env (by omega) HL.out).mono ?_
  rintro e w4 ⟨A4, c4, rfl, hT4, hb4, _⟩
  have B4 := Lib.hid (B3.out.trans (hb4.mono B3.out.size)); have HT4 := Lib.hid hT4
  clear hb4 hT4
  go_wp2_with fail
  go_loopw [77, 9] (fun v77 v9 wr => ∃ (k : Nat), k ≤ ts.length ∧ v77 = .int .i64 k ∧ v9 = .bool (atB false (j : Nat) ts k) ∧ Below w4.heap.size w4 wr)
    (fun v77 _ _ => ts.length + 1 - (intOf v77).toNat)
  case atStart => exact ⟨0, by omega, rfl, by simp [atB, hjn], Below.refl _ _⟩
  case round =>
    obtain ⟨k, hk, rfl, rfl, hbel⟩ := hrel
    have Hbel := Lib.hid hbel
    have hwr := hbel.size
    have hT := HT4.out.below hbel (Nat.le_refl _)
    clear hbel
    by_cases hkl : k < ts.length
    · obtain ⟨t, ht⟩ : ∃ t, ts[k]? = some t := ⟨_, List.getElem?_eq_getElem hkl⟩
      obtain ⟨b, o, rfl, hb, p1, p2, p3, p4⟩ := hT.at_ k t ht
      have hnx : atB false (j : Nat) ts (k + 1) = (atB false (j : Nat) ts k || t.pos == (j : Nat)) := atB_next ht
      have Hnx := Lib.hid hnx
      clear ht hT hnx
      cases hB : atB false (j : Nat) ts k with
      | true =>
        go_wp2_with fail
        go_roundw
        case rel => exact ⟨k + 1, by omega, by go_num, by rw [Hnx.out, hB]; rfl, Hbel.out.trans (((Below.refl _ _).alloc (Nat.le_refl _) _).mono (by omega))⟩
        case measure => simp [intOf]; omega
      | false =>
        have Hb := Lib.hid hB
        clear hB
        go_wp2_with fail
        go_roundw
        case rel => exact ⟨k + 1, by omega, by go_num, by rw [Hnx.out, Hb.out]; rfl, Hbel.out.trans (((Below.refl _ _).alloc (Nat.le_refl _) _).mono (by omega))⟩
        case measure => simp [intOf]; omega
    · obtain rfl : k = ts.length := by omega
      rw [Hall.out]
      have B5 := Lib.hid (B4.out.trans (Hbel.out.mono B4.out.size))
      clear hT
      go_wp2_with fail
      refine (Hpc.out wr (HE.out.next B5.out)).mono ?_
      rintro e w6 ⟨D0, e0, D1, e1, D2, e2, D3, e3, n0, n1, n2, n3, rfl, b6⟩
      have B6 := Lib.hid (B5.out.trans (b6.mono B5.out.size))
      clear b6
      rcases Hx2.out with rfl | ⟨rfl, rfl⟩
      · go_wp2_with fail
        go_ret
        exact ⟨rfl, B6.out.trans (((Below.refl _ _).alloc (Nat.le_refl _) _).mono B6.out.size)⟩
      · go_wp2_with fail
        go_ret
        exact ⟨rfl, B6.out.trans (((Below.refl _ _).alloc (Nat.le_refl _) _).mono B6.out.size)⟩
set_option maxRecDepth 20000 in
set_option maxHeartbeats 4000000 in
theorem lPlacesQ (s : ByteArray) (w : World) (hs : s.size ≤ maxLen) (he : EnvQ w) : Calls Tryd.prog 12 #[.string s] w (TruePost w) := by
  have HE := Lib.hid he
  clear he
  by_cases hlen : 3000 < s.size
  · go_enter Tryd.func12, Tryd.ntmps12
    go_wp2_with fail
    refine (lSaneQ w HE.out).mono ?_
    rintro e w1 ⟨rfl, b1⟩
    have B1 := Lib.hid b1; clear b1
    go_wp2_with fail
    go_ret
    exact ⟨rfl, B1.out⟩
  have hlen' : s.size ≤ 3000 := by omega
  clear hlen
  have hll : s.data.toList.length ≤ 65536 := by rw [Lx.ba_len]; omega
  cases hL : Lx.lex s.data.toList with
  | err p =>
    have HP := Lib.hid (Qy.parse_lex_err hll hL)
    have HL := Lib.hid hL; clear hL
    go_enter Tryd.func12, Tryd.ntmps12
    go_wp2_with fail
    refine (lSaneQ w HE.out).mono ?_
    rintro e w1 ⟨rfl, b1⟩
    have B1 := Lib.hid b1; clear b1
    go_wp2_with fail
    refine (parse_bad_call s p 90 HP.out w1 hs (HE.out.next B1.out)).mono ?_
    rintro e w2 ⟨rfl, b2⟩
    have B2 := Lib.hid (B1.out.trans (b2.mono B1.out.size)); clear b2
    unfold nilQ
    go_wp2_with fail
    have b3 : Below w2.heap.size w2 (w2.alloc (.cells #[.slice none 0 0, .slice none 0 0, .slice none 0 0, .slice none 0 0] 46)) := (Below.refl _ _).alloc (Nat.le_refl _) _
    have B3 := Lib.hid (B2.out.trans (b3.mono B2.out.size))
    clear b3
    refine (lLexErr s p _ (HE.out.next B3.out).env (by omega) HL.out).mono ?_
    rintro e w4 ⟨rfl, hb4, _⟩
    have B4 := Lib.hid (B3.out.trans (hb4.mono B3.out.size))
    clear hb4
    go_wp2_with fail
    go_ret
    exact ⟨rfl, B4.out⟩
  | ok ts =>
    have htl := (Lx.lex_len hL).2
    rw [Lx.ba_len] at htl
    cases hp : Qy.parse s.data.toList with
    | ok q =>
      have HL := Lib.hid hL; have HP := Lib.hid hp; clear hL hp
      go_enter Tryd.func12, Tryd.ntmps12
      go_wp2_with fail
      refine (lSaneQ w HE.out).mono ?_
      rintro e w1 ⟨rfl, b1⟩
      have B1 := Lib.hid b1; clear b1
      go_wp2_with fail
      refine (parse_ok_call s q HP.out w1 hs (HE.out.next B1.out)).mono ?_
      rintro e w2 ⟨v1, rfl, t1, b2⟩
      have B2 := Lib.hid (B1.out.trans (b2.mono B1.out.size)); clear b2
      obtain ⟨⟨A0, c0, A1, c1, A2, c2, A3, c3, hv1, hr1⟩, htx1⟩ := t1
      subst hv1
      clear hr1 htx1
      obtain ⟨m0, hm0⟩ : ∃ m0, m0 = q.names.length := ⟨_, rfl⟩
      obtain ⟨m1, hm1⟩ : ∃ m1, m1 = q.shown.length := ⟨_, rfl⟩
      obtain ⟨m2, hm2⟩ : ∃ m2, m2 = q.atoms.length := ⟨_, rfl⟩
      obtain ⟨m3, hm3⟩ : ∃ m3, m3 = q.tests.length := ⟨_, rfl⟩
      rw [← hm0, ← hm1, ← hm2, ← hm3]
      clear hm0 hm1 hm2 hm3
      go_wp2_with fail
      have b3 : Below w2.heap.size w2 (w2.alloc (.cells #[.slice A0 m0 c0, .slice A1 m1 c1, .slice A2 m2 c2, .slice A3 m3 c3] 46)) := (Below.refl _ _).alloc (Nat.le_refl _) _
      have B3 := Lib.hid (B2.out.trans (b3.mono B2.out.size))
      clear b3
      refine (lLexOk s ts _ (HE.out.next B3.out).env (by omega) HL.out).mono ?_
      rintro e w4 ⟨A4, c4, rfl, _, hb4, _⟩
      have B4 := Lib.hid (B3.out.trans (hb4.mono B3.out.size))
      clear hb4
      go_wp2_with fail
      go_ret
      exact ⟨rfl, B4.out⟩
    | bad p x =>
      obtain ⟨j, rfl, hj, hx, hat, hcut⟩ := Qy.parse_place hll hL hp
      rw [Lx.ba_len] at hj hx hat
      obtain ⟨p2, x2, hpc, hx2⟩ := cut_call s j hs hcut
      by_cases hjs : j = s.size
      · subst hjs
        obtain rfl : x = 500 := by rcases hx with h | ⟨_, h⟩ <;> omega
        have hes : s.extract 0 s.size = s := by
          have := Lx.ext_list s 0 s.size
          rw [Nat.zero_add, List.drop_zero, List.take_of_length_le (by rw [Lx.ba_len]; exact Nat.le_refl _)] at this
          exact (Lx.bs_of' this).trans (Lx.bs_of s)
        rw [hes] at hpc
        exact plcA s ts p2 x2 w hs HE.out hlen' htl hL hp (atB_all (.inl rfl)) hpc hx2
      · have hall := atB_all (e0 := false) (p := (j : Int)) (ts := ts) (by
          rcases hat with h | h
          · exact absurd h hjs
          · exact .inr h)
        rcases hx with rfl | ⟨rfl, _⟩
        · exact plcB s j ts p2 x2 w hs HE.out hlen' htl (by omega) hL hp hall hpc hx2
        · exact plcC s j ts p2 x2 w hs HE.out hlen' htl (by omega) hL hp hall hpc hx2
end Go.Proofs.YtocelmjncjompaaDoor
