/- Parts of the proof, joined into one text: QyMix. -/
import Derived.Test.YtjonaidancomgaaDoorZQyMxD
import Derived.Test.YtjonaidancomgaaDoorZQyAgnP
import Derived.Test.YtjonaidancomgaaDoorZQySane
import Derived.Test.YtjonaidancomgaaDoorZQyMem

namespace Go.Proofs.YtjonaidancomgaaDoor
open Go.RowKit Go.Maps Go.WideMaps

theorem own_emptyS (w : World) : (w.alloc (.cells #[] 9)).ownsRow w.heap.size 9 1 (.slice (some ⟨w.heap.size, 0, none⟩) 0 0) 0 [] := by
  refine ⟨rfl, Or.inr ⟨w.heap.size, 0, #[], rfl, Nat.le_refl _, ?_, Nat.le_refl _, by unfold maxLen; omega, rfl, rfl⟩⟩
  show (w.heap.push _)[w.heap.size]? = _
  simp
theorem own_baseM {w : World} {b b' E sz n : Nat} {v : Value} {x : List Value} (h : w.ownsRow b E sz v n x) (hb : b' ≤ b) : w.ownsRow b' E sz v n x := by
  obtain ⟨h1, h2⟩ := h
  refine ⟨h1, ?_⟩
  rcases h2 with h2 | ⟨g, cap, cur, hv, hg, r⟩
  · exact .inl h2
  · exact .inr ⟨g, cap, cur, hv, Nat.le_trans hb hg, r⟩
/-- The texts of the conditions so far. -/
structure MixI (B : Nat) (q : Qy.Query) (ka kt : Nat) (v6 v7 : Value) (w : World) : Prop where
  o6 : w.ownsRow B 9 1 v6 ka (((q.atoms.take ka).map fun x => Qy.condS q (.at_ x)).flatMap strC)
  o7 : w.ownsRow B 9 1 v7 kt (((q.tests.take kt).map fun x => Qy.condS q (.te x)).flatMap strC)
  far : v6.ownBlock = none ∨ v7.ownBlock ≠ v6.ownBlock
  far2 : v7.ownBlock = none ∨ v6.ownBlock ≠ v7.ownBlock

theorem MixI.next {B : Nat} {q : Qy.Query} {ka kt : Nat} {v6 v7 : Value} {w w' : World} (h : MixI B q ka kt v6 v7 w) (hb : Below w.heap.size w w') : MixI B q ka kt v6 v7 w' := ⟨own_below h.o6 hb, own_below h.o7 hb, h.far, h.far2⟩

theorem apart_of {u v : Value} (h : u.ownBlock = none ∨ v.ownBlock ≠ u.ownBlock) : v.ownBlock = none ∨ v.ownBlock ≠ u.ownBlock := by
  rcases h with h | h
  · cases hv : v.ownBlock with
    | none => exact .inl rfl
    | some z => exact .inr (by rw [h]; exact fun e => by cases e)
  · exact .inr h
theorem MixI.add6 {B gg cap ka kt : Nat} {q : Qy.Query} {v6 v7 : Value} {w w3 : World} {o : Obj} {x : Qy.Atom} {C : List UInt8} (h : MixI B q ka kt v6 v7 w) (hx : q.atoms[ka]? = some x) (hC : C = Qy.condS q (.at_ x)) (hB : B ≤ w.heap.size) (hgrow : (w.alloc o).grownBy w3 v6.ownBlock) (hat : v6.ownBlock = some gg ∨ gg = w.heap.size + 1)
    (hown : w3.ownsRow B 9 1 (.slice (some ⟨gg, 0, none⟩) (ka + 1) cap) (ka + 1) (((q.atoms.take ka).map fun x => Qy.condS q (.at_ x)).flatMap strC ++ [.string (Lx.bs C)])) :
    MixI B q (ka + 1) kt (.slice (some ⟨gg, 0, none⟩) (ka + 1) cap) v7 w3 ∧ Below B w w3 ∧ ∀ b t cs, Blk w b t cs → 9 ≠ t → Blk w3 b t cs := by
  obtain ⟨o6, o7, f1, f2⟩ := h
  have hne : v7.ownBlock ≠ some gg := by
    rcases hat with h | h
    · rcases f1 with f | f
      · rw [f] at h; cases h
      · rw [h] at f; exact f
    · intro e
      have := own_lt (b := gg) o7 e
      omega
  refine ⟨⟨?_, (o7.alloc o).kept hgrow (apart_of f1), .inr hne, .inr fun e => hne e.symm⟩, grow_bel o6 hB ((Below.refl _ _).alloc (Nat.le_refl _) o) hgrow, fun b t cs hb ht => grow_blk hb o6 ((Below.refl _ _).alloc (Nat.le_refl _) o) hgrow ht⟩
  rw [take_snoc' hx, List.map_append, List.flatMap_append, List.map_singleton, ← hC]
  exact hown
theorem MixI.add7 {B gg cap ka kt : Nat} {q : Qy.Query} {v6 v7 : Value} {w w3 : World} {o : Obj} {x : Qy.Test} {C : List UInt8} (h : MixI B q ka kt v6 v7 w) (hx : q.tests[kt]? = some x) (hC : C = Qy.condS q (.te x)) (hB : B ≤ w.heap.size) (hgrow : (w.alloc o).grownBy w3 v7.ownBlock) (hat : v7.ownBlock = some gg ∨ gg = w.heap.size + 1)
    (hown : w3.ownsRow B 9 1 (.slice (some ⟨gg, 0, none⟩) (kt + 1) cap) (kt + 1) (((q.tests.take kt).map fun x => Qy.condS q (.te x)).flatMap strC ++ [.string (Lx.bs C)])) :
    MixI B q ka (kt + 1) v6 (.slice (some ⟨gg, 0, none⟩) (kt + 1) cap) w3 ∧ Below B w w3 ∧ ∀ b t cs, Blk w b t cs → 9 ≠ t → Blk w3 b t cs := by
  obtain ⟨o6, o7, f1, f2⟩ := h
  have hne : v6.ownBlock ≠ some gg := by
    rcases hat with h | h
    · rcases f2 with f | f
      · rw [f] at h; cases h
      · rw [h] at f; exact f
    · intro e
      have := own_lt (b := gg) o6 e
      omega
  refine ⟨⟨(o6.alloc o).kept hgrow (apart_of f2), ?_, .inr fun e => hne e.symm, .inr hne⟩, grow_bel o7 hB ((Below.refl _ _).alloc (Nat.le_refl _) o) hgrow, fun b t cs hb ht => grow_blk hb o7 ((Below.refl _ _).alloc (Nat.le_refl _) o) hgrow ht⟩
  rw [take_snoc' hx, List.map_append, List.flatMap_append, List.map_singleton, ← hC]
  exact hown

set_option maxRecDepth 20000 in
set_option maxHeartbeats 4000000 in
theorem lMixedQ (A0 A1 A2 A3 : Option Addr) (c0 c1 c2 c3 : Nat) (q : Qy.Query) (A4 : Option Addr) (n4 c4 : Nat) (w : World) (he : EnvQ w) (r0 : Lies w w.heap.size A0 1 (q.names.map strC)) (r1 : Lies w w.heap.size A1 1 (q.shown.map intC)) (r2 : Lies w w.heap.size A2 9 (q.atoms.map atomC)) (r3 : Lies w w.heap.size A3 5 (q.tests.map testC))
    (htx1 : ∀ n ∈ q.names, n.length ≤ 140737488351232) (hc2 : q.atoms.length ≤ c2) (hc3 : q.tests.length ≤ c3) (h4 : Byts w w.heap.size A4 n4) :
    Calls Tryd.prog 3 #[.agg #[.slice A0 q.names.length c0, .slice A1 q.shown.length c1, .slice A2 q.atoms.length c2, .slice A3 q.tests.length c3], .slice A4 n4 c4] w (TruePost w) := by
  obtain ⟨iS, hiS, hS0, hS1, hS2⟩ := info_parts Tryd.infoStr
  have t0 : QAt w w.heap.size (.agg #[.slice A0 q.names.length c0, .slice A1 q.shown.length c1, .slice A2 q.atoms.length c2, .slice A3 q.tests.length c3]) q := ⟨⟨A0, c0, A1, c1, A2, c2, A3, c3, rfl, r0, r1, r2, r3⟩, htx1⟩
  obtain ⟨m0, hm0⟩ : ∃ m0, m0 = q.names.length := ⟨_, rfl⟩
  obtain ⟨m1, hm1⟩ : ∃ m1, m1 = q.shown.length := ⟨_, rfl⟩
  obtain ⟨m2, hm2⟩ : ∃ m2, m2 = q.atoms.length := ⟨_, rfl⟩
  obtain ⟨m3, hm3⟩ : ∃ m3, m3 = q.tests.length := ⟨_, rfl⟩
  have T0 := Lib.hid t0
  rw [← hm0, ← hm1, ← hm2, ← hm3] at T0 ⊢
  rw [← hm2] at hc2
  rw [← hm3] at hc3
  have HE := Lib.hid he; have Hm0 := Lib.hid hm0; have Hm1 := Lib.hid hm1; have Hm2 := Lib.hid hm2; have Hm3 := Lib.hid hm3; have R0 := Lib.hid r0; have R1 := Lib.hid r1; have R2 := Lib.hid r2; have R3 := Lib.hid r3; have R4 := Lib.hid h4; have Htx := Lib.hid htx1
  have hn4 := h4.len
  clear he t0 hm0 hm1 hm2 hm3 r0 r1 r2 r3 h4 htx1
  go_enter Tryd.func3, Tryd.ntmps3
  go_wp2_with fail
  obtain ⟨W0, hW0⟩ : ∃ W0, W0 = w.alloc (.cells #[.slice A0 m0 c0, .slice A1 m1 c1, .slice A2 m2 c2, .slice A3 m3 c3] 27) := ⟨_, rfl⟩
  rw [← hW0]
  have b0 : Below w.heap.size w W0 := by rw [hW0]; exact (Below.refl _ _).alloc (Nat.le_refl _) _
  have x0 : Blk W0 w.heap.size 27 #[.slice A0 m0 c0, .slice A1 m1 c1, .slice A2 m2 c2, .slice A3 m3 c3] := by rw [hW0]; exact Blk.new _ _ _
  have z0 : W0.heap.size = w.heap.size + 1 := by rw [hW0]; simp
  clear hW0
  refine (lSaneQ W0 (HE.out.next b0)).mono ?_
  rintro e W1 ⟨rfl, b1⟩
  have z1 := b1.size
  have x1 := x0.below b1 (by omega)
  have X1 := Lib.hid x1; have T1 := Lib.hid ((T0.out.later b0 (by omega)).later b1 z1); have B1 := Lib.hid (b0.trans (b1.mono (by omega)))
  have q0 := x1.cell 0; have q1 := x1.cell 1; have q2 := x1.cell 2; have q3 := x1.cell 3
  simp at q0 q1 q2 q3
  have hN1 : w.heap.size < W1.heap.size := by omega
  clear b0 b1 x0 x1
  go_wp2_with fail
  clear q0 q1 q2 q3
  have hfew := rQFew _ q W1 T1.out
  have Hfew := Lib.hid hfew
  clear hfew
  cases hf : Qy.few q with
  | false =>
    rw [hf] at Hfew
    refine Hfew.out.mono ?_
    rintro e W2 ⟨rfl, b2⟩
    have B2 := Lib.hid (B1.out.trans (b2.mono (by omega)))
    clear b2
    go_wp2_with fail
    go_ret
    exact ⟨rfl, B2.out⟩
  | true =>
    rw [hf] at Hfew
    refine Hfew.out.mono ?_
    rintro e W2 ⟨rfl, b2⟩
    have z2 := b2.size
    have x2 := X1.out.below b2 (by omega)
    have X2 := Lib.hid x2; have T2 := Lib.hid (T1.out.later b2 z2); have B2 := Lib.hid (B1.out.trans (b2.mono (by omega)))
    have q0 := x2.cell 0; have q1 := x2.cell 1; have q2 := x2.cell 2; have q3 := x2.cell 3
    simp at q0 q1 q2 q3
    clear b2 x2 X1 T1 B1 Hfew hf
    go_wp2_with fail
    clear q0 q1 q2 q3
    refine (lCheck _ q W2 (HE.out.next B2.out) T2.out).mono ?_
    rintro e W3 ⟨rfl, b3⟩
    have z3 := b3.size
    have X3 := Lib.hid (X2.out.below b3 (by omega)); have B3 := Lib.hid (B2.out.trans (b3.mono (by omega)))
    clear b3 X2 B2 T2
    cases hv : Qy.valid q with
    | false =>
      rw [if_neg (by simp)]
      clear hv
      go_wp2_with fail
      go_ret
      exact ⟨rfl, B3.out⟩
    | true =>
      rw [if_pos rfl]
      have HV := Lib.hid hv
      have hok := Qy.valid_ok hv
      have k8 := hok.names8; have k1 := hok.show1; have k2 := hok.show8; have k3 := hok.conds1; have k4 := hok.conds16
      rw [← Hm0.out] at k8
      rw [← Hm1.out] at k1 k2
      rw [← Hm2.out, ← Hm3.out] at k3 k4
      have Hok := Lib.hid hok
      have q1 := X3.out.cell 1
      simp at q1
      have hN3 : w.heap.size < W3.heap.size := by omega
      have hN4 : w.heap.size < W3.heap.size + 1 := by omega
      clear hv hok
      go_wp2_with fail
      obtain ⟨W4, hW4⟩ : ∃ W4, W4 = (W3.alloc (.cells #[] 9)).alloc (.cells #[] 9) := ⟨_, rfl⟩
      rw [← hW4]
      have B4 : Hid (Below w.heap.size w W4) := Lib.hid (by rw [hW4]; exact (B3.out.alloc (by omega) _).alloc (by simp; omega) _)
      have X4 : Hid (Blk W4 w.heap.size 27 #[.slice A0 m0 c0, .slice A1 m1 c1, .slice A2 m2 c2, .slice A3 m3 c3]) := Lib.hid (by rw [hW4]; exact (X3.out.alloc _).alloc _)
      have M4 : Hid (MixI w.heap.size q 0 0 (.slice (some ⟨W3.heap.size, 0, none⟩) 0 0) (.slice (some ⟨W3.heap.size + 1, 0, none⟩) 0 0) W4) := Lib.hid (by
        rw [hW4]
        refine ⟨own_baseM ((own_emptyS W3).alloc _) (by omega), ?_, .inr (by simp [Value.ownBlock]), .inr (by simp [Value.ownBlock])⟩
        have := own_emptyS (W3.alloc (.cells #[] 9))
        rw [show (W3.alloc (.cells #[] 9)).heap.size = W3.heap.size + 1 by simp] at this
        exact own_baseM this (by omega))
      have hs4 : W4.heap.size = W3.heap.size + 2 := by rw [hW4]; simp
      clear hW4 q1 X3 B3
      have q0 := X4.out.cell 0; have q1 := X4.out.cell 1; have q2 := X4.out.cell 2; have q3 := X4.out.cell 3
      simp at q0 q1 q2 q3
      go_loop [5, 38] (fun v5 v38 => ∃ k : Nat, k ≤ m1 ∧ v38 = .int .i64 k ∧ v5 = .string (Lx.bs (Qy.headW ((q.shown.take k).map (Qy.nmOf q.names))))) (fun _ v38 => m1 - (intOf v38).toNat)
      case atStart => exact ⟨0, by omega, rfl, rfl⟩
      case round =>
        obtain ⟨k, hk, rfl, rfl⟩ := hrel
        by_cases hlt : k < m1
        · obtain ⟨n, hn⟩ : ∃ n, q.shown[k]? = some n := ⟨_, List.getElem?_eq_getElem (by have := Hm1.out; omega)⟩
          obtain ⟨hn1, hn2⟩ := Qy.ok_in Hok.out n (List.mem_append_left _ (List.mem_of_getElem? hn))
          have hnl := Qy.nm_len Hok.out hn1 hn2
          rw [← Hm0.out] at hn2
          obtain ⟨z, rfl⟩ := Int.eq_ofNat_of_zero_le hn1
          obtain ⟨b1, o1, rfl, hb1, hc1⟩ := (R1.out.below B4.out (Nat.le_refl _)).at_ k (intC z) (by rw [List.getElem?_map, hn]; rfl)
          have k1 := hc1 0 _ rfl
          rw [Nat.mul_one, Nat.add_zero] at k1
          obtain ⟨nm, hnm⟩ : ∃ nm, q.names[z]? = some nm := ⟨_, List.getElem?_eq_getElem (by have := Hm0.out; omega)⟩
          obtain ⟨b0, o0, rfl, hb0, hc0⟩ := (R0.out.below B4.out (Nat.le_refl _)).at_ z (strC nm) (by rw [List.getElem?_map, hnm]; rfl)
          have k2 := hc0 0 _ rfl
          rw [Nat.mul_one, Nat.add_zero] at k2
          have hnmz : Qy.nmOf q.names (z : Int) = nm := by
            unfold Qy.nmOf
            rw [show ((z : Int)).toNat = z from rfl, List.getD_eq_getElem?_getD, hnm]; rfl
          rw [hnmz] at hnl
          obtain ⟨L, hL⟩ : ∃ L, L = (q.shown.take k).map (Qy.nmOf q.names) := ⟨_, rfl⟩
          have hLn : (q.shown.take (k + 1)).map (Qy.nmOf q.names) = L ++ [nm] := by
            rw [take_snoc' hn, List.map_append, ← hL, List.map_singleton, hnmz]
          have hhl := Qy.headW_len L (fun x hx => by
            rw [hL] at hx
            obtain ⟨a, ha, rfl⟩ := List.mem_map.1 hx
            obtain ⟨g1, g2⟩ := Qy.ok_in Hok.out a (List.mem_append_left _ (List.mem_of_mem_take ha))
            exact Qy.nm_len Hok.out g1 g2)
          have hLl : L.length = k := by rw [hL, List.length_map, List.length_take]; have := Hm1.out; omega
          rw [hLl] at hhl
          have hsn := Qy.headW_snoc L nm
          have hle : L = [] ↔ k = 0 := by rw [← hLl]; exact List.length_eq_zero_iff.symm
          rw [← hL]
          have hsz := Lx.bs_size (Qy.headW L); have hsz2 := Lx.bs_size nm
          have HLn := Lib.hid hLn; have Hsn := Lib.hid hsn; have Hle := Lib.hid hle
          clear hn hc1 hnm hc0 hnmz hL hLn hLl hsn hle
          by_cases hk0 : k = 0
          · subst hk0
            rw [Nat.add_zero] at k1
            go_wp2_with fail
            go_round
            case rel => exact ⟨1, by omega, rfl, by rw [HLn.out, Hsn.out, if_pos (Hle.out.2 rfl), List.append_nil, Lx.bs_app]⟩
            case measure => simp [intOf]; omega
          · have hk0' : 0 < k := by omega
            have Hk0 := Lib.hid hk0
            clear hk0
            go_wp2_with fail
            go_round
            case rel => exact ⟨k + 1, by omega, by go_num, by rw [HLn.out, Hsn.out, if_neg (fun e => Hk0.out (Hle.out.1 e)), ← Lx.bs_app, ← Lx.bs_app]; rfl⟩
            case measure => simp [intOf]; omega
        · obtain rfl : m1 = k := by omega
          rw [show q.shown.take m1 = q.shown by rw [Hm1.out]; exact List.take_length]
          obtain ⟨H, hH⟩ : ∃ H, H = Qy.headW (q.shown.map (Qy.nmOf q.names)) := ⟨_, rfl⟩
          have hHE : H ++ Qy.headE = Qy.headS q ++ [32] := by
            rw [hH]
            exact Qy.headW_all q (fun e => by have h1 := Hm1.out; rw [e] at h1; simp at h1; omega)
          have hHl : (H ++ Qy.headE).length ≤ 8000 := by
            have h1 := Qy.src_len HV.out [] (by simp) (by simp)
            rw [Qy.srcS_zero, ← hHE] at h1
            omega
          rw [← hH]
          have hsz := Lx.bs_size H
          have HH := Lib.hid hHE
          have hHl2 : H.length ≤ 8000 := by rw [List.length_append] at hHl; omega
          have e5 : Lx.bs H ++ (⟨#[32, 119, 104, 101, 114, 101, 32]⟩ : ByteArray) = Lx.bs (Qy.headS q ++ [32]) := by
            rw [← HH.out, ← Lx.bs_app]; rfl
          clear hH hHE hlt
          go_wp2_with fail
          obtain ⟨Hd, hHd⟩ : ∃ Hd, Hd = Qy.headS q ++ [32] := ⟨_, rfl⟩
          have hHdl : Hd.length ≤ 8000 := by rw [hHd, ← HH.out]; exact hHl
          have hsHd := Lx.bs_size Hd
          have hHd1 : 1 ≤ Hd.length := by rw [hHd]; simp
          rw [← hHd]
          have HHd := Lib.hid hHd
          clear hHd e5 hHl hHl2 hsz
          go_loopw [6, 7, 73] (fun v6 v7 v73 wr => ∃ i : Nat, i ≤ m2 + m3 ∧ v73 = .int .i64 i ∧ Hid (MixI w.heap.size q (min i m2) (i - m2) v6 v7 wr) ∧ Below w.heap.size w wr ∧ Hid (Blk wr w.heap.size 27 #[.slice A0 m0 c0, .slice A1 m1 c1, .slice A2 m2 c2, .slice A3 m3 c3])) (fun _ _ v73 _ => m2 + m3 - (intOf v73).toNat)
          case atStart => exact ⟨0, by omega, rfl, Lib.hid (by rw [Nat.zero_min, Nat.zero_sub]; exact M4.out), B4.out, X4⟩
          case round =>
          obtain ⟨i, hi, rfl, HM, hbel, HX⟩ := hrel
          have hszr := hbel.size
          by_cases hlt : i < m2 + m3
          · have q0 := HX.out.cell 0; have q1 := HX.out.cell 1; have q2 := HX.out.cell 2; have q3 := HX.out.cell 3
            simp at q0 q1 q2 q3
            have hN5 := HX.out.lt
            by_cases hat : i < m2
            · obtain ⟨x, hx⟩ : ∃ x, q.atoms[i]? = some x := ⟨_, List.getElem?_eq_getElem (by have := Hm2.out; omega)⟩
              have hit : Qy.Item.at_ x ∈ Qy.items q := Qy.items_at hx
              obtain ⟨b2, o2, rfl, hb2, hcc⟩ := R2.out.at_ i (atomC x) (by rw [List.getElem?_map, hx]; rfl)
              obtain ⟨C, hC⟩ : ∃ C, C = Qy.condS q (.at_ x) := ⟨_, rfl⟩
              have hCl := (Qy.condS_len HV.out hit).1
              rw [← hC] at hCl
              have hP := Qy.one_print HV.out hit
              rw [Qy.one_text, ← hC, ← HHd.out] at hP
              obtain ⟨S, hS⟩ : ∃ S, S = Hd ++ C ++ ([32, 59] : List UInt8) := ⟨_, rfl⟩
              have f1 := Qy.cut_front Hd C; have f2 := Qy.cut_end Hd C; have f3 := Qy.cut_mid Hd C
              rw [← hS] at f1 f2 f3 hP
              have hSl1 : S.length = Hd.length + C.length + 2 := by rw [hS]; simp; omega
              have hSl2 : S.length ≤ Hd.length + C.length + 2 := by omega
              have hSl3 : Hd.length + C.length + 2 ≤ S.length := by omega
              have hsS := Lx.bs_size S
              have hpr : ∀ W, Below w.heap.size w W → Calls Tryd.prog 7 #[.slice A0 m0 c0, .agg #[.slice none 0 0, .slice A1 m1 c1, .slice (some ⟨b2, o2 + i * 9, none⟩) 1 (c2 - i), .slice none 0 0]] W (PrintedPost (Lx.bs S) W) := fun W hW => by
                have h := lPrinted A0 A1 (some ⟨b2, o2 + i * 9, none⟩) none c0 c1 (c2 - i) 0 q.names q.shown [x] [] (Lx.bs S) W (HE.out.next hW) ((R0.out.below hW (Nat.le_refl _)).mono hW.size) ((R1.out.below hW (Nat.le_refl _)).mono hW.size) (⟨fun k cs hk => by
                  match k, hk with
                  | 0, hk =>
                    obtain rfl : atomC x = cs := by simpa using hk
                    exact ⟨b2, o2 + i * 9, rfl, by have := hW.size; omega, fun j v hj => by
                      rw [show o2 + i * 9 + 0 * 9 + j = o2 + i * 9 + j by omega]
                      exact (hW.cell (p := ⟨b2, o2 + i * 9 + j, none⟩) hb2).trans (hcc j v hj)⟩
                  | k + 1, hk => simp at hk, by simp⟩) (Lies.nil _ _ _ _)
                  Htx.out (fun n hn => by
                    rcases List.mem_append.1 hn with h | h
                    · exact Qy.ok_in Hok.out n (List.mem_append_left _ h)
                    · exact Qy.items_in Hok.out hit n (by simpa [Qy.Item.vars] using h)) (by rw [← Hm0.out]; exact k8) (by rw [← Hm1.out]; exact k2) (by simp) (by simp) hP (by rw [Lx.bs_size]; omega) (by rw [Lx.bs_size]; omega)
                rw [← Hm0.out, ← Hm1.out] at h
                exact h
              have Hpr := Lib.hid hpr; have Hx := Lib.hid hx; have HC := Lib.hid hC; have F1 := Lib.hid f1; have F2 := Lib.hid f2; have F3 := Lib.hid f3; have Hbel := Lib.hid hbel
              clear hpr hx hC hP hS hSl1 f1 f2 f3 hcc hit hbel
              go_wp2_with fail
              refine (Hpr.out _ (Hbel.out.alloc hszr _)).mono ?_
              rintro e w6 ⟨rfl, hb6⟩
              have hX6 := HX.out.alloc (.cells #[.slice none 0 0, .slice A1 m1 c1, .slice (some ⟨b2, o2 + i * 9, none⟩) 1 (c2 - i), .slice none 0 0] 27)
              have hX6' := hX6.below hb6 (by simp; omega)
              have hM6 := HM.out.next (((Below.refl _ _).alloc (Nat.le_refl _) (.cells #[.slice none 0 0, .slice A1 m1 c1, .slice (some ⟨b2, o2 + i * 9, none⟩) 1 (c2 - i), .slice none 0 0] 27)).trans (hb6.mono (by simp)))
              have hB6 := (Hbel.out.alloc hszr (.cells #[.slice none 0 0, .slice A1 m1 c1, .slice (some ⟨b2, o2 + i * 9, none⟩) 1 (c2 - i), .slice none 0 0] 27)).trans (hb6.mono (by simp; omega))
              rw [show min i m2 = i by omega, show i - m2 = 0 by omega] at hM6
              have q2' := hX6'.cell 2
              simp at q2'
              have HX6 := Lib.hid hX6'; have HM6 := Lib.hid hM6; have HB6 := Lib.hid hB6
              have f1 := F1.out; have f2 := F2.out; have f3 := F3.out
              have hs6 := hB6.size
              have hE : (Lx.bs [32, 59]).toList = [32, 59] := by rw [ByteArray.toList_eq, Lx.bs_list]
              clear hb6 hX6 hX6' hM6 hB6 q0 q1 q2 q3
              go_wp2_with (at_builtin; refine wpList_append_lies _ rfl _ _ _ rfl w.heap.size 9 iS _ 1 16 Tryd.underlying22 hiS hS0 hS1 hS2 rfl (by omega) _ i _ rfl (HM6.out.o6.alloc _) ⟨w6.heap.size, 0, none⟩ 1 1 [.string (Lx.bs C)] rfl rfl (World.news_of_block (cs := #[.string (Lx.bs C)]) (t := 9) (fr := (0, 0)) (heap_alloc_new w6 _)) (by simp [Value.oneCell']) (by omega) (by unfold maxLen; omega) (by omega) (by simp; omega) (w6.heap.size + 1) (by simp) ?_; intro gg cap w7 hown3 hgrow3 hat3 hlt3; have HQ := Lib.hid (HM6.out.add6 Hx.out HC.out hs6 hgrow3 hat3 hown3); clear hown3 hgrow3 hat3)
              go_roundw
              case rel => exact ⟨i + 1, by omega, by go_num, Lib.hid (by rw [show min (i + 1) m2 = i + 1 by omega, show i + 1 - m2 = 0 by omega]; exact HQ.out.1), HB6.out.trans HQ.out.2.1, Lib.hid (HQ.out.2.2 _ _ _ HX6.out (by decide))⟩
              case measure => simp [intOf]; omega
            · obtain ⟨x, hx⟩ : ∃ x, q.tests[i - m2]? = some x := ⟨_, List.getElem?_eq_getElem (by have := Hm3.out; omega)⟩
              have hit : Qy.Item.te x ∈ Qy.items q := Qy.items_te hx
              obtain ⟨b2, o2, rfl, hb2, hcc⟩ := R3.out.at_ (i - m2) (testC x) (by rw [List.getElem?_map, hx]; rfl)
              obtain ⟨C, hC⟩ : ∃ C, C = Qy.condS q (.te x) := ⟨_, rfl⟩
              have hCl := (Qy.condS_len HV.out hit).1
              rw [← hC] at hCl
              have hP := Qy.one_print HV.out hit
              rw [Qy.one_text, ← hC, ← HHd.out] at hP
              obtain ⟨S, hS⟩ : ∃ S, S = Hd ++ C ++ ([32, 59] : List UInt8) := ⟨_, rfl⟩
              have f1 := Qy.cut_front Hd C; have f2 := Qy.cut_end Hd C; have f3 := Qy.cut_mid Hd C
              rw [← hS] at f1 f2 f3 hP
              have hSl1 : S.length = Hd.length + C.length + 2 := by rw [hS]; simp; omega
              have hSl2 : S.length ≤ Hd.length + C.length + 2 := by omega
              have hSl3 : Hd.length + C.length + 2 ≤ S.length := by omega
              have hsS := Lx.bs_size S
              have hpr : ∀ W, Below w.heap.size w W → Calls Tryd.prog 7 #[.slice A0 m0 c0, .agg #[.slice none 0 0, .slice A1 m1 c1, .slice none 0 0, .slice (some ⟨b2, o2 + (i - m2) * 5, none⟩) 1 (c3 - (i - m2))]] W (PrintedPost (Lx.bs S) W) := fun W hW => by
                have h := lPrinted A0 A1 none (some ⟨b2, o2 + (i - m2) * 5, none⟩) c0 c1 0 (c3 - (i - m2)) q.names q.shown [] [x] (Lx.bs S) W (HE.out.next hW) ((R0.out.below hW (Nat.le_refl _)).mono hW.size) ((R1.out.below hW (Nat.le_refl _)).mono hW.size) (Lies.nil _ _ _ _) (⟨fun k cs hk => by
                  match k, hk with
                  | 0, hk =>
                    obtain rfl : testC x = cs := by simpa using hk
                    exact ⟨b2, o2 + (i - m2) * 5, rfl, by have := hW.size; omega, fun j v hj => by
                      rw [show o2 + (i - m2) * 5 + 0 * 5 + j = o2 + (i - m2) * 5 + j by omega]
                      exact (hW.cell (p := ⟨b2, o2 + (i - m2) * 5 + j, none⟩) hb2).trans (hcc j v hj)⟩
                  | k + 1, hk => simp at hk, by simp⟩)
                  Htx.out (fun n hn => by
                    rcases List.mem_append.1 hn with h | h
                    · exact Qy.ok_in Hok.out n (List.mem_append_left _ h)
                    · exact Qy.items_in Hok.out hit n (by simpa [Qy.Item.vars] using h)) (by rw [← Hm0.out]; exact k8) (by rw [← Hm1.out]; exact k2) (by simp) (by simp) hP (by rw [Lx.bs_size]; omega) (by rw [Lx.bs_size]; omega)
                rw [← Hm0.out, ← Hm1.out] at h
                exact h
              have Hpr := Lib.hid hpr; have Hx := Lib.hid hx; have HC := Lib.hid hC; have F1 := Lib.hid f1; have F2 := Lib.hid f2; have F3 := Lib.hid f3; have Hbel := Lib.hid hbel
              clear hpr hx hC hP hS hSl1 f1 f2 f3 hcc hit hbel
              go_wp2_with fail
              refine (Hpr.out _ (Hbel.out.alloc hszr _)).mono ?_
              rintro e w6 ⟨rfl, hb6⟩
              have hX6 := HX.out.alloc (.cells #[.slice none 0 0, .slice A1 m1 c1, .slice none 0 0, .slice (some ⟨b2, o2 + (i - m2) * 5, none⟩) 1 (c3 - (i - m2))] 27)
              have hX6' := hX6.below hb6 (by simp; omega)
              have hM6 := HM.out.next (((Below.refl _ _).alloc (Nat.le_refl _) (.cells #[.slice none 0 0, .slice A1 m1 c1, .slice none 0 0, .slice (some ⟨b2, o2 + (i - m2) * 5, none⟩) 1 (c3 - (i - m2))] 27)).trans (hb6.mono (by simp)))
              have hB6 := (Hbel.out.alloc hszr (.cells #[.slice none 0 0, .slice A1 m1 c1, .slice none 0 0, .slice (some ⟨b2, o2 + (i - m2) * 5, none⟩) 1 (c3 - (i - m2))] 27)).trans (hb6.mono (by simp; omega))
              rw [show min i m2 = m2 by omega] at hM6
              have q2' := hX6'.cell 2
              simp at q2'
              have HX6 := Lib.hid hX6'; have HM6 := Lib.hid hM6; have HB6 := Lib.hid hB6
              have f1 := F1.out; have f2 := F2.out; have f3 := F3.out
              have hs6 := hB6.size
              have hE : (Lx.bs [32, 59]).toList = [32, 59] := by rw [ByteArray.toList_eq, Lx.bs_list]
              clear hb6 hX6 hX6' hM6 hB6 q0 q1 q2 q3
              go_wp2_with (at_builtin; refine wpList_append_lies _ rfl _ _ _ rfl w.heap.size 9 iS _ 1 16 Tryd.underlying22 hiS hS0 hS1 hS2 rfl (by omega) _ (i - m2) _ rfl (HM6.out.o7.alloc _) ⟨w6.heap.size, 0, none⟩ 1 1 [.string (Lx.bs C)] rfl rfl (World.news_of_block (cs := #[.string (Lx.bs C)]) (t := 9) (fr := (0, 0)) (heap_alloc_new w6 _)) (by simp [Value.oneCell']) (by omega) (by unfold maxLen; omega) (by omega) (by simp; omega) (w6.heap.size + 1) (by simp) ?_; intro gg cap w7 hown3 hgrow3 hat3 hlt3; have HQ := Lib.hid (HM6.out.add7 Hx.out HC.out hs6 hgrow3 hat3 hown3); clear hown3 hgrow3 hat3)
              go_roundw
              case rel => exact ⟨i + 1, by omega, by go_num, Lib.hid (by rw [show min (i + 1) m2 = m2 by omega, show i + 1 - m2 = i - m2 + 1 by omega]; exact HQ.out.1), HB6.out.trans HQ.out.2.1, Lib.hid (HQ.out.2.2 _ _ _ HX6.out (by decide))⟩
              case measure => simp [intOf]; omega
          · have hN5 := HX.out.lt
            obtain rfl : i = m2 + m3 := by omega
            rw [show min (m2 + m3) m2 = m2 by omega, show m2 + m3 - m2 = m3 by omega] at HM
            have hta : q.atoms.take m2 = q.atoms := by rw [Hm2.out]; exact List.take_length
            have htt : q.tests.take m3 = q.tests := by rw [Hm3.out]; exact List.take_length
            have o6 := HM.out.o6; have o7 := HM.out.o7
            rw [hta] at o6
            rw [htt] at o7
            obtain ⟨A6, c6, rfl, _, L6⟩ := own_lies o6 ((q.atoms.map fun x => Qy.condS q (.at_ x)).map strC) (by rw [List.flatMap_def]) (fun c hc => by
              obtain ⟨x, _, rfl⟩ := List.mem_map.1 hc; rfl) (by rw [List.length_map, List.length_map]; exact Hm2.out) (by omega)
            obtain ⟨A7, c7, rfl, _, L7⟩ := own_lies o7 ((q.tests.map fun x => Qy.condS q (.te x)).map strC) (by rw [List.flatMap_def]) (fun c hc => by
              obtain ⟨x, _, rfl⟩ := List.mem_map.1 hc; rfl) (by rw [List.length_map, List.length_map]; exact Hm3.out) (by omega)
            have HL6 := Lib.hid L6; have HL7 := Lib.hid L7; have Hbel := Lib.hid hbel
            have R5 := Lib.hid (R4.out.below hbel (Nat.le_refl _))
            have hn4b : n4 ≤ 140737488351232 := hn4
            clear o6 o7 L6 L7 hbel HM hlt hta htt
            go_wp2_with fail
            go_loop [15, 16, 17, 18] (fun v15 v16 v17 v18 => ∃ (ia kt : Nat) (is : List Qy.Item), ia ≤ m2 ∧ kt ≤ m3 ∧ v16 = .int .i64 ia ∧ v17 = .int .i64 kt ∧ v18 = .int .i64 ((ia : Int) + (kt : Int)) ∧ v15 = .string (Lx.bs (Qy.srcS q is)) ∧ Hid (is.flatMap Qy.Item.as = q.atoms.take ia ∧ is.flatMap Qy.Item.ts = q.tests.take kt)) (fun _ _ _ v18 => m2 + m3 - (intOf v18).toNat)
            case atStart => exact ⟨0, 0, [], by omega, by omega, rfl, rfl, rfl, by rw [HHd.out]; rfl, Lib.hid ⟨rfl, rfl⟩⟩
            case round =>
            obtain ⟨ia, kt, is, hia, hkt, rfl, rfl, rfl, rfl, hIs⟩ := hrel
            have hcnt : is.length = ia + kt := by
              rw [Qy.count_items, hIs.out.1, hIs.out.2, List.length_take, List.length_take, ← Hm2.out, ← Hm3.out]; omega
            have hmem : ∀ i ∈ is, i ∈ Qy.items q := fun i hi => by
              unfold Qy.items
              cases i with
              | at_ x => exact List.mem_append_left _ (List.mem_map.2 ⟨x, List.mem_of_mem_take (hIs.out.1 ▸ Qy.mem_as hi), rfl⟩)
              | te x => exact List.mem_append_right _ (List.mem_map.2 ⟨x, List.mem_of_mem_take (hIs.out.2 ▸ Qy.mem_ts hi), rfl⟩)
            have hsl := Qy.src_len HV.out is hmem (by omega)
            have hnil : is = [] ↔ ia + kt = 0 := by rw [← hcnt]; exact List.length_eq_zero_iff.symm
            obtain ⟨src, hsrc⟩ : ∃ s, s = Qy.srcS q is := ⟨_, rfl⟩
            rw [← hsrc] at hsl ⊢
            have hss := Lx.bs_size src
            have Hsrc := Lib.hid hsrc; have Hnil := Lib.hid hnil; have Hmem := Lib.hid hmem
            clear hcnt hmem hnil hsrc
            by_cases hend : ia = m2 ∧ kt = m3
            · obtain ⟨h1, h2⟩ := hend
              have ea := hIs.out.1; have et := hIs.out.2
              rw [h1, Hm2.out, List.take_length] at ea
              rw [h2, Hm3.out, List.take_length] at et
              have hpq := Qy.mixed_src HV.out ea et
              rw [← Hsrc.out] at hpq
              have hi2 : m2 ≤ ia := by omega
              have hi3 : m3 ≤ kt := by omega
              have hp2 : Qy.parse (Lx.bs (src ++ [59])).data.toList = .ok q := by rw [Lx.bs_list]; exact hpq
              have htm : (Lx.bs (src ++ [59])).size ≤ maxLen := by rw [Lx.bs_size, List.length_append]; unfold maxLen; simp; omega
              have e9 : Lx.bs src ++ (⟨#[59]⟩ : ByteArray) = Lx.bs (src ++ [59]) := by rw [← Lx.bs_app]; rfl
              have Hp2 := Lib.hid hp2
              have X4 := HX; have B4 := Hbel; have T4 := Lib.hid (T0.out.later Hbel.out hszr)
              clear h1 h2 ea et hpq hp2
              go_wp2_with fail
              refine (parse_ok_call _ q Hp2.out wr htm (HE.out.next B4.out)).mono ?_
              rintro e W5 ⟨v2, rfl, t5, b5⟩
              have z5 := b5.size
              obtain ⟨⟨D0, e0, D1, e1, D2, e2, D3, e3, hv2, hr2⟩, htx2⟩ := t5
              subst hv2
              have t5 : QAt W5 W5.heap.size (.agg #[.slice D0 q.names.length e0, .slice D1 q.shown.length e1, .slice D2 q.atoms.length e2, .slice D3 q.tests.length e3]) q := ⟨⟨D0, e0, D1, e1, D2, e2, D3, e3, rfl, hr2⟩, htx2⟩
              have U5 := Lib.hid t5
              rw [← Hm0.out, ← Hm1.out, ← Hm2.out, ← Hm3.out] at U5 ⊢
              obtain ⟨W6, hW6⟩ : ∃ W6, W6 = W5.alloc (.cells #[.slice D0 m0 e0, .slice D1 m1 e1, .slice D2 m2 e2, .slice D3 m3 e3] 27) := ⟨_, rfl⟩
              have b6 : Below W5.heap.size W5 W6 := by rw [hW6]; exact (Below.refl _ _).alloc (Nat.le_refl _) _
              have z6 : W6.heap.size = W5.heap.size + 1 := by rw [hW6]; simp
              have x6 := (X4.out.below b5 hN5).below b6 (by omega)
              have T6 := Lib.hid ((T4.out.later b5 z5).later b6 (by omega)); have U6 := Lib.hid (U5.out.later b6 (by omega)); have B6 := Lib.hid ((B4.out.trans (b5.mono (by omega))).trans (b6.mono (by omega)))
              have HW6 := Lib.hid hW6
              have q0 := x6.cell 0; have q1 := x6.cell 1; have q2 := x6.cell 2; have q3 := x6.cell 3
              rw [hW6] at q0 q1 q2 q3
              simp at q0 q1 q2 q3
              have hN6 : w.heap.size < W5.heap.size + 1 := by omega
              clear b5 t5 hr2 htx2 b6 x6 hW6 U5 T4 X4 e9
              go_wp2_with fail
              rw [← HW6.out]
              clear q0 q1 q2 q3
              refine (rQSame _ _ q q W6 U6.out T6.out).mono ?_
              rintro e W7 ⟨rfl, b7⟩
              rw [decide_eq_true rfl]
              have B7 := Lib.hid (B6.out.trans (b7.mono (by omega)))
              clear b7
              go_wp2_with fail
              go_ret
              exact ⟨rfl, B7.out⟩
            · have hor : ia < m2 ∨ kt < m3 := by omega
              clear hend
              by_cases hk : kt < m3
              · by_cases hi : ia = m2
                · subst hi
                  by_cases hn0 : ia + kt = 0
                  · have hn0' : ia + kt ≤ 0 := by omega
                    clear hn0
                    obtain ⟨x, hx⟩ : ∃ x, q.tests[kt]? = some x := ⟨_, List.getElem?_eq_getElem (by have := Hm3.out; omega)⟩
                    obtain ⟨C, hC⟩ : ∃ C, C = Qy.condS q (.te x) := ⟨_, rfl⟩
                    have hCl := (Qy.condS_len HV.out (Qy.items_te hx)).1
                    obtain ⟨b5, o5, rfl, hb5, hc5⟩ := HL7.out.at_ kt (strC C) (by rw [List.getElem?_map, List.getElem?_map, hx, hC]; rfl)
                    have k5 := hc5 0 _ rfl
                    rw [Nat.mul_one, Nat.add_zero] at k5
                    rw [← hC] at hCl
                    have hsC := Lx.bs_size C
                    have Hsn : Hid (Qy.srcS q (is ++ [Qy.Item.te x]) = src ++ [] ++ C) := Lib.hid (by rw [Qy.srcS_snoc, ← Hsrc.out, if_pos (Hnil.out.2 (by omega)), ← hC])
                    have His : Hid ((is ++ [Qy.Item.te x]).flatMap Qy.Item.as = q.atoms.take ia ∧ (is ++ [Qy.Item.te x]).flatMap Qy.Item.ts = q.tests.take (kt + 1)) := Lib.hid (by rw [List.flatMap_append, List.flatMap_append, hIs.out.1, hIs.out.2, take_snoc' hx]; simp [Qy.Item.as, Qy.Item.ts])
                    clear hx hC hc5
                    go_wp2_with fail
                    go_round
                    case rel =>
                      first
                        | exact ⟨ia, kt + 1, is ++ [Qy.Item.te x], by omega, by omega, rfl, by go_num, by first | go_num | (congr 1; omega), by rw [Hsn.out, List.append_nil, Lx.bs_app], His⟩
                        | (refine ⟨_, _, _, _, ⟨ia, by omega, kt + 1, by omega, rfl, rfl, rfl, is ++ [Qy.Item.te x], rfl, His⟩, ?_, ?_, ?_, ?_⟩
                           all_goals first | rfl | go_num | (rw [Hsn.out, List.append_nil, Lx.bs_app]) | (congr 1; omega))
                    case measure => simp [intOf]; omega
                  · have hn0' : 0 < ia + kt := by omega
                    clear hn0
                    obtain ⟨x, hx⟩ : ∃ x, q.tests[kt]? = some x := ⟨_, List.getElem?_eq_getElem (by have := Hm3.out; omega)⟩
                    obtain ⟨C, hC⟩ : ∃ C, C = Qy.condS q (.te x) := ⟨_, rfl⟩
                    have hCl := (Qy.condS_len HV.out (Qy.items_te hx)).1
                    obtain ⟨b5, o5, rfl, hb5, hc5⟩ := HL7.out.at_ kt (strC C) (by rw [List.getElem?_map, List.getElem?_map, hx, hC]; rfl)
                    have k5 := hc5 0 _ rfl
                    rw [Nat.mul_one, Nat.add_zero] at k5
                    rw [← hC] at hCl
                    have hsC := Lx.bs_size C
                    have Hsn : Hid (Qy.srcS q (is ++ [Qy.Item.te x]) = src ++ [44, 32] ++ C) := Lib.hid (by rw [Qy.srcS_snoc, ← Hsrc.out, if_neg (fun e => by have := Hnil.out.1 e; omega), ← hC])
                    have His : Hid ((is ++ [Qy.Item.te x]).flatMap Qy.Item.as = q.atoms.take ia ∧ (is ++ [Qy.Item.te x]).flatMap Qy.Item.ts = q.tests.take (kt + 1)) := Lib.hid (by rw [List.flatMap_append, List.flatMap_append, hIs.out.1, hIs.out.2, take_snoc' hx]; simp [Qy.Item.as, Qy.Item.ts])
                    clear hx hC hc5
                    go_wp2_with fail
                    go_round
                    case rel =>
                      first
                        | exact ⟨ia, kt + 1, is ++ [Qy.Item.te x], by omega, by omega, rfl, by go_num, by first | go_num | (congr 1; omega), by rw [Hsn.out, ← Lx.bs_app, ← Lx.bs_app]; rfl, His⟩
                        | (refine ⟨_, _, _, _, ⟨ia, by omega, kt + 1, by omega, rfl, rfl, rfl, is ++ [Qy.Item.te x], rfl, His⟩, ?_, ?_, ?_, ?_⟩
                           all_goals first | rfl | go_num | (rw [Hsn.out, ← Lx.bs_app, ← Lx.bs_app]; rfl) | (congr 1; omega))
                    case measure => simp [intOf]; omega
                · have hi2 : ia < m2 := by omega
                  have hi3 : ((ia : Int) == (m2 : Int)) = false := by simp; omega
                  clear hi
                  by_cases hn : ia + kt < n4
                  · obtain ⟨b8, o8, z, rfl, hb8, k8', hz8⟩ := R5.out.at_ (ia + kt) hn
                    cases hz : (((z : Int) % 2) == 1) with
                    | true =>
                      by_cases hn0 : ia + kt = 0
                      · have hn0' : ia + kt ≤ 0 := by omega
                        clear hn0
                        obtain ⟨x, hx⟩ : ∃ x, q.tests[kt]? = some x := ⟨_, List.getElem?_eq_getElem (by have := Hm3.out; omega)⟩
                        obtain ⟨C, hC⟩ : ∃ C, C = Qy.condS q (.te x) := ⟨_, rfl⟩
                        have hCl := (Qy.condS_len HV.out (Qy.items_te hx)).1
                        obtain ⟨b5, o5, rfl, hb5, hc5⟩ := HL7.out.at_ kt (strC C) (by rw [List.getElem?_map, List.getElem?_map, hx, hC]; rfl)
                        have k5 := hc5 0 _ rfl
                        rw [Nat.mul_one, Nat.add_zero] at k5
                        rw [← hC] at hCl
                        have hsC := Lx.bs_size C
                        have Hsn : Hid (Qy.srcS q (is ++ [Qy.Item.te x]) = src ++ [] ++ C) := Lib.hid (by rw [Qy.srcS_snoc, ← Hsrc.out, if_pos (Hnil.out.2 (by omega)), ← hC])
                        have His : Hid ((is ++ [Qy.Item.te x]).flatMap Qy.Item.as = q.atoms.take ia ∧ (is ++ [Qy.Item.te x]).flatMap Qy.Item.ts = q.tests.take (kt + 1)) := Lib.hid (by rw [List.flatMap_append, List.flatMap_append, hIs.out.1, hIs.out.2, take_snoc' hx]; simp [Qy.Item.as, Qy.Item.ts])
                        clear hx hC hc5
                        go_wp2_with fail
                        go_round
                        case rel =>
                          first
                            | exact ⟨ia, kt + 1, is ++ [Qy.Item.te x], by omega, by omega, rfl, by go_num, by first | go_num | (congr 1; omega), by rw [Hsn.out, List.append_nil, Lx.bs_app], His⟩
                            | (refine ⟨_, _, _, _, ⟨ia, by omega, kt + 1, by omega, rfl, rfl, rfl, is ++ [Qy.Item.te x], rfl, His⟩, ?_, ?_, ?_, ?_⟩
                               all_goals first | rfl | go_num | (rw [Hsn.out, List.append_nil, Lx.bs_app]) | (congr 1; omega))
                        case measure => simp [intOf]; omega
                      · have hn0' : 0 < ia + kt := by omega
                        clear hn0
                        obtain ⟨x, hx⟩ : ∃ x, q.tests[kt]? = some x := ⟨_, List.getElem?_eq_getElem (by have := Hm3.out; omega)⟩
                        obtain ⟨C, hC⟩ : ∃ C, C = Qy.condS q (.te x) := ⟨_, rfl⟩
                        have hCl := (Qy.condS_len HV.out (Qy.items_te hx)).1
                        obtain ⟨b5, o5, rfl, hb5, hc5⟩ := HL7.out.at_ kt (strC C) (by rw [List.getElem?_map, List.getElem?_map, hx, hC]; rfl)
                        have k5 := hc5 0 _ rfl
                        rw [Nat.mul_one, Nat.add_zero] at k5
                        rw [← hC] at hCl
                        have hsC := Lx.bs_size C
                        have Hsn : Hid (Qy.srcS q (is ++ [Qy.Item.te x]) = src ++ [44, 32] ++ C) := Lib.hid (by rw [Qy.srcS_snoc, ← Hsrc.out, if_neg (fun e => by have := Hnil.out.1 e; omega), ← hC])
                        have His : Hid ((is ++ [Qy.Item.te x]).flatMap Qy.Item.as = q.atoms.take ia ∧ (is ++ [Qy.Item.te x]).flatMap Qy.Item.ts = q.tests.take (kt + 1)) := Lib.hid (by rw [List.flatMap_append, List.flatMap_append, hIs.out.1, hIs.out.2, take_snoc' hx]; simp [Qy.Item.as, Qy.Item.ts])
                        clear hx hC hc5
                        go_wp2_with fail
                        go_round
                        case rel =>
                          first
                            | exact ⟨ia, kt + 1, is ++ [Qy.Item.te x], by omega, by omega, rfl, by go_num, by first | go_num | (congr 1; omega), by rw [Hsn.out, ← Lx.bs_app, ← Lx.bs_app]; rfl, His⟩
                            | (refine ⟨_, _, _, _, ⟨ia, by omega, kt + 1, by omega, rfl, rfl, rfl, is ++ [Qy.Item.te x], rfl, His⟩, ?_, ?_, ?_, ?_⟩
                               all_goals first | rfl | go_num | (rw [Hsn.out, ← Lx.bs_app, ← Lx.bs_app]; rfl) | (congr 1; omega))
                        case measure => simp [intOf]; omega
                    | false =>
                      by_cases hn0 : ia + kt = 0
                      · have hn0' : ia + kt ≤ 0 := by omega
                        clear hn0
                        obtain ⟨x, hx⟩ : ∃ x, q.atoms[ia]? = some x := ⟨_, List.getElem?_eq_getElem (by have := Hm2.out; omega)⟩
                        obtain ⟨C, hC⟩ : ∃ C, C = Qy.condS q (.at_ x) := ⟨_, rfl⟩
                        have hCl := (Qy.condS_len HV.out (Qy.items_at hx)).1
                        obtain ⟨b5, o5, rfl, hb5, hc5⟩ := HL6.out.at_ ia (strC C) (by rw [List.getElem?_map, List.getElem?_map, hx, hC]; rfl)
                        have k5 := hc5 0 _ rfl
                        rw [Nat.mul_one, Nat.add_zero] at k5
                        rw [← hC] at hCl
                        have hsC := Lx.bs_size C
                        have Hsn : Hid (Qy.srcS q (is ++ [Qy.Item.at_ x]) = src ++ [] ++ C) := Lib.hid (by rw [Qy.srcS_snoc, ← Hsrc.out, if_pos (Hnil.out.2 (by omega)), ← hC])
                        have His : Hid ((is ++ [Qy.Item.at_ x]).flatMap Qy.Item.as = q.atoms.take (ia + 1) ∧ (is ++ [Qy.Item.at_ x]).flatMap Qy.Item.ts = q.tests.take kt) := Lib.hid (by rw [List.flatMap_append, List.flatMap_append, hIs.out.1, hIs.out.2, take_snoc' hx]; simp [Qy.Item.as, Qy.Item.ts])
                        clear hx hC hc5
                        go_wp2_with fail
                        go_round
                        case rel =>
                          first
                            | exact ⟨ia + 1, kt, is ++ [Qy.Item.at_ x], by omega, by omega, by go_num, rfl, by first | go_num | (congr 1; omega), by rw [Hsn.out, List.append_nil, Lx.bs_app], His⟩
                            | (refine ⟨_, _, _, _, ⟨ia + 1, by omega, kt, by omega, rfl, rfl, rfl, is ++ [Qy.Item.at_ x], rfl, His⟩, ?_, ?_, ?_, ?_⟩
                               all_goals first | rfl | go_num | (rw [Hsn.out, List.append_nil, Lx.bs_app]) | (congr 1; omega))
                        case measure => simp [intOf]; omega
                      · have hn0' : 0 < ia + kt := by omega
                        clear hn0
                        obtain ⟨x, hx⟩ : ∃ x, q.atoms[ia]? = some x := ⟨_, List.getElem?_eq_getElem (by have := Hm2.out; omega)⟩
                        obtain ⟨C, hC⟩ : ∃ C, C = Qy.condS q (.at_ x) := ⟨_, rfl⟩
                        have hCl := (Qy.condS_len HV.out (Qy.items_at hx)).1
                        obtain ⟨b5, o5, rfl, hb5, hc5⟩ := HL6.out.at_ ia (strC C) (by rw [List.getElem?_map, List.getElem?_map, hx, hC]; rfl)
                        have k5 := hc5 0 _ rfl
                        rw [Nat.mul_one, Nat.add_zero] at k5
                        rw [← hC] at hCl
                        have hsC := Lx.bs_size C
                        have Hsn : Hid (Qy.srcS q (is ++ [Qy.Item.at_ x]) = src ++ [44, 32] ++ C) := Lib.hid (by rw [Qy.srcS_snoc, ← Hsrc.out, if_neg (fun e => by have := Hnil.out.1 e; omega), ← hC])
                        have His : Hid ((is ++ [Qy.Item.at_ x]).flatMap Qy.Item.as = q.atoms.take (ia + 1) ∧ (is ++ [Qy.Item.at_ x]).flatMap Qy.Item.ts = q.tests.take kt) := Lib.hid (by rw [List.flatMap_append, List.flatMap_append, hIs.out.1, hIs.out.2, take_snoc' hx]; simp [Qy.Item.as, Qy.Item.ts])
                        clear hx hC hc5
                        go_wp2_with fail
                        go_round
                        case rel =>
                          first
                            | exact ⟨ia + 1, kt, is ++ [Qy.Item.at_ x], by omega, by omega, by go_num, rfl, by first | go_num | (congr 1; omega), by rw [Hsn.out, ← Lx.bs_app, ← Lx.bs_app]; rfl, His⟩
                            | (refine ⟨_, _, _, _, ⟨ia + 1, by omega, kt, by omega, rfl, rfl, rfl, is ++ [Qy.Item.at_ x], rfl, His⟩, ?_, ?_, ?_, ?_⟩
                               all_goals first | rfl | go_num | (rw [Hsn.out, ← Lx.bs_app, ← Lx.bs_app]; rfl) | (congr 1; omega))
                        case measure => simp [intOf]; omega
                  · by_cases hn0 : ia + kt = 0
                    · have hn0' : ia + kt ≤ 0 := by omega
                      clear hn0
                      obtain ⟨x, hx⟩ : ∃ x, q.atoms[ia]? = some x := ⟨_, List.getElem?_eq_getElem (by have := Hm2.out; omega)⟩
                      obtain ⟨C, hC⟩ : ∃ C, C = Qy.condS q (.at_ x) := ⟨_, rfl⟩
                      have hCl := (Qy.condS_len HV.out (Qy.items_at hx)).1
                      obtain ⟨b5, o5, rfl, hb5, hc5⟩ := HL6.out.at_ ia (strC C) (by rw [List.getElem?_map, List.getElem?_map, hx, hC]; rfl)
                      have k5 := hc5 0 _ rfl
                      rw [Nat.mul_one, Nat.add_zero] at k5
                      rw [← hC] at hCl
                      have hsC := Lx.bs_size C
                      have Hsn : Hid (Qy.srcS q (is ++ [Qy.Item.at_ x]) = src ++ [] ++ C) := Lib.hid (by rw [Qy.srcS_snoc, ← Hsrc.out, if_pos (Hnil.out.2 (by omega)), ← hC])
                      have His : Hid ((is ++ [Qy.Item.at_ x]).flatMap Qy.Item.as = q.atoms.take (ia + 1) ∧ (is ++ [Qy.Item.at_ x]).flatMap Qy.Item.ts = q.tests.take kt) := Lib.hid (by rw [List.flatMap_append, List.flatMap_append, hIs.out.1, hIs.out.2, take_snoc' hx]; simp [Qy.Item.as, Qy.Item.ts])
                      clear hx hC hc5
                      go_wp2_with fail
                      go_round
                      case rel =>
                        first
                          | exact ⟨ia + 1, kt, is ++ [Qy.Item.at_ x], by omega, by omega, by go_num, rfl, by first | go_num | (congr 1; omega), by rw [Hsn.out, List.append_nil, Lx.bs_app], His⟩
                          | (refine ⟨_, _, _, _, ⟨ia + 1, by omega, kt, by omega, rfl, rfl, rfl, is ++ [Qy.Item.at_ x], rfl, His⟩, ?_, ?_, ?_, ?_⟩
                             all_goals first | rfl | go_num | (rw [Hsn.out, List.append_nil, Lx.bs_app]) | (congr 1; omega))
                      case measure => simp [intOf]; omega
                    · have hn0' : 0 < ia + kt := by omega
                      clear hn0
                      obtain ⟨x, hx⟩ : ∃ x, q.atoms[ia]? = some x := ⟨_, List.getElem?_eq_getElem (by have := Hm2.out; omega)⟩
                      obtain ⟨C, hC⟩ : ∃ C, C = Qy.condS q (.at_ x) := ⟨_, rfl⟩
                      have hCl := (Qy.condS_len HV.out (Qy.items_at hx)).1
                      obtain ⟨b5, o5, rfl, hb5, hc5⟩ := HL6.out.at_ ia (strC C) (by rw [List.getElem?_map, List.getElem?_map, hx, hC]; rfl)
                      have k5 := hc5 0 _ rfl
                      rw [Nat.mul_one, Nat.add_zero] at k5
                      rw [← hC] at hCl
                      have hsC := Lx.bs_size C
                      have Hsn : Hid (Qy.srcS q (is ++ [Qy.Item.at_ x]) = src ++ [44, 32] ++ C) := Lib.hid (by rw [Qy.srcS_snoc, ← Hsrc.out, if_neg (fun e => by have := Hnil.out.1 e; omega), ← hC])
                      have His : Hid ((is ++ [Qy.Item.at_ x]).flatMap Qy.Item.as = q.atoms.take (ia + 1) ∧ (is ++ [Qy.Item.at_ x]).flatMap Qy.Item.ts = q.tests.take kt) := Lib.hid (by rw [List.flatMap_append, List.flatMap_append, hIs.out.1, hIs.out.2, take_snoc' hx]; simp [Qy.Item.as, Qy.Item.ts])
                      clear hx hC hc5
                      go_wp2_with fail
                      go_round
                      case rel =>
                        first
                          | exact ⟨ia + 1, kt, is ++ [Qy.Item.at_ x], by omega, by omega, by go_num, rfl, by first | go_num | (congr 1; omega), by rw [Hsn.out, ← Lx.bs_app, ← Lx.bs_app]; rfl, His⟩
                          | (refine ⟨_, _, _, _, ⟨ia + 1, by omega, kt, by omega, rfl, rfl, rfl, is ++ [Qy.Item.at_ x], rfl, His⟩, ?_, ?_, ?_, ?_⟩
                             all_goals first | rfl | go_num | (rw [Hsn.out, ← Lx.bs_app, ← Lx.bs_app]; rfl) | (congr 1; omega))
                      case measure => simp [intOf]; omega
              · have hi2 : ia < m2 := by omega
                by_cases hn0 : ia + kt = 0
                · have hn0' : ia + kt ≤ 0 := by omega
                  clear hn0
                  obtain ⟨x, hx⟩ : ∃ x, q.atoms[ia]? = some x := ⟨_, List.getElem?_eq_getElem (by have := Hm2.out; omega)⟩
                  obtain ⟨C, hC⟩ : ∃ C, C = Qy.condS q (.at_ x) := ⟨_, rfl⟩
                  have hCl := (Qy.condS_len HV.out (Qy.items_at hx)).1
                  obtain ⟨b5, o5, rfl, hb5, hc5⟩ := HL6.out.at_ ia (strC C) (by rw [List.getElem?_map, List.getElem?_map, hx, hC]; rfl)
                  have k5 := hc5 0 _ rfl
                  rw [Nat.mul_one, Nat.add_zero] at k5
                  rw [← hC] at hCl
                  have hsC := Lx.bs_size C
                  have Hsn : Hid (Qy.srcS q (is ++ [Qy.Item.at_ x]) = src ++ [] ++ C) := Lib.hid (by rw [Qy.srcS_snoc, ← Hsrc.out, if_pos (Hnil.out.2 (by omega)), ← hC])
                  have His : Hid ((is ++ [Qy.Item.at_ x]).flatMap Qy.Item.as = q.atoms.take (ia + 1) ∧ (is ++ [Qy.Item.at_ x]).flatMap Qy.Item.ts = q.tests.take kt) := Lib.hid (by rw [List.flatMap_append, List.flatMap_append, hIs.out.1, hIs.out.2, take_snoc' hx]; simp [Qy.Item.as, Qy.Item.ts])
                  clear hx hC hc5
                  go_wp2_with fail
                  go_round
                  case rel =>
                    first
                      | exact ⟨ia + 1, kt, is ++ [Qy.Item.at_ x], by omega, by omega, by go_num, rfl, by first | go_num | (congr 1; omega), by rw [Hsn.out, List.append_nil, Lx.bs_app], His⟩
                      | (refine ⟨_, _, _, _, ⟨ia + 1, by omega, kt, by omega, rfl, rfl, rfl, is ++ [Qy.Item.at_ x], rfl, His⟩, ?_, ?_, ?_, ?_⟩
                         all_goals first | rfl | go_num | (rw [Hsn.out, List.append_nil, Lx.bs_app]) | (congr 1; omega))
                  case measure => simp [intOf]; omega
                · have hn0' : 0 < ia + kt := by omega
                  clear hn0
                  obtain ⟨x, hx⟩ : ∃ x, q.atoms[ia]? = some x := ⟨_, List.getElem?_eq_getElem (by have := Hm2.out; omega)⟩
                  obtain ⟨C, hC⟩ : ∃ C, C = Qy.condS q (.at_ x) := ⟨_, rfl⟩
                  have hCl := (Qy.condS_len HV.out (Qy.items_at hx)).1
                  obtain ⟨b5, o5, rfl, hb5, hc5⟩ := HL6.out.at_ ia (strC C) (by rw [List.getElem?_map, List.getElem?_map, hx, hC]; rfl)
                  have k5 := hc5 0 _ rfl
                  rw [Nat.mul_one, Nat.add_zero] at k5
                  rw [← hC] at hCl
                  have hsC := Lx.bs_size C
                  have Hsn : Hid (Qy.srcS q (is ++ [Qy.Item.at_ x]) = src ++ [44, 32] ++ C) := Lib.hid (by rw [Qy.srcS_snoc, ← Hsrc.out, if_neg (fun e => by have := Hnil.out.1 e; omega), ← hC])
                  have His : Hid ((is ++ [Qy.Item.at_ x]).flatMap Qy.Item.as = q.atoms.take (ia + 1) ∧ (is ++ [Qy.Item.at_ x]).flatMap Qy.Item.ts = q.tests.take kt) := Lib.hid (by rw [List.flatMap_append, List.flatMap_append, hIs.out.1, hIs.out.2, take_snoc' hx]; simp [Qy.Item.as, Qy.Item.ts])
                  clear hx hC hc5
                  go_wp2_with fail
                  go_round
                  case rel =>
                    first
                      | exact ⟨ia + 1, kt, is ++ [Qy.Item.at_ x], by omega, by omega, by go_num, rfl, by first | go_num | (congr 1; omega), by rw [Hsn.out, ← Lx.bs_app, ← Lx.bs_app]; rfl, His⟩
                      | (refine ⟨_, _, _, _, ⟨ia + 1, by omega, kt, by omega, rfl, rfl, rfl, is ++ [Qy.Item.at_ x], rfl, His⟩, ?_, ?_, ?_, ?_⟩
                         all_goals first | rfl | go_num | (rw [Hsn.out, ← Lx.bs_app, ← Lx.bs_app]; rfl) | (congr 1; omega))
                  case measure => simp [intOf]; omega
end Go.Proofs.YtjonaidancomgaaDoor
