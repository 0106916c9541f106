/- Parts of the proof, joined into one text: QyPrint. -/
import Derived.Test.YtjonaidancomgaaDoorZQyBegin
import Derived.Test.YtjonaidancomgaaDoorZQyCheck
import Derived.Test.YtjonaidancomgaaDoorZLxWord
import Derived.Deep.RegionHeld3

namespace Go.Proofs.YtjonaidancomgaaDoor
open Go.RowKit Go.Maps Go.WideMaps

/-- What Print returns. -/
def Qy.printR (q : Qy.Query) : ByteArray × Int := if Qy.valid q then (match Lx.text (Qy.toksT q) with | some s => (Lx.bs s, 0) | none => (⟨#[]⟩, 90)) else (⟨#[]⟩, 500)
def PrintPost (q : Qy.Query) (w : World) (e : Ending) (w' : World) : Prop := e = .returned (.tuple #[.string (Qy.printR q).1, .int .i64 (Qy.printR q).2]) ∧ Below w.heap.size w w'
/-- What has been printed of what is shown. -/
def Qy.leadS (q : Qy.Query) (k : Nat) : List Lx.Tok := Qy.lead (Qy.nameT Qy.wShow) ((q.shown.take k).map (Qy.showT q.names))
def Qy.leadA (q : Qy.Query) (k : Nat) : List Lx.Tok := Qy.leadS q q.shown.length ++ Qy.lead (Qy.nameT Qy.wWhere) ((q.atoms.take k).map (Qy.atomT q.names))
def Qy.leadT (q : Qy.Query) (k : Nat) : List Lx.Tok := Qy.leadS q q.shown.length ++ Qy.lead (Qy.nameT Qy.wWhere) (q.atoms.map (Qy.atomT q.names) ++ (q.tests.take k).map (Qy.testT q.names))
theorem Qy.leadS_next (q : Qy.Query) {k : Nat} {n : Int} (h : q.shown[k]? = some n) : Qy.leadS q (k + 1) = Qy.leadS q k ++ [if k = 0 then Qy.nameT Qy.wShow else Qy.sgT 44, Qy.nameT (q.names.getD n.toNat [])] := by
  unfold Qy.leadS
  have hlt := (List.getElem?_eq_some_iff.1 h).1
  rw [List.take_add_one, h, List.map_append, Option.toList_some, List.map_singleton, Qy.lead_snoc]
  have : ((q.shown.take k).map (Qy.showT q.names)).isEmpty = decide (k = 0) := by
    cases k with
    | zero => simp
    | succ k =>
      cases hs : q.shown with
      | nil => rw [hs] at hlt; simp at hlt
      | cons a r => simp
  rw [this]
  by_cases e : k = 0 <;> simp [e, Qy.showT]
theorem Qy.leadA_next (q : Qy.Query) {k : Nat} {x : Qy.Atom} (h : q.atoms[k]? = some x) : Qy.leadA q (k + 1) = (Qy.leadA q k ++ [ledBy (decide (k = 0))]) ++ Qy.atomT q.names x := by
  unfold Qy.leadA
  have hlt := (List.getElem?_eq_some_iff.1 h).1
  rw [List.take_add_one, h, List.map_append, Option.toList_some, List.map_singleton, Qy.lead_snoc]
  have : ((q.atoms.take k).map (Qy.atomT q.names)).isEmpty = decide (k = 0) := by
    cases k with
    | zero => simp
    | succ k =>
      cases hs : q.atoms with
      | nil => rw [hs] at hlt; simp at hlt
      | cons a r => simp
  rw [this]
  unfold ledBy
  by_cases e : k = 0 <;> simp [e]
theorem Qy.leadT_next (q : Qy.Query) {k : Nat} {x : Qy.Test} (h : q.tests[k]? = some x) : Qy.leadT q (k + 1) = (Qy.leadT q k ++ [ledBy (decide (q.atoms.length + k = 0))]) ++ Qy.testT q.names x := by
  unfold Qy.leadT
  have hlt := (List.getElem?_eq_some_iff.1 h).1
  rw [List.take_add_one, h, List.map_append, Option.toList_some, List.map_singleton, ← List.append_assoc, Qy.lead_snoc]
  have : (q.atoms.map (Qy.atomT q.names) ++ (q.tests.take k).map (Qy.testT q.names)).isEmpty = decide (q.atoms.length + k = 0) := by
    cases ha : q.atoms with
    | cons a r => simp
    | nil =>
      cases k with
      | zero => simp
      | succ k =>
        cases hs : q.tests with
        | nil => rw [hs] at hlt; simp at hlt
        | cons a r => simp
  rw [this]
  unfold ledBy
  by_cases e : q.atoms.length + k = 0 <;> simp [e]
theorem Qy.leadS_len (q : Qy.Query) (k : Nat) (h : k ≤ 8) : (Qy.leadS q k).length ≤ 17 := by
  have := Qy.lead_len 1 (Qy.nameT Qy.wShow) ((q.shown.take k).map (Qy.showT q.names)) (fun x hx => by obtain ⟨n, _, rfl⟩ := List.mem_map.1 hx; simp [Qy.showT])
  rw [List.length_map, List.length_take] at this
  unfold Qy.leadS
  omega
theorem Qy.leadA_len (q : Qy.Query) (k : Nat) (h : k ≤ 16) (hs : q.shown.length ≤ 8) : (Qy.leadA q k).length ≤ 250 := by
  have h0 := Qy.leadS_len q q.shown.length hs
  have := Qy.lead_len 12 (Qy.nameT Qy.wWhere) ((q.atoms.take k).map (Qy.atomT q.names)) (fun x hx => by obtain ⟨n, _, rfl⟩ := List.mem_map.1 hx; simp [Qy.atomT_len])
  rw [List.length_map, List.length_take] at this
  unfold Qy.leadA
  rw [List.length_append]
  omega
theorem Qy.leadT_len (q : Qy.Query) (k : Nat) (h : k ≤ 16) (hs : q.shown.length ≤ 8) (ha : q.atoms.length ≤ 16) : (Qy.leadT q k).length ≤ 450 := by
  have h0 := Qy.leadS_len q q.shown.length hs
  have := Qy.lead_len 12 (Qy.nameT Qy.wWhere) (q.atoms.map (Qy.atomT q.names) ++ (q.tests.take k).map (Qy.testT q.names)) (fun x hx => by
    rcases List.mem_append.1 hx with hx | hx
    · obtain ⟨n, _, rfl⟩ := List.mem_map.1 hx; simp [Qy.atomT_len]
    · obtain ⟨n, _, rfl⟩ := List.mem_map.1 hx; have := Qy.testT_len q.names n; omega)
  rw [List.length_append, List.length_map, List.length_map, List.length_take] at this
  unfold Qy.leadT
  rw [List.length_append]
  omega
theorem Qy.leadT_zero (q : Qy.Query) : Qy.leadT q 0 = Qy.leadA q q.atoms.length := by unfold Qy.leadT Qy.leadA; simp

/-- The word that is held before the k-th of what is shown. -/
def showW (k : Nat) : Value := if k = 0 then .string (Lx.bs Qy.wShow) else .string ⟨#[]⟩

set_option maxRecDepth 20000 in
set_option maxHeartbeats 4000000 in
theorem lPrint (v : Value) (q : Qy.Query) (w : World) (he : EnvQ w) (h : QAt w w.heap.size v q) : Calls Tryd.prog 11 #[v] w (PrintPost q w) := by
  obtain ⟨⟨A0, c0, A1, c1, A2, c2, A3, c3, rfl, h0, h1, h2, h3⟩, htx⟩ := h
  have z0 := h0.len; have z1 := h1.len; have z2 := h2.len; have z3 := h3.len
  rw [List.length_map] at z0 z1 z2 z3
  obtain ⟨n0, hn0⟩ : ∃ n0, n0 = q.names.length := ⟨_, rfl⟩
  obtain ⟨n1, hn1⟩ : ∃ n1, n1 = q.shown.length := ⟨_, rfl⟩
  obtain ⟨n2, hn2⟩ : ∃ n2, n2 = q.atoms.length := ⟨_, rfl⟩
  obtain ⟨n3, hn3⟩ : ∃ n3, n3 = q.tests.length := ⟨_, rfl⟩
  have hqa : ∀ W, Below w.heap.size w W → Calls Tryd.prog 6 #[.agg #[.slice A0 n0 c0, .slice A1 n1 c1, .slice A2 n2 c2, .slice A3 n3 c3]] W (CheckPost q W) := fun W hW =>
    lCheck _ q W (he.next hW) ⟨⟨A0, c0, A1, c1, A2, c2, A3, c3, by rw [hn0, hn1, hn2, hn3], (h0.below hW (Nat.le_refl _)).mono hW.size, (h1.below hW (Nat.le_refl _)).mono hW.size, (h2.below hW (Nat.le_refl _)).mono hW.size, (h3.below hW (Nat.le_refl _)).mono hW.size⟩, htx⟩
  rw [← hn0] at z0 ⊢
  rw [← hn1] at z1 ⊢
  rw [← hn2] at z2 ⊢
  rw [← hn3] at z3 ⊢
  have H0 := Lib.hid h0; have H1 := Lib.hid h1; have H2 := Lib.hid h2; have H3 := Lib.hid h3; have Htx := Lib.hid htx; have He := Lib.hid he; have Hqa := Lib.hid hqa
  have Hn0 := Lib.hid hn0; have Hn1 := Lib.hid hn1; have Hn2 := Lib.hid hn2; have Hn3 := Lib.hid hn3
  clear h0 h1 h2 h3 htx he hqa hn0 hn1 hn2 hn3
  go_enter Tryd.func11, Tryd.ntmps11
  go_wp2_with fail
  refine (Hqa.out _ ((Below.refl _ _).alloc (Nat.le_refl _) _)).mono ?_
  rintro e w1 ⟨rfl, hb1⟩
  have hbel1 : Below w.heap.size w w1 := ((Below.refl _ _).alloc (Nat.le_refl _) _).trans (hb1.mono (by simp))
  have B0 := (Blk.new w 27 #[.slice A0 n0 c0, .slice A1 n1 c1, .slice A2 n2 c2, .slice A3 n3 c3]).below hb1 (by simp)
  have hs1 := hb1.size
  simp at hs1
  clear hb1
  cases hv : Qy.valid q with
  | false =>
    have Hr : Hid (Qy.printR q = (⟨#[]⟩, 500)) := Lib.hid (by unfold Qy.printR; rw [hv]; rfl)
    have Hbel1 := Lib.hid hbel1
    clear hv B0 hbel1
    simp only [Bool.false_eq_true, if_false]
    go_wp2_with fail
    go_ret2
    exact ⟨by rw [Hr.out]; rfl, Hbel1.out⟩
  | true =>
    simp only [if_true]
    have HV := (Qy.valid_iff q).1 hv
    have hV8 := HV.n8; have hVs := HV.sh; have hVc := HV.cs
    rw [← Hn0.out] at hV8
    rw [← Hn1.out] at hVs
    rw [← Hn2.out, ← Hn3.out] at hVc
    have HV := Lib.hid HV; have Hv := Lib.hid hv
    have q0 := B0.cell 0; have q1 := B0.cell 1
    simp at q0 q1
    have hN1 : w.heap.size < w1.heap.size := by omega
    have hN2 : w.heap.size < w1.heap.size + 1 := by omega
    have hN3 : w.heap.size < w1.heap.size + 1 + 1 := by omega
    have HB0 := Lib.hid B0; have Hbel1 := Lib.hid hbel1
    clear B0 hbel1 hv
    go_wp2_with fail
    obtain ⟨W0, hW0⟩ : ∃ W0, W0 = ((w1.alloc (.cells #[.slice A0 n0 c0, .slice none 0 0] 78)).alloc (.cells #[.pointer (some ⟨w1.heap.size, 0, none⟩)] 76)).alloc (.cells #[.string (Lx.bs Qy.wShow)] 9) := ⟨_, rfl⟩
    change Code.wp _ _ _ _ (((w1.alloc (.cells #[.slice A0 n0 c0, .slice none 0 0] 78)).alloc (.cells #[.pointer (some ⟨w1.heap.size, 0, none⟩)] 76)).alloc (.cells #[.string (Lx.bs Qy.wShow)] 9))
    rw [← hW0]
    have hb0 : Below w1.heap.size w1 W0 := by rw [hW0]; exact (((Below.refl _ _).alloc (Nat.le_refl _) _).alloc (by simp) _).alloc (by simp; omega) _
    have hszW : W0.heap.size = w1.heap.size + 3 := by rw [hW0]; simp
    have hg0 : Blk W0 w1.heap.size 78 #[.slice A0 n0 c0, .slice none 0 0] := by rw [hW0]; exact ((Blk.new_at w1 _ rfl).alloc _).alloc _
    have hpb : Blk W0 (w1.heap.size + 1) 76 #[.pointer (some ⟨w1.heap.size, 0, none⟩)] := by rw [hW0]; exact (Blk.new_at _ _ (by simp)).alloc _
    have ha0 : Blk W0 (w1.heap.size + 1 + 1) 9 #[.string (Lx.bs Qy.wShow)] := by rw [hW0]; exact Blk.new_at _ _ (by simp)
    have hbelW := Hbel1.out.trans (hb0.mono (by omega))
    have hP0 : PrSt w1.heap.size w.heap.size q.names (Qy.leadS q 0) W0 := ⟨⟨A0, c0, _, by rw [← Hn0.out]; exact hg0, (H0.out.below hbelW (Nat.le_refl _)), ⟨rfl, .inl ⟨rfl, rfl⟩⟩⟩, by omega⟩
    have hI0 : PrI w1.heap.size w.heap.size (w1.heap.size + 1 + 1) q.names W0 (Qy.leadS q 0) (showW 0) W0 := ⟨hP0, ha0, Below.refl _ _, KB.refl _ _⟩
    have HbelW := Lib.hid hbelW; have HI0 := Lib.hid hI0; have Hpb := Lib.hid hpb
    have HBq := Lib.hid (HB0.out.below hb0 (by omega))
    clear hW0 hb0 hg0 hpb ha0 hbelW hP0 hI0 q0 q1
    have hng : ∀ n ∈ q.shown, 0 ≤ n ∧ n < (n0 : Int) := fun n hn => by
      have := Qy.order_mem HV.out.order (n := n) (by unfold Qy.allVars; exact List.mem_append_left _ hn)
      have := Hn0.out
      omega
    have Hng := Lib.hid hng
    clear hng
    go_loopw [28] (fun v28 wr => ∃ k : Nat, k ≤ n1 ∧ v28 = .int .i64 k ∧ PrI w1.heap.size w.heap.size (w1.heap.size + 1 + 1) q.names W0 (Qy.leadS q k) (showW k) wr) (fun v28 _ => n1 - (intOf v28).toNat)
    case atStart => exact ⟨0, by omega, rfl, HI0.out⟩
    case round =>
      obtain ⟨k, hk, rfl, hI⟩ := hrel
      have hszr := hI.size
      have hpbr := hI.blk Hpb.out (by omega) (by decide) (by decide)
      have hqr := hI.blk HBq.out (by omega) (by decide) (by decide)
      have hbwr := HbelW.out.trans (hI.bel.mono (by omega))
      by_cases hlt : k < n1
      · obtain ⟨n, hn⟩ : ∃ n, q.shown[k]? = some n := ⟨_, List.getElem?_eq_getElem (by have := Hn1.out; omega)⟩
        obtain ⟨hn8, hn9⟩ := Hng.out n (List.mem_of_getElem? hn)
        obtain ⟨z, rfl⟩ := Int.eq_ofNat_of_zero_le hn8
        obtain ⟨nm, hnm⟩ : ∃ nm, q.names[z]? = some nm := ⟨_, List.getElem?_eq_getElem (by have := Hn0.out; omega)⟩
        obtain ⟨b1, o1, rfl, hb1, hc1⟩ := (H1.out.below hbwr (Nat.le_refl _)).at_ k (intC z) (by rw [List.getElem?_map, hn]; rfl)
        have k1 := hc1 0 _ rfl
        rw [Nat.mul_one, Nat.add_zero] at k1
        have hnx := Qy.leadS_next q hn
        have hgd : q.names.getD z [] = nm := by rw [List.getD_eq_getElem?_getD, hnm]; rfl
        have hlen := Qy.leadS_len q k (by omega)
        have q0 := hqr.cell 0; have p0 := hpbr.cell 0; have a0 := hI.bef.cell 0; have af := hI.bef.free 0
        simp at q0 p0 a0
        obtain ⟨tk, htk⟩ : ∃ tk, tk = if k = 0 then Qy.nameT Qy.wShow else Qy.sgT 44 := ⟨_, rfl⟩
        rw [← htk] at hnx
        have HI := Lib.hid hI; have Hnx := Lib.hid hnx; have Hgd := Lib.hid hgd; have Hlen := Lib.hid hlen; have Hnm := Lib.hid hnm
        clear hI hnx hgd hpbr hqr hc1 hn hnm hn8 hbwr hlen
        have fin : ∀ w2 : World, PrI w1.heap.size w.heap.size (w1.heap.size + 1 + 1) q.names W0 (Qy.leadS q k ++ [tk]) (showW k) w2 →
            (w2.cell? ⟨w.heap.size, 0, none⟩ = some (.slice A0 n0 c0) ∧ w2.cell? ⟨w1.heap.size + 1, 0, none⟩ = some (.pointer (some ⟨w1.heap.size, 0, none⟩)) ∧ ∃ b0 o0, A0 = some ⟨b0, o0, none⟩ ∧ w2.cell? ⟨b0, o0 + z, none⟩ = some (.string (Lx.bs nm)) ∧ b0 < w.heap.size) := fun w2 h2 => by
          have e1 := (h2.blk HBq.out (by omega) (by decide) (by decide)).cell 0
          have e2 := (h2.blk Hpb.out (by omega) (by decide) (by decide)).cell 0
          simp at e1 e2
          obtain ⟨b0, o0, e3, e4, hc0⟩ := (H0.out.below (HbelW.out.trans (h2.bel.mono (by omega))) (Nat.le_refl _)).at_ z (strC nm) (by rw [List.getElem?_map, Hnm.out]; rfl)
          have k0 := hc0 0 _ rfl
          rw [Nat.mul_one, Nat.add_zero] at k0
          exact ⟨e1, e2, b0, o0, e3, k0, e4⟩
        have Fin := Lib.hid fin
        clear fin
        by_cases h0k : k = 0
        case pos =>
          have a0' : wr.cell? ⟨w1.heap.size + 1 + 1, 0, none⟩ = some (.string (Lx.bs Qy.wShow)) := by rw [a0]; unfold showW; rw [if_pos h0k]
          have hne := bs_ne (t := Qy.wShow) (by simp [Qy.wShow])
          have H0k := Lib.hid h0k
          have htk2 : Item.tok q.names (.name Qy.wShow) = tk := by rw [htk, if_pos h0k]; rfl
          have hput := lPut1 _ _ _ _ _ _ _ (.name Qy.wShow) wr HI.out (by have := Hlen.out; omega) trivial
          have Hput := Lib.hid hput; have Htk2 := Lib.hid htk2
          clear a0 h0k htk hput htk2
          go_wp2_with fail
          refine Hput.out.mono ?_
          rintro e w2 ⟨rfl, hI2⟩
          have hI2' : PrI w1.heap.size w.heap.size (w1.heap.size + 1 + 1) q.names W0 (Qy.leadS q k ++ [tk]) (showW k) w2 := by have h := hI2; rw [List.map_singleton, Htk2.out] at h; exact h
          obtain ⟨e1, e2, b0, o0, rfl, e3, e4⟩ := Fin.out w2 hI2'
          have hs2 := hI2'.size
          have HI2 := Lib.hid hI2'
          clear a0' q0 p0 hI2 hI2' k1
          have hp2 := fun W h1 => lPut1d w1.heap.size w.heap.size (w1.heap.size + 1 + 1) q.names W0 (Qy.leadS q k ++ [tk]) (showW k) (.name nm) W h1 (by have := Hlen.out; simp; omega) trivial
          have Hp2 := Lib.hid hp2
          clear hp2
          have hb2 : b0 < w2.heap.size := by omega
          have hpb2 : w1.heap.size + 1 < w2.heap.size := by omega
          have hN4 : w.heap.size < w2.heap.size := by omega
          have hzn : z < n0 := by omega
          go_wp2_with fail
          go_region_with (go_at_call 26; refine (Hp2.out _ HI2.out).mono ?_; rintro e w3 ⟨rfl, hI3⟩; have HI3 := Lib.hid hI3; have a3 := hI3.bef.cell 0; have af3 := hI3.bef.free 0; simp at a3; clear hI3)
          all_goals go_wp2_with fail
          all_goals go_roundw
          all_goals first
            | exact ⟨k + 1, by omega, by go_num, by
                have h := HI3.out.set (by omega) (by omega) (.string ⟨#[]⟩)
                have e5 : Item.tok q.names (.name nm) = Qy.nameT (q.names.getD ((z : Nat) : Int).toNat []) := by rw [show (((z : Nat) : Int)).toNat = z from rfl, Hgd.out]; rfl
                rw [List.map_singleton, e5, List.append_assoc] at h
                rw [Hnx.out]
                exact h⟩
            | (simp [intOf]; omega)
        case neg =>
          have a0' : wr.cell? ⟨w1.heap.size + 1 + 1, 0, none⟩ = some (.string ⟨#[]⟩) := by rw [a0]; unfold showW; rw [if_neg h0k]
          have H0k := Lib.hid h0k
          have htk2 : Item.tok q.names (.sign [44]) = tk := by rw [htk, if_neg h0k]; rfl
          have hput := lPut1 _ _ _ _ _ _ _ (.sign [44]) wr HI.out (by have := Hlen.out; omega) trivial
          have Hput := Lib.hid hput; have Htk2 := Lib.hid htk2
          clear a0 h0k htk hput htk2
          go_wp2_with fail
          refine Hput.out.mono ?_
          rintro e w2 ⟨rfl, hI2⟩
          have hI2' : PrI w1.heap.size w.heap.size (w1.heap.size + 1 + 1) q.names W0 (Qy.leadS q k ++ [tk]) (showW k) w2 := by have h := hI2; rw [List.map_singleton, Htk2.out] at h; exact h
          obtain ⟨e1, e2, b0, o0, rfl, e3, e4⟩ := Fin.out w2 hI2'
          have hs2 := hI2'.size
          have HI2 := Lib.hid hI2'
          clear a0' q0 p0 hI2 hI2' k1
          have hp2 := fun W h1 => lPut1d w1.heap.size w.heap.size (w1.heap.size + 1 + 1) q.names W0 (Qy.leadS q k ++ [tk]) (showW k) (.name nm) W h1 (by have := Hlen.out; simp; omega) trivial
          have Hp2 := Lib.hid hp2
          clear hp2
          have hb2 : b0 < w2.heap.size := by omega
          have hpb2 : w1.heap.size + 1 < w2.heap.size := by omega
          have hN4 : w.heap.size < w2.heap.size := by omega
          have hzn : z < n0 := by omega
          go_wp2_with fail
          go_region_with (go_at_call 26; refine (Hp2.out _ HI2.out).mono ?_; rintro e w3 ⟨rfl, hI3⟩; have HI3 := Lib.hid hI3; have a3 := hI3.bef.cell 0; have af3 := hI3.bef.free 0; simp at a3; clear hI3)
          all_goals go_wp2_with fail
          all_goals go_roundw
          all_goals first
            | exact ⟨k + 1, by omega, by go_num, by
                have h := HI3.out.set (by omega) (by omega) (.string ⟨#[]⟩)
                have e5 : Item.tok q.names (.name nm) = Qy.nameT (q.names.getD ((z : Nat) : Int).toNat []) := by rw [show (((z : Nat) : Int)).toNat = z from rfl, Hgd.out]; rfl
                rw [List.map_singleton, e5, List.append_assoc] at h
                rw [Hnx.out]
                exact h⟩
            | (simp [intOf]; omega)
      · obtain rfl : n1 = k := by omega
        have hI' := hI
        rw [Hn1.out] at hI'
        have hsh : showW n1 = .string ⟨#[]⟩ := by unfold showW; rw [if_neg (by omega)]
        have a0 := hI.bef.cell 0; have af := hI.bef.free 0
        have q2 := hqr.cell 2
        simp at a0 q2
        have hI2 : PrI w1.heap.size w.heap.size (w1.heap.size + 1 + 1) q.names W0 (Qy.leadA q 0) (ledW true) (wr.setCell ⟨w1.heap.size + 1 + 1, 0, none⟩ (.string (Lx.bs Qy.wWhere))) := by
          have h := hI'.set (by omega) (by omega) (ledW true)
          have e1 : Qy.leadA q 0 = Qy.leadS q q.shown.length := by unfold Qy.leadA; simp [Qy.lead]
          rw [e1]
          exact h
        have HI2 := Lib.hid hI2
        have hN5 : w.heap.size ≠ w1.heap.size + 1 + 1 := by omega
        clear hI hI' hsh hI2 hpbr hqr hbwr hk hlt HI0
        go_wp2_with fail
        obtain ⟨wa, hwa⟩ : ∃ wa, wa = wr.setCell ⟨w1.heap.size + 1 + 1, 0, none⟩ (.string (Lx.bs Qy.wWhere)) := ⟨_, rfl⟩
        change Code.wp _ _ _ _ (wr.setCell ⟨w1.heap.size + 1 + 1, 0, none⟩ (.string (Lx.bs Qy.wWhere)))
        rw [← hwa] at HI2 ⊢
        clear hwa a0 af q2 hszr wr
        have hval := HV.out
        have hargs : ∀ y ∈ Qy.allArgs q.atoms q.tests, y.var = true → 0 ≤ y.n ∧ y.n < (q.names.length : Int) := fun y hy hyv =>
          Qy.order_mem hval.order (n := y.n) (by unfold Qy.allVars; exact List.mem_append_right _ (List.mem_flatMap.2 ⟨y, hy, by unfold Qy.Arg.vars; rw [if_pos hyv]; simp⟩))
        have Hargs := Lib.hid hargs
        clear hval hargs
        go_loopw [57] (fun v57 wr => ∃ k : Nat, k ≤ n2 ∧ v57 = .int .i64 k ∧ PrI w1.heap.size w.heap.size (w1.heap.size + 1 + 1) q.names W0 (Qy.leadA q k) (ledW (decide (k = 0))) wr) (fun v57 _ => n2 - (intOf v57).toNat)
        case atStart => exact ⟨0, by omega, rfl, HI2.out⟩
        case round =>
          obtain ⟨k, hk, rfl, hI⟩ := hrel
          have hszr := hI.size
          have hpbr := hI.blk Hpb.out (by omega) (by decide) (by decide)
          have hqr := hI.blk HBq.out (by omega) (by decide) (by decide)
          have hbwr := HbelW.out.trans (hI.bel.mono (by omega))
          by_cases hlt : k < n2
          · obtain ⟨t, ht⟩ : ∃ t, q.atoms[k]? = some t := ⟨_, List.getElem?_eq_getElem (by have := Hn2.out; omega)⟩
            have htm := List.mem_of_getElem? ht
            obtain ⟨⟨hk1, hk2⟩, _, _⟩ := HV.out.atoms t htm
            obtain ⟨b, o, rfl, hb, hc⟩ := (H2.out.below hbwr (Nat.le_refl _)).at_ k (atomC t) (by rw [List.getElem?_map, ht]; rfl)
            have k0 := hc 0 _ rfl; have k1 := hc 1 _ rfl; have k2 := hc 2 _ rfl; have k3 := hc 3 _ rfl; have k4 := hc 4 _ rfl; have k5 := hc 5 _ rfl; have k6 := hc 6 _ rfl; have k7 := hc 7 _ rfl; have k8 := hc 8 _ rfl
            have hnx := Qy.leadA_next q ht
            have hlen := Qy.leadA_len q k (by omega) (by rw [← Hn1.out]; omega)
            have hok : ∀ y : Qy.Arg, y = t.subj ∨ y = t.obj ∨ y = t.val → (Item.arg y).ok q.names := fun y hy hyv =>
              Hargs.out y (by unfold Qy.allArgs; refine List.mem_append_left _ (List.mem_flatMap.2 ⟨t, htm, ?_⟩); unfold Qy.aArgs; rcases hy with rfl | rfl | rfl <;> simp) hyv
            obtain ⟨tk, ts, tb, tv, tt, tn⟩ := t
            simp only at k0 k1 k2 k3 k4 k5 k6 k7 k8 hk1 hk2 hok
            simp only [Nat.add_zero] at k0
            obtain ⟨z, rfl⟩ : ∃ z : Nat, tk = (z : Int) + 1 := ⟨(tk - 1).toNat, by omega⟩
            obtain ⟨kw, hkw⟩ : ∃ kw, Qy.kindWords[z]? = some kw := ⟨_, List.getElem?_eq_getElem (show z < 12 by omega)⟩
            have hns : wr.heap.size + 1 ≤ (wr.alloc (.cells #[.int .i64 ((z : Int) + 1), .bool ts.var, .int .i64 ts.n, .bool tb.var, .int .i64 tb.n, .bool tv.var, .int .i64 tv.n, .int .i64 tt, .int .i64 tn] 43)).heap.size := by simp
            have hbegin := lBeginK w1.heap.size w.heap.size (w1.heap.size + 1 + 1) (w1.heap.size + 1) q.names W0 (Qy.leadA q k) (decide (k = 0)) (wr.alloc (.cells #[.int .i64 ((z : Int) + 1), .bool ts.var, .int .i64 ts.n, .bool tb.var, .int .i64 tb.n, .bool tv.var, .int .i64 tv.n, .int .i64 tt, .int .i64 tn] 43)) (hI.alloc _) (hpbr.alloc _) (by omega) (by omega)
            have Hbegin := Lib.hid hbegin; have HI := Lib.hid hI; have Hnx := Lib.hid hnx; have Hlen := Lib.hid hlen; have Hok := Lib.hid hok; have Hkw := Lib.hid hkw
            clear hbegin hI hnx hlen hok hkw hc ht htm hpbr hqr hbwr
            go_wp2_with fail
            refine Hbegin.out.mono ?_
            rintro e w2 ⟨rfl, hI2, hkb2⟩
            obtain ⟨bk, ok, ck, g1, g2, g3⟩ := He.out.words
            have hgs := He.out.env.size
            have hbw2 := HbelW.out.trans (hI2.bel.mono (by omega))
            have hat : Blk w2 wr.heap.size 43 #[.int .i64 ((z : Int) + 1), .bool ts.var, .int .i64 ts.n, .bool tb.var, .int .i64 tb.n, .bool tv.var, .int .i64 tv.n, .int .i64 tt, .int .i64 tn] := hkb2.blk (Blk.new _ _ _) (by omega) (by decide) (by decide)
            have hpb2 := hI2.blk Hpb.out (by omega) (by decide) (by decide)
            have hall : ∀ W : World, Below w.heap.size w W → Blk W (w1.heap.size + 1) 76 #[.pointer (some ⟨w1.heap.size, 0, none⟩)] → Blk W wr.heap.size 43 #[.int .i64 ((z : Int) + 1), .bool ts.var, .int .i64 ts.n, .bool tb.var, .int .i64 tb.n, .bool tv.var, .int .i64 tv.n, .int .i64 tt, .int .i64 tn] → (fun w' : World => w'.cell? ⟨w1.heap.size + 1, 0, none⟩ = some (.pointer (some ⟨w1.heap.size, 0, none⟩)) ∧ w'.cell? ⟨0, 0, none⟩ = some (.slice (some ⟨bk, ok, none⟩) 12 ck) ∧ w'.cell? ⟨bk, ok + z, none⟩ = some (.string (Lx.bs kw)) ∧ w'.cell? ⟨wr.heap.size, 0, none⟩ = some (.int .i64 ((z : Int) + 1)) ∧ w'.cell? ⟨wr.heap.size, 1, none⟩ = some (.bool ts.var) ∧ w'.cell? ⟨wr.heap.size, 2, none⟩ = some (.int .i64 ts.n) ∧ w'.cell? ⟨wr.heap.size, 3, none⟩ = some (.bool tb.var) ∧ w'.cell? ⟨wr.heap.size, 4, none⟩ = some (.int .i64 tb.n) ∧ w'.cell? ⟨wr.heap.size, 5, none⟩ = some (.bool tv.var) ∧ w'.cell? ⟨wr.heap.size, 6, none⟩ = some (.int .i64 tv.n) ∧ w'.cell? ⟨wr.heap.size, 7, none⟩ = some (.int .i64 tt) ∧ w'.cell? ⟨wr.heap.size, 8, none⟩ = some (.int .i64 tn)) W := fun W h1 h2 h3 =>
              ⟨by rw [h2.cell]; rfl, (h1.cell (p := ⟨0, 0, none⟩) (show 0 < w.heap.size by omega)).trans g1, (h1.cell (p := ⟨bk, ok + z, none⟩) g2).trans (g3 z kw Hkw.out),
                by rw [h3.cell]; rfl, by rw [h3.cell]; rfl, by rw [h3.cell]; rfl, by rw [h3.cell]; rfl, by rw [h3.cell]; rfl, by rw [h3.cell]; rfl, by rw [h3.cell]; rfl, by rw [h3.cell]; rfl, by rw [h3.cell]; rfl⟩
            obtain ⟨s0, s1, s2, s3, s4, s5, s6, s7, s8, s9, s10, s11⟩ := hall w2 hbw2 hpb2 hat
            have hs2 := hkb2.size
            simp at hs2
            have hE2 := hI2.size
            have l0 : w1.heap.size + 1 < w2.heap.size := by omega
            have l1 : 0 < w2.heap.size := by omega
            have l2 : bk < w2.heap.size := by omega
            have l3 : wr.heap.size < w2.heap.size := by omega
            have hput := fun W h1 => lPutKd w1.heap.size w.heap.size (w1.heap.size + 1 + 1) 12 q.names W0 (Qy.leadA q k ++ [ledBy (decide (k = 0))]) (.string ⟨#[]⟩) [.name kw, .sign [40], .arg ts, .sign [44], .arg tb, .sign [41], .sign [61], .arg tv, .name Qy.wAt, .num tt, .name Qy.wKnown, .num tn] W rfl h1 (by have := Hlen.out; simp; omega) (fun i hi => by
              simp only [List.mem_cons, List.not_mem_nil, or_false] at hi
              rcases hi with rfl | rfl | rfl | rfl | rfl | rfl | rfl | rfl | rfl | rfl | rfl | rfl
              all_goals first
                | trivial
                | exact Hok.out _ (by simp))
            have Hput := Lib.hid hput; have Hall := Lib.hid hall; have HI2 := Lib.hid hI2; have Hat := Lib.hid hat
            clear hput hall hI2 hat g1 g2 g3 hbw2 hpb2 hkb2 k0 k1 k2 k3 k4 k5 k6 k7 k8
            have hz0 : (0 : Int) ≤ (z : Int) := by omega
            have hz1 : (z : Int) < 12 := by omega
            have hw2 : IntKind.i64.wrap (z : Int) = (z : Int) := IntWalk.i64_in _ (by omega)
            have hw1 : IntKind.i64.wrap ((z : Int) + 1 - 1) = (z : Int) := by
              rw [show (z : Int) + 1 - 1 = (z : Int) by omega]
              exact hw2
            go_wp2_with fail
            go_region_held3 (fun w' : World => w'.cell? ⟨w1.heap.size + 1, 0, none⟩ = some (.pointer (some ⟨w1.heap.size, 0, none⟩)) ∧ w'.cell? ⟨0, 0, none⟩ = some (.slice (some ⟨bk, ok, none⟩) 12 ck) ∧ w'.cell? ⟨bk, ok + z, none⟩ = some (.string (Lx.bs kw)) ∧ w'.cell? ⟨wr.heap.size, 0, none⟩ = some (.int .i64 ((z : Int) + 1)) ∧ w'.cell? ⟨wr.heap.size, 1, none⟩ = some (.bool ts.var) ∧ w'.cell? ⟨wr.heap.size, 2, none⟩ = some (.int .i64 ts.n) ∧ w'.cell? ⟨wr.heap.size, 3, none⟩ = some (.bool tb.var) ∧ w'.cell? ⟨wr.heap.size, 4, none⟩ = some (.int .i64 tb.n) ∧ w'.cell? ⟨wr.heap.size, 5, none⟩ = some (.bool tv.var) ∧ w'.cell? ⟨wr.heap.size, 6, none⟩ = some (.int .i64 tv.n) ∧ w'.cell? ⟨wr.heap.size, 7, none⟩ = some (.int .i64 tt) ∧ w'.cell? ⟨wr.heap.size, 8, none⟩ = some (.int .i64 tn)) (go_keep) ((go_at_call 26; refine (Hput.out _ HI2.out).mono ?_; rintro e w3 ⟨rfl, hI3, hk3⟩; obtain ⟨r0, r1, r2, r3, r4, r5, r6, r7, r8, r9, r10, r11⟩ := Hall.out w3 (HbelW.out.trans (hI3.bel.mono (by omega))) (hI3.blk Hpb.out (by omega) (by decide) (by decide)) (hk3.blk Hat.out (by decide) (by decide)); have HI3 := Lib.hid hI3; clear hI3 hk3))
            all_goals go_wp2_with fail
            all_goals go_roundw
            all_goals first
              | exact ⟨k + 1, by omega, by go_num, by
                  have h := HI3.out
                  have e5 : Qy.kindT ((z : Int) + 1) = Qy.nameT kw := by
                    unfold Qy.kindT
                    rw [show ((z : Int) + 1 - 1).toNat = z by omega, List.getD_eq_getElem?_getD, Hkw.out]; rfl
                  rw [show decide (k + 1 = 0) = false by simp, Hnx.out]
                  unfold Qy.atomT
                  rw [e5]
                  exact h⟩
              | (simp [intOf]; omega)
          · obtain rfl : n2 = k := by omega
            have hI' := hI
            rw [Hn2.out, ← Qy.leadT_zero] at hI'
            have q3 := hqr.cell 3
            simp at q3
            have hled : ledW (decide (q.atoms.length = 0)) = ledW (decide (q.atoms.length + 0 = 0)) := rfl
            rw [hled] at hI'
            have HI3 := Lib.hid hI'
            clear hI hI' hled hpbr hbwr hk hlt HI2 hqr
            go_wp2_with fail
            clear q3 hszr
            go_loopw [98] (fun v98 wr => ∃ k : Nat, k ≤ n3 ∧ v98 = .int .i64 k ∧ PrI w1.heap.size w.heap.size (w1.heap.size + 1 + 1) q.names W0 (Qy.leadT q k) (ledW (decide (q.atoms.length + k = 0))) wr) (fun v98 _ => n3 - (intOf v98).toNat)
            case atStart => exact ⟨0, by omega, rfl, HI3.out⟩
            case round =>
              obtain ⟨k, hk, rfl, hI⟩ := hrel
              have hszr := hI.size
              have hpbr := hI.blk Hpb.out (by omega) (by decide) (by decide)
              have hqr := hI.blk HBq.out (by omega) (by decide) (by decide)
              have hbwr := HbelW.out.trans (hI.bel.mono (by omega))
              by_cases hlt : k < n3
              · obtain ⟨t, ht⟩ : ∃ t, q.tests[k]? = some t := ⟨_, List.getElem?_eq_getElem (by have := Hn3.out; omega)⟩
                have htm := List.mem_of_getElem? ht
                obtain ⟨ho1, ho2⟩ := HV.out.tests t htm
                obtain ⟨b, o, rfl, hb, hc⟩ := (H3.out.below hbwr (Nat.le_refl _)).at_ k (testC t) (by rw [List.getElem?_map, ht]; rfl)
                have k0 := hc 0 _ rfl; have k1 := hc 1 _ rfl; have k2 := hc 2 _ rfl; have k3 := hc 3 _ rfl; have k4 := hc 4 _ rfl
                have hnx := Qy.leadT_next q ht
                have hlen := Qy.leadT_len q k (by omega) (by rw [← Hn1.out]; omega) (by rw [← Hn2.out]; omega)
                have hok : ∀ y : Qy.Arg, y = t.a ∨ y = t.b → (Item.arg y).ok q.names := fun y hy hyv =>
                  Hargs.out y (by unfold Qy.allArgs; refine List.mem_append_right _ (List.mem_flatMap.2 ⟨t, htm, ?_⟩); unfold Qy.tArgs; rcases hy with rfl | rfl <;> simp) hyv
                obtain ⟨to_, ta, tb⟩ := t
                simp only at k0 k1 k2 k3 k4 ho1 ho2 hok
                simp only [Nat.add_zero] at k0
                have hns : wr.heap.size + 1 ≤ (wr.alloc (.cells #[.int .i64 to_, .bool ta.var, .int .i64 ta.n, .bool tb.var, .int .i64 tb.n] 45)).heap.size := by simp
                have hbegin := lBeginK w1.heap.size w.heap.size (w1.heap.size + 1 + 1) (w1.heap.size + 1) q.names W0 (Qy.leadT q k) (decide (q.atoms.length + k = 0)) (wr.alloc (.cells #[.int .i64 to_, .bool ta.var, .int .i64 ta.n, .bool tb.var, .int .i64 tb.n] 45)) (hI.alloc _) (hpbr.alloc _) (by omega) (by omega)
                have Hbegin := Lib.hid hbegin; have HI := Lib.hid hI; have Hnx := Lib.hid hnx; have Hlen := Lib.hid hlen; have Hok := Lib.hid hok
                clear hbegin hI hnx hlen hok hc ht htm hpbr hqr hbwr
                go_wp2_with fail
                refine Hbegin.out.mono ?_
                rintro e w2 ⟨rfl, hI2, hkb2⟩
                have hat : Blk w2 wr.heap.size 45 #[.int .i64 to_, .bool ta.var, .int .i64 ta.n, .bool tb.var, .int .i64 tb.n] := hkb2.blk (Blk.new _ _ _) (by omega) (by decide) (by decide)
                have hpb2 := hI2.blk Hpb.out (by omega) (by decide) (by decide)
                have s0 := hpb2.cell 0; have s1 := hat.cell 1; have s2 := hat.cell 2
                simp at s0 s1 s2
                have hs2 := hkb2.size
                simp at hs2
                have hE2 := hI2.size
                have hput := lPutK1 _ _ _ _ _ _ _ (.arg ta) w2 hI2 (by have := Hlen.out; simp; omega) (Hok.out ta (.inl rfl))
                have Hput := Lib.hid hput; have Hat := Lib.hid hat
                clear hput hat hpb2 hkb2 hI2 k0 k1 k2 k3 k4
                go_wp2_with fail
                refine Hput.out.mono ?_
                rintro e w3 ⟨rfl, hI3, hk3⟩
                have hat3 := hk3.blk Hat.out (by decide) (by decide)
                have hs3 := hk3.size
                have hpb3 := hI3.blk Hpb.out (by omega) (by decide) (by decide)
                have HI3' := Lib.hid hI3; have Hat3 := Lib.hid hat3; have Hpb3 := Lib.hid hpb3
                clear hI3 hk3 hat3 hpb3 s0 s1 s2
                have hmm := @run_makeMap Tryd.prog
                go_wp2_with (first | (refine wpList_insert_own _ rfl _ _ _ 82 rfl 3 81 (int_keyed Tryd.underlying3) Tryd.underlying82 rowR w3.heap.size 0 _ rfl ((World.ownsMap_made (H := Unit) w3 _ _ _).alloc _) (by unfold maxLen; omega) (.int .i64 (-2)) _ _ rfl rfl (keyOf_int_mk Tryd.underlying3 (by decide)) (opD (w3.heap.size + 1) 1) [] (rowR_mk _ _) ?_; intro x1 o1 g1; have O1 := Lib.hid o1; have G1 := Lib.hid g1; clear o1 g1) | (refine wpList_insert_own _ rfl _ _ _ 82 rfl 3 81 (int_keyed Tryd.underlying3) Tryd.underlying82 rowR w3.heap.size 1 _ rfl (O1.out.alloc _) (by unfold maxLen; omega) (.int .i64 (-1)) _ _ rfl rfl (keyOf_int_mk Tryd.underlying3 (by decide)) (opD x1.heap.size 2) [] (rowR_mk _ _) ?_; intro x2 o2 g2; have O2 := Lib.hid o2; have G2 := Lib.hid g2; clear o2 g2) | (refine wpList_insert_own _ rfl _ _ _ 82 rfl 3 81 (int_keyed Tryd.underlying3) Tryd.underlying82 rowR w3.heap.size (1 + 1) _ rfl (O2.out.alloc _) (by unfold maxLen; omega) (.int .i64 (0)) _ _ rfl rfl (keyOf_int_mk Tryd.underlying3 (by decide)) (opD x2.heap.size 1) [] (rowR_mk _ _) ?_; intro x3 o3 g3; have O3 := Lib.hid o3; have G3 := Lib.hid g3; clear o3 g3) | (refine wpList_insert_own _ rfl _ _ _ 82 rfl 3 81 (int_keyed Tryd.underlying3) Tryd.underlying82 rowR w3.heap.size (1 + 1 + 1) _ rfl (O3.out.alloc _) (by unfold maxLen; omega) (.int .i64 (1)) _ _ rfl rfl (keyOf_int_mk Tryd.underlying3 (by decide)) (opD x3.heap.size 2) [] (rowR_mk _ _) ?_; intro x4 o4 g4; obtain ⟨bi, hlook, hrow, v4⟩ := ops_made G1.out G2.out G3.out g4 o4 rfl to_ ho1 ho2; have s0 := (Hat3.out.below v4 (by omega)).cell 0; simp at s0; have Hrow := Lib.hid hrow; have V4 := Lib.hid v4; clear o4 g4 hrow v4 hmm G1 G2 G3 O1 O2 O3))
                obtain ⟨wo, rfl⟩ : ∃ wo : World, wo = wr := ⟨_, rfl⟩
                obtain ⟨sg, hsg⟩ : ∃ sg, sg = sgsOf to_ := ⟨_, rfl⟩
                have hsl : sg.length ≤ 2 := by rw [hsg]; exact sgsOf_len to_
                rw [← hsg] at Hrow ⊢
                obtain ⟨m, hm⟩ : ∃ m, m = sg.length := ⟨_, rfl⟩
                rw [← hm] at hsl ⊢
                have hI4 := HI3'.out.next V4.out
                have hat4 := Hat3.out.below V4.out (by omega)
                have hpb4 := Hpb3.out.below V4.out (by omega)
                have hz4 := V4.out.size
                obtain ⟨L1, hL1⟩ : ∃ L1, L1 = Qy.leadT q k ++ [ledBy (decide (q.atoms.length + k = 0))] ++ List.map (Item.tok q.names) [Item.arg ta] := ⟨_, rfl⟩
                rw [← hL1] at hI4
                have hl1 : L1.length ≤ 470 := by have := Hlen.out; rw [hL1]; simp; omega
                have HI4 := Lib.hid hI4; have Hat4 := Lib.hid hat4; have Hsg := Lib.hid hsg; have Hm := Lib.hid hm; have Hpb4 := Lib.hid hpb4; have HL1 := Lib.hid hL1
                clear hlook s0 hI4 hat4 hpb4 hsg hm hL1 HI3' Hat3 Hpb3 HI3 Hbegin Hput
                go_loopw [120] (fun v120 wr => ∃ j : Nat, j ≤ m ∧ v120 = .int .i64 j ∧ PrI w1.heap.size w.heap.size (w1.heap.size + 1 + 1) q.names W0 (L1 ++ (sg.take j).map (fun t => (⟨3, t, 0, 0⟩ : Lx.Tok))) (.string ⟨#[]⟩) wr ∧ KP x4 wr) (fun v120 _ => m - (intOf v120).toNat)
                case atStart => exact ⟨0, by omega, rfl, by simpa using HI4.out, KP.refl _⟩
                case round =>
                  obtain ⟨j, hj, rfl, hI, hkp⟩ := hrel
                  have hszj := hkp.size
                  have hpbj := hkp.blk Hpb4.out (by decide) (by decide)
                  have p0 := hpbj.cell 0
                  simp at p0
                  by_cases hlt : j < m
                  · obtain ⟨t, ht⟩ : ∃ t, sg[j]? = some t := ⟨_, List.getElem?_eq_getElem (by have := Hm.out; omega)⟩
                    have hrj := (hkp.blk Hrow.out (by decide) (by decide)).cell j
                    rw [List.getElem?_toArray, List.getElem?_map, ht] at hrj
                    simp only [Option.map_some] at hrj
                    have hput := lPutK1 _ _ _ _ _ _ _ (.sign t) wr hI (by rw [List.length_append, List.length_map, List.length_take]; omega) trivial
                    have hnext : (L1 ++ (sg.take j).map (fun t => (⟨3, t, 0, 0⟩ : Lx.Tok))) ++ List.map (Item.tok q.names) [Item.sign t] = L1 ++ (sg.take (j + 1)).map (fun t => (⟨3, t, 0, 0⟩ : Lx.Tok)) := by
                      rw [List.take_add_one, ht, List.map_append, List.append_assoc]; rfl
                    have Hput := Lib.hid hput; have Hnext := Lib.hid hnext; have Hkp := Lib.hid hkp
                    clear hput hnext hkp ht hI hpbj
                    go_wp2_with fail
                    refine Hput.out.mono ?_
                    rintro e w5 ⟨rfl, hI5, hk5⟩
                    have HI5 := Lib.hid hI5; have Hk5 := Lib.hid (Hkp.out.trans hk5)
                    clear hI5 hk5
                    go_wp2_with fail
                    go_roundw
                    case rel => exact ⟨j + 1, by omega, by go_num, by rw [← Hnext.out]; exact HI5.out, Hk5.out⟩
                    case measure => simp [intOf]; omega
                  · obtain rfl : m = j := by omega
                    have hatj := hkp.blk Hat4.out (by decide) (by decide)
                    have a3 := hatj.cell 3; have a4 := hatj.cell 4
                    simp at a3 a4
                    have hput := lPutK1 _ _ _ _ _ _ _ (.arg tb) wr hI (by rw [List.length_append, List.length_map, List.length_take]; omega) (Hok.out tb (.inr rfl))
                    have Hput := Lib.hid hput
                    clear hput hI hkp hpbj hatj
                    go_wp2_with fail
                    refine Hput.out.mono ?_
                    rintro e w5 ⟨rfl, hI5, hk5⟩
                    have HI5 := Lib.hid hI5
                    clear hI5 hk5
                    go_wp2_with fail
                    go_roundw
                    case rel =>
                      refine ⟨k + 1, by omega, by go_num, ?_⟩
                      have h := HI5.out
                      rw [Hm.out, List.take_length, Hsg.out, sgsOf_toks, HL1.out] at h
                      rw [show decide (q.atoms.length + (k + 1) = 0) = false by simp, Hnx.out]
                      unfold Qy.testT
                      simp only [List.map_cons, List.map_nil, List.append_assoc, List.cons_append, List.nil_append] at h ⊢
                      exact h
                    case measure => simp [intOf]; omega
              · obtain rfl : n3 = k := by omega
                have p0 := hpbr.cell 0
                simp at p0
                have hlen := Qy.leadT_len q n3 (by omega) (by rw [← Hn1.out]; omega) (by rw [← Hn2.out]; omega)
                have hput := lPutK1 _ _ _ _ _ _ _ (.sign [59]) wr hI (by omega) trivial
                have htoks : Qy.leadT q n3 ++ List.map (Item.tok q.names) [Item.sign [59]] = Qy.toksT q := by
                  rw [Qy.toksT_lead q (fun h => by have h1 := Hn1.out; rw [h] at h1; simp at h1; omega) (fun h => by
                    have h1 := congrArg List.length h
                    rw [List.length_append, List.length_map, List.length_map] at h1
                    have h2 := Hn2.out; have h3 := Hn3.out
                    simp only [List.length_nil] at h1; omega)]
                  unfold Qy.leadT Qy.leadS
                  rw [Hn3.out, List.take_length, List.take_length]
                  rfl
                have hsz8 := hI.size
                have Hput := Lib.hid hput; have Htk := Lib.hid htoks; have Hln := Lib.hid hlen
                clear hput htoks hI hpbr hqr hbwr hlen
                go_wp2_with fail
                refine Hput.out.mono ?_
                rintro e w5 ⟨rfl, hI5, hk5⟩
                rw [Htk.out] at hI5
                have hpb5 := hI5.blk Hpb.out (by omega) (by decide) (by decide)
                have hbw5 := HbelW.out.trans (hI5.bel.mono (by omega))
                have hE5 := (He.out.next hbw5).env
                obtain ⟨⟨AN, cN, vT, hg5, _, hown5⟩, _⟩ := hI5.st
                obtain ⟨AT, cT, rfl⟩ := own_form hown5
                have hl5 : (Qy.toksT q).length ≤ 451 := by
                  have h := congrArg List.length Htk.out
                  rw [List.length_append, List.length_map] at h
                  have := Hln.out
                  simp at h; omega
                have hT5 := toks_own hown5 (by omega) (fun t ht => by have := Qy.valid_len (Qy.toksT_valid HV.out t ht); omega)
                have g0 := hpb5.cell 0; have g1 := hg5.cell 1
                simp at g0 g1
                obtain ⟨X, E0, hXE⟩ : ∃ X E0, (X, E0) = match Lx.text (Qy.toksT q) with | some s => (Lx.bs s, (0 : Int)) | none => (⟨#[]⟩, 90) := ⟨_, _, rfl⟩
                have hr : Qy.printR q = (X, E0) := by unfold Qy.printR; rw [if_pos Hv.out, ← hXE]
                have htext := lTextAny AT cT (Qy.toksT q) X E0 w5 hE5 hT5 (by omega) hXE
                have Htext := Lib.hid htext; have Hr := Lib.hid hr; have Hbw5 := Lib.hid hbw5
                clear htext hr hXE hT5 hown5 hg5 hE5 hbw5 hpb5 hI5 hk5 p0
                go_wp2_with fail
                refine Htext.out.mono ?_
                rintro e w6 ⟨rfl, hb6⟩
                have HB6 := Lib.hid (Hbw5.out.trans (hb6.mono Hbw5.out.size))
                clear hb6
                go_wp2_with fail
                go_ret2
                exact ⟨by rw [Hr.out]; rfl, HB6.out⟩
end Go.Proofs.YtjonaidancomgaaDoor
