/- The reference's digits of a number, and its text of tokens. -/
import Derived.Test.YtocelmjncjompaaDoorLxWord
import Derived.Laws.IdiomStrings
namespace Go.Proofs.YtocelmjncjompaaDoor
open Go.RowKit
open Lx (Tok)

/-- The string of a slice of one byte that was just built. -/
theorem one_byte (W : World) (x : Int) (h0 : 0 ≤ x) (hx : x < 256) : (convert 38 9 (.slice (some ⟨W.heap.size, 0, none⟩) 1 1)).run Tryd.prog (W.alloc (.cells #[.int .u8 x] 5)) = .ok (.string (Lx.bs [UInt8.ofNat x.toNat])) (W.alloc (.cells #[.int .u8 x] 5)) := by
  refine run_convert_bytes_back (P := Tryd.prog) _ 38 9 5 ⟨W.heap.size, 0, none⟩ 1 [UInt8.ofNat x.toNat] Tryd.underlying38 Tryd.underlying5 Tryd.underlying9 ?_
  intro j hj
  have : j = 0 := by simpa using hj
  subst this
  show (W.alloc _).cell? ⟨W.heap.size, 0, none⟩ = _
  rw [World.cell?_alloc_mark]
  simp
  omega

/-- The last digit of a number. -/
def Lx.dg (m : Nat) : UInt8 := UInt8.ofNat (48 + m % 10)
theorem Lx.digits_small {m : Nat} (h : m < 10) : Lib.decDigits m = [Lx.dg m] := by rw [Lib.decDigits, dif_pos h]; unfold Lx.dg; rw [Nat.mod_eq_of_lt h]
theorem Lx.digits_great {m : Nat} (h : ¬ m < 10) : Lib.decDigits m = Lib.decDigits (m / 10) ++ [Lx.dg m] := by rw [Lib.decDigits, dif_neg h]; rfl
theorem one_digit (W : World) (m : Nat) : (convert 38 9 (.slice (some ⟨W.heap.size, 0, none⟩) 1 1)).run Tryd.prog (W.alloc (.cells #[.int .u8 (48 + (m : Int) % 10)] 5)) = .ok (.string (Lx.bs [Lx.dg m])) (W.alloc (.cells #[.int .u8 (48 + (m : Int) % 10)] 5)) := by
  rw [one_byte W _ (by omega) (by omega)]
  have : ((48 : Int) + (m : Int) % 10).toNat = 48 + m % 10 := by omega
  rw [this]
  rfl
theorem one_digit2 (W : World) (m : Nat) : (convert 38 9 (.slice (some ⟨W.heap.size, 0, none⟩) 1 1)).run Tryd.prog (W.alloc (.cells #[.int .u8 (48 + (m : Int) / 10 % 10)] 5)) = .ok (.string (Lx.bs [Lx.dg (m / 10)])) (W.alloc (.cells #[.int .u8 (48 + (m : Int) / 10 % 10)] 5)) := by
  rw [one_byte W _ (by omega) (by omega)]
  have : ((48 : Int) + (m : Int) / 10 % 10).toNat = 48 + m / 10 % 10 := by omega
  rw [this]
  rfl
theorem Lx.bs_app (a b : List UInt8) : Lx.bs a ++ Lx.bs b = Lx.bs (a ++ b) := by
  apply ByteArray.ext
  simp [Lx.bs]

theorem Lx.bs_sp (a b : List UInt8) : Lx.bs a ++ (⟨#[32]⟩ : ByteArray) ++ Lx.bs b = Lx.bs (a ++ 32 :: b) := by
  show Lx.bs a ++ Lx.bs [32] ++ Lx.bs b = _
  rw [Lx.bs_app, Lx.bs_app, List.append_assoc]
  rfl

set_option maxRecDepth 20000 in
theorem rDecimal (n : Nat) (w : World) (hn : n ≤ 1099511627776) :
    Calls Tryd.prog 50 #[.int .i64 n] w fun e w' => e = .returned (.string (Lx.bs (Lib.decDigits n))) ∧ Below w.heap.size w w' := by
  have hdl := Lx.digits_len n hn
  have HN := Lib.hid hn; have HD := Lib.hid hdl; clear hn hdl
  go_enter Tryd.func50, Tryd.ntmps50
  go_wp2
  rw [one_digit]
  go_wp2
  go_loopw [0, 3] (fun i s wr => ∃ (m : Nat) (x : List UInt8), m ≤ n ∧ i = .int .i64 m ∧ s = .string (Lx.bs (Lx.dg m :: x)) ∧ (Lib.decDigits n = if m < 10 then Lx.dg m :: x else Lib.decDigits (m / 10) ++ Lx.dg m :: x) ∧ Below w.heap.size w wr)
    (fun i _ _ => (intOf i).toNat)
  case atStart =>
    refine ⟨n, [], Nat.le_refl _, rfl, rfl, ?_, (Below.refl _ _).alloc (Nat.le_refl _) _⟩
    split
    · rename_i h; rw [Lx.digits_small h]
    · rename_i h; rw [Lx.digits_great h]
  case round =>
    obtain ⟨m, x, hm, rfl, rfl, hx, hbel⟩ := hrel
    have hwr := hbel.size
    have Hbel := Lib.hid hbel; clear hbel
    have hmb : m ≤ 1099511627776 := Nat.le_trans hm HN.out
    have hxl : x.length ≤ 13 := by
      have := HD.out
      rw [hx] at this
      split at this <;> simp at this <;> omega
    have hsz : (Lx.bs (Lx.dg m :: x)).size = x.length + 1 := by rw [Lx.bs_size]; rfl
    obtain ⟨S, hS⟩ : ∃ S, S = Lx.bs (Lx.dg m :: x) := ⟨_, rfl⟩
    rw [← hS] at hsz ⊢
    have HX := Lib.hid hx; have HS := Lib.hid hS
    clear hx hS
    by_cases h10 : m < 10
    · go_wp2
      go_ret
      have := HX.out
      rw [if_pos h10] at this
      refine ⟨?_, Hbel.out⟩
      rw [HS.out, this]
      rfl
    · have hdl := Lx.bs_size [Lx.dg (m / 10)]
      go_wp2
      rw [one_digit2]
      go_wp2
      go_roundw
      case rel =>
        refine ⟨m / 10, Lx.dg m :: x, by omega, by go_num, ?_, ?_, ?_⟩
        · rw [HS.out, Lx.bs_app]; rfl
        · rw [HX.out, if_neg h10]
          split
          · rename_i h; rw [Lx.digits_small h]; rfl
          · rename_i h; rw [Lx.digits_great h, List.append_assoc]; rfl
        · exact Hbel.out.trans ((Below.refl _ _).alloc hwr _)
      case measure => simp [intOf]; omega

theorem Lx.joinSp_snoc : ∀ (xs : List (List UInt8)) (x : List UInt8), Lx.joinSp (xs ++ [x]) = if xs = [] then x else Lx.joinSp xs ++ 32 :: x
  | [], x => rfl
  | [y], x => rfl
  | y :: z :: r, x => by
    have := Lx.joinSp_snoc (z :: r) x
    rw [if_neg (by simp)] at this ⊢
    show y ++ 32 :: Lx.joinSp (z :: r ++ [x]) = _
    rw [this]
    simp [Lx.joinSp]

/-- What the reference's text of the first tokens is. -/
def Lx.pre (l : List Tok) (k : Nat) : List UInt8 := Lx.joinSp ((l.take k).map Tok.out)
theorem Lx.pre_zero (l : List Tok) : Lx.pre l 0 = [] := rfl
theorem Lx.pre_next {l : List Tok} {k : Nat} {t : Tok} (h : l[k]? = some t) : Lx.pre l (k + 1) = if k = 0 then t.out else Lx.pre l k ++ 32 :: t.out := by
  unfold Lx.pre
  rw [List.take_add_one, h]
  have : ((l.take k).map Tok.out = []) ↔ k = 0 := by
    have hk := (List.getElem?_eq_some_iff.1 h).1
    rw [List.map_eq_nil_iff]
    constructor
    · intro e
      have := congrArg List.length e
      rw [List.length_take] at this
      simp only [List.length_nil] at this
      omega
    · rintro rfl; rfl
  simp only [Option.toList_some, List.map_append, List.map_cons, List.map_nil, Lx.joinSp_snoc, this]
theorem Lx.pre_len {l : List Tok} {k : Nat} (h : ∀ (j : Nat) (t : Tok), j < k → l[j]? = some t → Lx.valid t = true) (hk : k ≤ l.length) : (Lx.pre l k).length ≤ 33 * l.length := by
  unfold Lx.pre
  have := Lx.joinSp_len ((l.take k).map Tok.out) (fun x hx => by
    obtain ⟨t, ht, rfl⟩ := List.mem_map.1 hx
    obtain ⟨j, hj⟩ := List.mem_iff_getElem?.1 ht
    have hjk : j < k := by
      have := (List.getElem?_eq_some_iff.1 hj).1
      rw [List.length_take] at this
      omega
    rw [List.getElem?_take_of_lt hjk] at hj
    exact Lx.valid_out (h j t hjk hj))
  rw [List.length_map, List.length_take] at this
  omega

set_option maxHeartbeats 1000000 in
set_option maxRecDepth 20000 in
theorem rText (A : Option Addr) (c : Nat) (l : List Tok) (w : World) (h : Toks w w.heap.size A l) (hl : l.length ≤ 65536) :
    Calls Tryd.prog 20 #[.slice A l.length c] w (TextPost l w) := by
  go_enter Tryd.func20, Tryd.ntmps20
  go_wp2
  go_loopw [4, 5] (fun s i wr => ∃ (k : Nat), k ≤ l.length ∧ i = .int .i64 k ∧ s = .string (Lx.bs (Lx.pre l k)) ∧ (∀ (j : Nat) (t : Tok), j < k → l[j]? = some t → Lx.valid t = true) ∧ Below w.heap.size w wr)
    (fun _ i _ => l.length - (intOf i).toNat)
  case atStart => exact ⟨0, by omega, rfl, rfl, fun j t hj => absurd hj (by omega), Below.refl _ _⟩
  case round =>
    obtain ⟨k, hk, rfl, rfl, hh, hbel⟩ := hrel
    have H := h.below hbel (Nat.le_refl _)
    have hwr := hbel.size
    have hpl := Lx.pre_len hh hk
    have hps := Lx.bs_size (Lx.pre l k)
    obtain ⟨S, hS⟩ : ∃ S, S = Lx.bs (Lx.pre l k) := ⟨_, rfl⟩
    rw [← hS] at hps ⊢
    have Hh := Lib.hid hh; have Hbel := Lib.hid hbel; have HS := Lib.hid hS
    clear hh hbel hS
    by_cases hlt : k < l.length
    · obtain ⟨x, hx⟩ : ∃ x, l[k]? = some x := ⟨_, List.getElem?_eq_getElem (by omega)⟩
      obtain ⟨b, o, rfl, hb, h4⟩ := H.at_ k x hx
      have hxl := h.texts x (List.mem_of_getElem? hx)
      obtain ⟨p1, p2, p3, p4⟩ := h4
      have hval := fun W => rValid x.kind x.n x.pos (Lx.bs x.text) W (by rw [Lx.bs_size]; unfold maxLen; omega)
      rw [Lx.bs_list] at hval
      have Hx := Lib.hid hx; have HH := Lib.hid H
      clear hx H
      cases hs : Lx.valid x
      · rw [hs] at hval
        have Hval := Lib.hid hval
        have Hs := Lib.hid hs
        clear hval hs
        go_wp2_with fail
        refine (Hval.out _).mono ?_
        rintro e w1 ⟨rfl, hb1⟩
        have Hb1 := Lib.hid hb1; clear hb1
        go_wp2_with fail
        go_ret2
        refine ⟨Hbel.out.trans (Hb1.out.mono (by omega)), ?_⟩
        rw [Lx.text_none Hx.out Hs.out]
        rfl
      · rw [hs] at hval
        have hol := Lx.valid_out hs
        have hnext := Lx.pre_next Hx.out
        have hh2 : ∀ (j : Nat) (t : Tok), j < k + 1 → l[j]? = some t → Lx.valid t = true := fun j t hj ht => by
          by_cases e : j = k
          · subst e
            rw [Hx.out] at ht
            injection ht with ht
            rw [← ht]; exact hs
          · exact Hh.out j t (by omega) ht
        have Hval := Lib.hid hval; have Hs := Lib.hid hs; have Hn := Lib.hid hnext; have Hh2 := Lib.hid hh2
        clear hval hs hnext hh2
        go_wp2_with fail
        refine (Hval.out _).mono ?_
        rintro e w1 ⟨rfl, hb1⟩
        have q1 := hb1.cell (p := ⟨b, o + k * 4, none⟩) (show b < wr.heap.size by omega)
        have q2 := hb1.cell (p := ⟨b, o + k * 4 + 1, none⟩) (show b < wr.heap.size by omega)
        have q3 := hb1.cell (p := ⟨b, o + k * 4 + 2, none⟩) (show b < wr.heap.size by omega)
        rw [p1] at q1; rw [p2] at q2; rw [p3] at q3
        have hw1 := hb1.size
        have Hb1 := Lib.hid hb1; clear hb1 p1 p2 p3 p4
        by_cases h2 : x.kind = 2
        · obtain ⟨hn0, hn1⟩ := Lx.valid_num Hs.out h2
          have h2' : (x.kind == 2) = true := beq_iff_eq.2 h2
          obtain ⟨u, hu⟩ := Int.eq_ofNat_of_zero_le hn0
          have hdec := fun W => rDecimal u W (by omega)
          have hout : x.out = Lib.decDigits u := by unfold Tok.out; rw [if_pos h2, hu]; rfl
          rw [← hout] at hdec
          have hu' : ((u : Nat) : Int) = x.n := hu.symm
          rw [hu'] at hdec
          have hos := Lx.bs_size x.out
          have Hdec := Lib.hid hdec
          clear hdec hout hu hu' h2
          by_cases hk0 : k = 0
          · have hk0' : k < 1 := by omega
            have Hn2 := Lib.hid (Hn.out.trans (if_pos hk0))
            have H0 := Lib.hid hk0; clear hk0
            go_wp2_with fail
            refine (Hdec.out _).mono ?_
            rintro e w2 ⟨rfl, hb2⟩
            have Hb2 := Lib.hid hb2; clear hb2
            go_wp2_with fail
            go_roundw
            case rel => exact ⟨k + 1, by omega, by go_num, by rw [Hn2.out, HS.out, H0.out, Lx.bs_app]; rfl, Hh2.out, (Hbel.out.trans (Hb1.out.mono hwr)).trans (Hb2.out.mono (Nat.le_trans hwr hw1))⟩
            case measure => simp [intOf]; omega
          · have hk0' : 0 < k := by omega
            have Hn2 := Lib.hid (Hn.out.trans (if_neg hk0))
            have H0 := Lib.hid hk0; clear hk0
            go_wp2_with fail
            refine (Hdec.out _).mono ?_
            rintro e w2 ⟨rfl, hb2⟩
            have Hb2 := Lib.hid hb2; clear hb2
            go_wp2_with fail
            go_roundw
            case rel => exact ⟨k + 1, by omega, by go_num, by rw [Hn2.out, HS.out, Lx.bs_sp], Hh2.out, (Hbel.out.trans (Hb1.out.mono hwr)).trans (Hb2.out.mono (Nat.le_trans hwr hw1))⟩
            case measure => simp [intOf]; omega
        · have h2' : (x.kind == 2) = false := beq_eq_false_iff_ne.2 h2
          have hout : x.out = x.text := by unfold Tok.out; rw [if_neg h2]
          have hos := Lx.bs_size x.text
          rw [hout] at hol
          have Hout := Lib.hid hout
          clear hout h2
          by_cases hk0 : k = 0
          · have hk0' : k < 1 := by omega
            have Hn2 := Lib.hid (Hn.out.trans (if_pos hk0))
            have H0 := Lib.hid hk0; clear hk0
            go_wp2_with fail
            go_roundw
            case rel => exact ⟨k + 1, by omega, by go_num, by rw [Hn2.out, HS.out, H0.out, Hout.out, Lx.bs_app]; rfl, Hh2.out, Hbel.out.trans (Hb1.out.mono hwr)⟩
            case measure => simp [intOf]; omega
          · have hk0' : 0 < k := by omega
            have Hn2 := Lib.hid (Hn.out.trans (if_neg hk0))
            have H0 := Lib.hid hk0; clear hk0
            go_wp2_with fail
            go_roundw
            case rel => exact ⟨k + 1, by omega, by go_num, by rw [Hn2.out, HS.out, Hout.out, Lx.bs_sp], Hh2.out, Hbel.out.trans (Hb1.out.mono hwr)⟩
            case measure => simp [intOf]; omega
    · obtain rfl : k = l.length := by omega
      have htx := Lx.text_some fun j t hj => Hh.out j t (List.getElem?_eq_some_iff.1 hj).1 hj
      have hpre : Lx.pre l l.length = Lx.joinSp (l.map Tok.out) := by unfold Lx.pre; rw [List.take_length]
      have Htx := Lib.hid htx; have Hpre := Lib.hid hpre
      clear htx hpre
      go_wp2_with fail
      go_ret2
      refine ⟨Hbel.out, ?_⟩
      rw [Htx.out, HS.out, Hpre.out]
      rfl
end Go.Proofs.YtocelmjncjompaaDoor
