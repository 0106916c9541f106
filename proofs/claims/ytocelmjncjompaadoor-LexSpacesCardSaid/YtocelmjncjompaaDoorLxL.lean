/- Walks: lex.Text. -/
import Derived.Test.YtocelmjncjompaaDoorLxK
import Derived.Deep.OwnRows
import Derived.Lib.Join
namespace Go.Proofs.YtocelmjncjompaaDoor
open Go.RowKit
open Lx (Tok)

theorem Tryd.infoStr : (Tryd.prog.info? 9).map (fun i => (i.zero, i.size, i.bytes)) = some (some (.string ⟨#[]⟩), 1, 16) := by kernel_rfl

theorem cJoin (bk o c : Nat) (xs : List ByteArray) (sep : ByteArray) (w : World) (hcells : ∀ (j : Nat) x, xs[j]? = some x → w.cell? ⟨bk, o + j, none⟩ = some (.string x)) (hbk : bk < w.heap.size) (hN : xs.length ≤ 140737488355328) (hcap : xs.length ≤ c) (hlen : (Lib.join (xs.map (·.data.toList)) sep.data.toList).length ≤ 140737488355328) :
    Calls Tryd.prog 48 #[.slice (some ⟨bk, o, none⟩) xs.length c, .string sep] w fun e w' => e = .returned (.string ⟨(Lib.join (xs.map (·.data.toList)) sep.data.toList).toArray⟩) ∧ Below w.heap.size w w' :=
  Any.strings_Join Tryd.lays156 Tryd.Builder_Extra_156 bk o c xs sep w hcells hbk hN hcap hlen

def TextPost (l : List Tok) (w : World) (e : Ending) (w' : World) : Prop :=
  Below w.heap.size w w' ∧ match Lx.text l with
    | some s => e = .returned (.tuple #[.string (Lx.bs s), .int .i64 0])
    | none => e = .returned (.tuple #[.string ⟨#[]⟩, .int .i64 90])

theorem Lx.text_none {l : List Tok} {k : Nat} {x : Tok} (hx : l[k]? = some x) (h : Lx.valid x = false) : Lx.text l = none := by
  unfold Lx.text
  rw [if_neg]
  intro ha
  rw [List.all_eq_true] at ha
  rw [ha x (List.mem_of_getElem? hx)] at h
  cases h
theorem Lx.text_some {l : List Tok} (h : ∀ (j : Nat) (t : Tok), l[j]? = some t → Lx.valid t = true) : Lx.text l = some (Lx.joinSp (l.map Tok.out)) := by
  unfold Lx.text
  rw [if_pos]
  rw [List.all_eq_true]
  intro t ht
  obtain ⟨j, hj⟩ := List.mem_iff_getElem?.1 ht
  exact h j t hj
theorem Lx.join_sp : ∀ xs : List (List UInt8), Lib.join xs [32] = Lx.joinSp xs
  | [] => rfl
  | [x] => by rw [Lib.join_one]; rfl
  | x :: y :: r => by
    rw [Lib.join_cons]
    have ih := Lx.join_sp (y :: r)
    rw [Lib.join_cons] at ih
    simp only [Lx.joinSp, ← ih]
    simp [Lib.joinTail]
theorem Lx.valid_num {t : Tok} (h : Lx.valid t = true) (hk : t.kind = 2) : 0 ≤ t.n ∧ t.n ≤ 1099511627776 := by
  unfold Lx.valid at h
  rw [hk] at h
  simp at h
  omega
theorem Lx.digits_len (u : Nat) (h : u ≤ 1099511627776) : (Lib.decDigits u).length ≤ 13 := by
  rw [Lib.decDigits_length]
  by_cases h0 : u = 0
  · subst h0; rw [Lib.nDigits_small (by omega)]; omega
  rcases Nat.lt_or_ge (Lib.nDigits u) 14 with hn | hn
  · omega
  exfalso
  have : ∀ (k u : Nat), k + 1 ≤ Lib.nDigits u → u ≠ 0 → 10 ^ k ≤ u := by
    intro k
    induction k with
    | zero => intro u _ h0; simp; omega
    | succ k ih =>
      intro u hk h0
      by_cases hu : u < 10
      · rw [Lib.nDigits_small hu] at hk; omega
      · rw [Lib.nDigits_big hu] at hk
        have := ih (u / 10) (by omega) (by omega)
        rw [Nat.pow_succ]; omega
  have h13 := this 13 u (by omega) h0
  have e : (10 : Nat) ^ 13 = 10000000000000 := by decide
  omega
theorem Lx.valid_out {t : Tok} (h : Lx.valid t = true) : t.out.length ≤ 32 := by
  unfold Tok.out
  split
  · rename_i hk
    obtain ⟨h1, h2⟩ := Lx.valid_num h hk
    have := Lx.digits_len t.n.toNat (by omega)
    omega
  · rename_i hk
    unfold Lx.valid at h
    split at h
    · simp only [Bool.and_eq_true, Lx.isName] at h
      have h1 := h.1
      split at h1
      · cases h1
      · rename_i e
        simp only [Bool.and_eq_true, decide_eq_true_eq] at h1
        rw [e] at h1 ⊢
        exact h1.1.1
    · split at h
      · simp only [Bool.and_eq_true] at h
        have h1 := h.1
        split at h1
        · rename_i e; rw [e]; simp
        · cases h1
      · cases h
theorem Lx.joinSp_len : ∀ xs : List (List UInt8), (∀ x ∈ xs, x.length ≤ 32) → (Lx.joinSp xs).length ≤ 33 * xs.length
  | [], _ => by simp [Lx.joinSp]
  | [x], h => by have := h x (by simp); simp [Lx.joinSp]; omega
  | x :: y :: r, h => by
    have h1 := h x (by simp)
    have ih := Lx.joinSp_len (y :: r) (fun z hz => h z (List.mem_cons_of_mem _ hz))
    simp only [Lx.joinSp, List.length_append, List.length_cons] at ih ⊢
    omega

theorem text_step {l : List Tok} {k m : Nat} {x : Tok} {cs : Array Value} {u : List UInt8} (hcs : cs.size = m) (hk : k < m) (hh : ∀ (j : Nat) (t : Tok), j < k → l[j]? = some t → cs[j]? = some (.string (Lx.bs t.out)) ∧ Lx.valid t = true)
    (hx : l[k]? = some x) (hu : x.out = u) (hv : Lx.valid x = true) : ∀ (j : Nat) (t : Tok), j < k + 1 → l[j]? = some t → (cs.setIfInBounds k (.string (Lx.bs u)))[j]? = some (.string (Lx.bs t.out)) ∧ Lx.valid t = true := by
  intro j t hj ht
  rcases Nat.lt_or_ge j k with h | h
  · obtain ⟨h1, h2⟩ := hh j t h ht
    exact ⟨by rw [Array.getElem?_setIfInBounds_ne (by omega)]; exact h1, h2⟩
  · obtain rfl : j = k := by omega
    rw [hx] at ht
    obtain rfl := Option.some.inj ht
    exact ⟨by rw [Array.getElem?_setIfInBounds_self_of_lt (by omega), hu], hv⟩

set_option maxHeartbeats 1000000 in
theorem lText (A : Option Addr) (c : Nat) (l : List Tok) (w : World) (he : Env w) (h : Toks w w.heap.size A l) (hl : l.length ≤ 65536) :
    Calls Tryd.prog 19 #[.slice A l.length c] w (TextPost l w) := by
  have hmk := fun W => run_make_row' (P := Tryd.prog) 39 9 (.string ⟨#[]⟩) 16 Tryd.underlying39 Tryd.infoStr rfl .i64 .i64 l.length (by omega) (by omega) W
  obtain ⟨m, hm⟩ : ∃ m, m = l.length := ⟨_, rfl⟩
  rw [← hm] at hmk ⊢
  have hml : m ≤ l.length := by omega
  have hlm : l.length ≤ m := by omega
  have Hm := Lib.hid hm; clear hm
  obtain ⟨cs0, hcs0⟩ : ∃ cs0, cs0 = madeCells #[.string ⟨#[]⟩] m := ⟨_, rfl⟩
  have hcs0s : cs0.size = m := by rw [hcs0, size_madeCells]
  rw [← hcs0] at hmk
  have Hcs0 := Lib.hid hcs0s
  clear hcs0 hcs0s
  go_enter Tryd.func19, Tryd.ntmps19
  go_wp2
  go_loopw [12] (fun i wr => ∃ (k : Nat) (cs : Array Value), k ≤ m ∧ i = .int .i64 k ∧ Blk wr w.heap.size 9 cs ∧ cs.size = m ∧ (∀ (j : Nat) (t : Tok), j < k → l[j]? = some t → cs[j]? = some (.string (Lx.bs t.out)) ∧ Lx.valid t = true) ∧ Below w.heap.size w wr)
    (fun i _ => m - (intOf i).toNat)
  case atStart => exact ⟨0, cs0, by omega, rfl, Blk.new _ _ _, Hcs0.out, fun j t hj => absurd hj (by omega), (Below.refl _ _).alloc (Nat.le_refl _) _⟩
  case round =>
    obtain ⟨k, cs, hk, rfl, hblk, hcs, hh, hbel⟩ := hrel
    have H := h.below hbel (Nat.le_refl _)
    have hsz := hblk.lt
    have hEw := he.next hbel
    have Hh := Lib.hid hh; have Hblk := Lib.hid hblk; have Hbel := Lib.hid hbel; have Hcs := Lib.hid hcs; have HE := Lib.hid hEw
    clear hh hblk hbel hcs hEw hmk
    by_cases hlt : k < m
    · obtain ⟨x, hx⟩ : ∃ x, l[k]? = some x := ⟨_, List.getElem?_eq_getElem (by omega)⟩
      obtain ⟨b, o, rfl, hb, h4⟩ := H.at_ k x hx
      have hxl := h.texts x (List.mem_of_getElem? hx)
      obtain ⟨p1, p2, p3, p4⟩ := h4
      have hval := fun W => lValid x.kind x.n x.pos (Lx.bs x.text) W (by rw [Lx.bs_size]; unfold maxLen; omega)
      rw [Lx.bs_list] at hval
      have hne1 : b < wr.heap.size := by omega
      have Hx := Lib.hid hx; have HH := Lib.hid H
      clear hx H
      cases hs : Lx.valid x
      · have hval' : ∀ W, Calls Tryd.prog 46 #[.agg #[.int .i64 x.kind, .string (Lx.bs x.text), .int .i64 x.n, .int .i64 x.pos]] W fun e w' => e = .returned (.bool false) ∧ Below W.heap.size W w' := by rw [← hs]; exact hval
        have Hval := Lib.hid hval'
        have Hs := Lib.hid hs
        clear hval hval' hs
        go_wp2_with fail
        refine (Hval.out _).mono ?_
        rintro e w1 ⟨rfl, hb1⟩
        have Hb1 := Lib.hid hb1; clear hb1
        go_wp2_with fail
        go_ret2
        refine ⟨Hbel.out.trans (((Below.refl _ _).alloc (by omega) _).trans (Hb1.out.mono (by simp; omega))), ?_⟩
        rw [Lx.text_none Hx.out Hs.out]
        rfl
      · have hval' : ∀ W, Calls Tryd.prog 46 #[.agg #[.int .i64 x.kind, .string (Lx.bs x.text), .int .i64 x.n, .int .i64 x.pos]] W fun e w' => e = .returned (.bool true) ∧ Below W.heap.size W w' := by rw [← hs]; exact hval
        have Hval := Lib.hid hval'
        have Hs := Lib.hid hs
        clear hval hval' hs
        go_wp2_with fail
        refine (Hval.out _).mono ?_
        rintro e w1 ⟨rfl, hb1⟩
        have hbx := (Blk.new wr 35 #[.int .i64 x.kind, .string (Lx.bs x.text), .int .i64 x.n, .int .i64 x.pos]).below hb1 (by simp)
        have x0 := hbx.cell 0; have x1 := hbx.cell 1; have x2 := hbx.cell 2
        simp at x0 x1 x2
        have hbw := ((Hblk.out).alloc (.cells #[.int .i64 x.kind, .string (Lx.bs x.text), .int .i64 x.n, .int .i64 x.pos] 35)).below hb1 (by simp; omega)
        have y0 := hbw.cell k
        have y1 := hbw.free k
        have Hb1 := Lib.hid hb1; have Hbw := Lib.hid hbw
        clear hb1 hbx hbw
        by_cases h2 : x.kind = 2
        · obtain ⟨hn0, hn1⟩ := Lx.valid_num Hs.out h2
          have h2' : (x.kind == 2) = true := beq_iff_eq.2 h2
          have hio := fun W (hE : Env W) => cItoa x.n (by omega) (by omega) W hE
          have hout : (⟨(Lib.itoa x.n).toArray⟩ : ByteArray) = Lx.bs x.out := by
            unfold Tok.out Lib.itoa
            rw [if_pos h2, if_neg (by omega)]; rfl
          rw [hout] at hio
          have HE1 := Lib.hid ((HE.out.next ((Below.refl _ _).alloc (Nat.le_refl _) (.cells #[.int .i64 x.kind, .string (Lx.bs x.text), .int .i64 x.n, .int .i64 x.pos] 35))).next Hb1.out)
          have Hio := Lib.hid hio
          clear hio hout h2
          obtain ⟨cv, hcv⟩ : ∃ cv, cs[k]? = some cv := ⟨_, Array.getElem?_eq_getElem (by rw [Hcs.out]; omega)⟩
          rw [hcv] at y0
          clear hcv
          go_wp2_with fail
          refine (Hio.out _ HE1.out).mono ?_
          rintro e w2 ⟨rfl, hb2⟩
          have hw1 := Hbw.out.lt
          have hbw2 := Hbw.out.below hb2 (by omega)
          have hcell := hbw2.cell k
          have hfree := hbw2.free k
          rw [← Hbw.out.cell k, y0] at hcell
          have Hb2 := Lib.hid hb2; have Hbw2 := Lib.hid hbw2
          clear hb2 hbw2 x0 x1 x2 y0 y1
          go_wp2_with fail
          go_roundw
          case rel => exact ⟨k + 1, _, by omega, by go_num, Hbw2.out.set k _, by rw [Array.size_setIfInBounds]; exact Hcs.out, text_step Hcs.out hlt Hh.out Hx.out rfl Hs.out,
            ((Hbel.out.trans (((Below.refl _ _).alloc (by omega) _).trans (Hb1.out.mono (by simp; omega)))).trans (Hb2.out.mono (by omega))).setCell (show w.heap.size ≤ w.heap.size from Nat.le_refl _) _⟩
          case measure => simp [intOf]; omega
        · have h2' : (x.kind == 2) = false := beq_eq_false_iff_ne.2 h2
          have H2 := Lib.hid h2; clear h2
          obtain ⟨cv, hcv⟩ : ∃ cv, cs[k]? = some cv := ⟨_, Array.getElem?_eq_getElem (by rw [Hcs.out]; omega)⟩
          rw [hcv] at y0
          clear hcv
          go_wp2_with fail
          go_roundw
          case rel => exact ⟨k + 1, _, by omega, by go_num, Hbw.out.set k _, by rw [Array.size_setIfInBounds]; exact Hcs.out, text_step Hcs.out hlt Hh.out Hx.out (by unfold Tok.out; rw [if_neg H2.out]) Hs.out,
            (Hbel.out.trans (((Below.refl _ _).alloc (by omega) _).trans (Hb1.out.mono (by simp; omega)))).setCell (show w.heap.size ≤ w.heap.size from Nat.le_refl _) _⟩
          case measure => simp [intOf]; omega
    · obtain rfl : k = m := by omega
      have hall : ∀ (j : Nat) (t : Tok), l[j]? = some t → Lx.valid t = true := fun j t hj => (Hh.out j t (by have := (List.getElem?_eq_some_iff.1 hj).1; omega) hj).2
      have htx := Lx.text_some hall
      have hcells : ∀ (j : Nat) x, (l.map fun t => Lx.bs t.out)[j]? = some x → wr.cell? ⟨w.heap.size, 0 + j, none⟩ = some (.string x) := fun j x hj => by
        rw [List.getElem?_map] at hj
        obtain ⟨t, ht, rfl⟩ := Option.map_eq_some_iff.1 hj
        rw [Hblk.out.cell, Nat.zero_add]
        exact (Hh.out j t (by have := (List.getElem?_eq_some_iff.1 ht).1; omega) ht).1
      have hmap : ((l.map fun t => Lx.bs t.out).map (·.data.toList)) = l.map Tok.out := by
        rw [List.map_map]; exact List.map_congr_left fun t _ => Lx.bs_list _
      have hjn : Lib.join ((l.map fun t => Lx.bs t.out).map (·.data.toList)) (⟨#[32]⟩ : ByteArray).data.toList = Lx.joinSp (l.map Tok.out) := by rw [hmap]; exact Lx.join_sp _
      have hjl : (Lx.joinSp (l.map Tok.out)).length ≤ 33 * l.length := by
        have := Lx.joinSp_len (l.map Tok.out) (fun x hx => by
          obtain ⟨t, ht, rfl⟩ := List.mem_map.1 hx
          obtain ⟨j, hj⟩ := List.mem_iff_getElem?.1 ht
          exact Lx.valid_out (hall j t hj))
        rwa [List.length_map] at this
      have hcall := cJoin w.heap.size 0 k (l.map fun t => Lx.bs t.out) ⟨#[32]⟩ wr hcells (by omega) (by rw [List.length_map]; omega) (by rw [List.length_map]; omega) (by rw [hjn]; omega)
      rw [hjn, List.length_map, ← Hm.out] at hcall
      have Hcall := Lib.hid hcall; have Htx := Lib.hid htx
      clear hcall htx hjn hjl hcells hmap hall
      go_wp2_with fail
      refine (Hcall.out).mono ?_
      rintro e w1 ⟨rfl, hb1⟩
      have Hb1 := Lib.hid hb1; clear hb1
      go_wp2_with fail
      go_ret2
      refine ⟨Hbel.out.trans (Hb1.out.mono (by omega)), ?_⟩
      rw [Htx.out]
      rfl
end Go.Proofs.YtocelmjncjompaaDoor
