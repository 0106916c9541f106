/- Parts of the proof, joined into one text: LxL, LxM, LxWord. -/
import Derived.Test.YtjonaidancomgaaGreatDoorYSxProg
import Derived.Deep.OwnRows
import Derived.Lib.Join
import Derived.Test.YtjonaidancomgaaGreatDoorYSxCutB

namespace Go.Proofs.YtjonaidancomgaaGreatDoor
open Go.RowKit
open Lx (Tok)

theorem Tryz.infoStr : (Tryz.prog.info? 9).map (fun i => (i.zero, i.size, i.bytes)) = some (some (.string ⟨#[]⟩), 1, 16) := by kernel_rfl

theorem cJoin (bk o c : Nat) (xs : List ByteArray) (sep : ByteArray) (w : World) (hcells : ∀ (j : Nat) x, xs[j]? = some x → w.cell? ⟨bk, o + j, none⟩ = some (.string x)) (hbk : bk < w.heap.size) (hN : xs.length ≤ 140737488355328) (hcap : xs.length ≤ c) (hlen : (Lib.join (xs.map (·.data.toList)) sep.data.toList).length ≤ 140737488355328) :
  Calls Tryz.prog 133 #[.slice (some ⟨bk, o, none⟩) xs.length c, .string sep] w fun e w' => e = .returned (.string ⟨(Lib.join (xs.map (·.data.toList)) sep.data.toList).toArray⟩) ∧ Below w.heap.size w w' :=
 Any.strings_Join Tryz.lays156 Tryz.Builder_Extra_156 bk o c xs sep w hcells hbk hN hcap hlen

def TextPost (l : List Tok) (w : World) (e : Ending) (w' : World) : Prop :=
 Below w.heap.size w w' ∧ match Lx.text l with
  | some s => e = .returned (.tuple #[.string (Lx.bs s), .int .i64 0])
  | none => e = .returned (.tuple #[.string ⟨#[]⟩, .int .i64 90])

theorem Lx.text_none {l : List Tok} {k : Nat} {x : Tok} (hx : l[k]? = some x) (h : Lx.valid x = false) : Lx.text l = none := by
 unfold Lx.text
 rw [if_neg]
 intro ha
 rw [List.all_eq_true] at ha
 rw [ha x (List.mem_of_getElem? hx)] at h
 cases h
theorem Lx.text_some {l : List Tok} (h : ∀ (j : Nat) (t : Tok), l[j]? = some t → Lx.valid t = true) : Lx.text l = some (Lx.joinSp (l.map Tok.out)) := by
 unfold Lx.text
 rw [if_pos]
 rw [List.all_eq_true]
 intro t ht
 obtain ⟨j, hj⟩ := List.mem_iff_getElem?.1 ht
 exact h j t hj
theorem Lx.join_sp : ∀ xs : List (List UInt8), Lib.join xs [32] = Lx.joinSp xs
 | [] => rfl
 | [x] => by rw [Lib.join_one]; rfl
 | x :: y :: r => by
  rw [Lib.join_cons]
  have ih := Lx.join_sp (y :: r)
  rw [Lib.join_cons] at ih
  simp only [Lx.joinSp, ← ih]
  simp [Lib.joinTail]
theorem Lx.valid_num {t : Tok} (h : Lx.valid t = true) (hk : t.kind = 2) : 0 ≤ t.n ∧ t.n ≤ 1099511627776 := by
 unfold Lx.valid at h
 rw [hk] at h
 simp at h
 omega
theorem Lx.digits_len (u : Nat) (h : u ≤ 1099511627776) : (Lib.decDigits u).length ≤ 13 := by
 rw [Lib.decDigits_length]
 by_cases h0 : u = 0
 ·subst h0; rw [Lib.nDigits_small (by omega)]; omega
 rcases Nat.lt_or_ge (Lib.nDigits u) 14 with hn | hn
 ·omega
 exfalso
 have : ∀ (k u : Nat), k + 1 ≤ Lib.nDigits u → u ≠ 0 → 10 ^ k ≤ u := by
  intro k
  induction k with
  | zero => intro u _ h0; simp; omega
  | succ k ih =>
   intro u hk h0
   by_cases hu : u < 10
   ·rw [Lib.nDigits_small hu] at hk; omega
   ·rw [Lib.nDigits_big hu] at hk
    have := ih (u / 10) (by omega) (by omega)
    rw [Nat.pow_succ]; omega
 have h13 := this 13 u (by omega) h0
 have e : (10 : Nat) ^ 13 = 10000000000000 := by decide
 omega
theorem Lx.valid_out {t : Tok} (h : Lx.valid t = true) : t.out.length ≤ 32 := by
 unfold Tok.out
 split
 ·rename_i hk
  obtain ⟨h1, h2⟩ := Lx.valid_num h hk
  have := Lx.digits_len t.n.toNat (by omega)
  omega
 ·rename_i hk
  unfold Lx.valid at h
  split at h
  ·simp only [Bool.and_eq_true, Lx.isName] at h
   have h1 := h.1
   split at h1
   ·cases h1
   ·rename_i e
    simp only [Bool.and_eq_true, decide_eq_true_eq] at h1
    rw [e] at h1 ⊢
    exact h1.1.1
  ·split at h
   ·simp only [Bool.and_eq_true] at h
    have h1 := h.1
    split at h1
    ·rename_i e; rw [e]; simp
    ·cases h1
   ·cases h
theorem Lx.joinSp_len : ∀ xs : List (List UInt8), (∀ x ∈ xs, x.length ≤ 32) → (Lx.joinSp xs).length ≤ 33 * xs.length
 | [], _ => by simp [Lx.joinSp]
 | [x], h => by have := h x (by simp); simp [Lx.joinSp]; omega
 | x :: y :: r, h => by
  have h1 := h x (by simp)
  have ih := Lx.joinSp_len (y :: r) (fun z hz => h z (List.mem_cons_of_mem _ hz))
  simp only [Lx.joinSp, List.length_append, List.length_cons] at ih ⊢
  omega

theorem text_step {l : List Tok} {k m : Nat} {x : Tok} {cs : Array Value} {u : List UInt8} (hcs : cs.size = m) (hk : k < m) (hh : ∀ (j : Nat) (t : Tok), j < k → l[j]? = some t → cs[j]? = some (.string (Lx.bs t.out)) ∧ Lx.valid t = true)
  (hx : l[k]? = some x) (hu : x.out = u) (hv : Lx.valid x = true) : ∀ (j : Nat) (t : Tok), j < k + 1 → l[j]? = some t → (cs.setIfInBounds k (.string (Lx.bs u)))[j]? = some (.string (Lx.bs t.out)) ∧ Lx.valid t = true := by
 intro j t hj ht
 rcases Nat.lt_or_ge j k with h | h
 ·obtain ⟨h1, h2⟩ := hh j t h ht
  exact ⟨by rw [Array.getElem?_setIfInBounds_ne (by omega)]; exact h1, h2⟩
 ·obtain rfl : j = k := by omega
  rw [hx] at ht
  obtain rfl := Option.some.inj ht
  exact ⟨by rw [Array.getElem?_setIfInBounds_self_of_lt (by omega), hu], hv⟩

set_option maxHeartbeats 1000000 in
theorem lText (A : Option Addr) (c : Nat) (l : List Tok) (w : World) (he : Env w) (h : Toks w w.heap.size A l) (hl : l.length ≤ 65536) :
  Calls Tryz.prog 53 #[.slice A l.length c] w (TextPost l w) := by
 have hmk := fun W => run_make_row' (P := Tryz.prog) 105 9 (.string ⟨#[]⟩) 16 Tryz.underlying105 Tryz.infoStr rfl .i64 .i64 l.length (by omega) (by omega) W
 obtain ⟨m, hm⟩ : ∃ m, m = l.length := ⟨_, rfl⟩
 rw [← hm] at hmk ⊢
 have hml : m ≤ l.length := by omega
 have hlm : l.length ≤ m := by omega
 have Hm := Lh hm; clear hm
 obtain ⟨cs0, hcs0⟩ : ∃ cs0, cs0 = madeCells #[.string ⟨#[]⟩] m := ⟨_, rfl⟩
 have hcs0s : cs0.size = m := by rw [hcs0, size_madeCells]
 rw [← hcs0] at hmk
 have Hcs0 := Lh hcs0s
 clear hcs0 hcs0s
 go_enter Tryz.func53, Tryz.ntmps53
 go_wp2
 go_loopw [12] (fun i wr => ∃ (k : Nat) (cs : Array Value), k ≤ m ∧ i = .int .i64 k ∧ Blk wr w.heap.size 9 cs ∧ cs.size = m ∧ (∀ (j : Nat) (t : Tok), j < k → l[j]? = some t → cs[j]? = some (.string (Lx.bs t.out)) ∧ Lx.valid t = true) ∧ Below w.heap.size w wr)
  (fun i _ => m - (intOf i).toNat)
 case atStart => exact ⟨0, cs0, by omega, rfl, Blk.new _ _ _, Hcs0.out, fun j t hj => absurd hj (by omega), (Below.refl _ _).alloc (Nat.le_refl _) _⟩
 case round =>
  obtain ⟨k, cs, hk, rfl, hblk, hcs, hh, hbel⟩ := hrel
  have H := h.below hbel (Nat.le_refl _)
  have hsz := hblk.lt
  have hEw := he.next hbel
  have Hh := Lh hh; have Hblk := Lh hblk; have Hbel := Lh hbel; have Hcs := Lh hcs; have HE := Lh hEw
  clear hh hblk hbel hcs hEw hmk
  by_cases hlt : k < m
  ·obtain ⟨x, hx⟩ : ∃ x, l[k]? = some x := ⟨_, List.getElem?_eq_getElem (by omega)⟩
   obtain ⟨b, o, rfl, hb, h4⟩ := H.at_ k x hx
   have hxl := h.texts x (List.mem_of_getElem? hx)
   obtain ⟨p1, p2, p3, p4⟩ := h4
   have hval := fun W => lValid x.kind x.n x.pos (Lx.bs x.text) W (by rw [Lx.bs_size]; unfold maxLen; omega)
   rw [Lx.bs_list] at hval
   have hne1 : b < wr.heap.size := by omega
   have Hx := Lh hx; have HH := Lh H
   clear hx H
   cases hs : Lx.valid x
   ·have hval' : ∀ W, Calls Tryz.prog 131 #[.agg #[.int .i64 x.kind, .string (Lx.bs x.text), .int .i64 x.n, .int .i64 x.pos]] W fun e w' => e = .returned (.bool false) ∧ Below W.heap.size W w' := by rw [← hs]; exact hval
    have Hval := Lh hval'
    have Hs := Lh hs
    clear hval hval' hs
    go_wp2_with fail
    refine (Hval.out _).mono ?_
    rintro e w1 ⟨rfl, hb1⟩
    have Hb1 := Lh hb1; clear hb1
    go_wp2_with fail
    go_ret2
    refine ⟨Hbel.out.trans (((Below.refl _ _).alloc (by omega) _).trans (Hb1.out.mono (by simp; omega))), ?_⟩
    rw [Lx.text_none Hx.out Hs.out]
    rfl
   ·have hval' : ∀ W, Calls Tryz.prog 131 #[.agg #[.int .i64 x.kind, .string (Lx.bs x.text), .int .i64 x.n, .int .i64 x.pos]] W fun e w' => e = .returned (.bool true) ∧ Below W.heap.size W w' := by rw [← hs]; exact hval
    have Hval := Lh hval'
    have Hs := Lh hs
    clear hval hval' hs
    go_wp2_with fail
    refine (Hval.out _).mono ?_
    rintro e w1 ⟨rfl, hb1⟩
    have hbx := (Blk.new wr 55 #[.int .i64 x.kind, .string (Lx.bs x.text), .int .i64 x.n, .int .i64 x.pos]).below hb1 (by simp)
    have x0 := hbx.cell 0; have x1 := hbx.cell 1; have x2 := hbx.cell 2
    simp at x0 x1 x2
    have hbw := ((Hblk.out).alloc (.cells #[.int .i64 x.kind, .string (Lx.bs x.text), .int .i64 x.n, .int .i64 x.pos] 55)).below hb1 (by simp; omega)
    have y0 := hbw.cell k
    have y1 := hbw.free k
    have Hb1 := Lh hb1; have Hbw := Lh hbw
    clear hb1 hbx hbw
    by_cases h2 : x.kind = 2
    ·obtain ⟨hn0, hn1⟩ := Lx.valid_num Hs.out h2
     have h2' : (x.kind == 2) = true := beq_iff_eq.2 h2
     have hio := fun W (hE : Env W) => cItoa x.n (by omega) (by omega) W hE
     have hout : (⟨(Lib.itoa x.n).toArray⟩ : ByteArray) = Lx.bs x.out := by
      unfold Tok.out Lib.itoa
      rw [if_pos h2, if_neg (by omega)]; rfl
     rw [hout] at hio
     have HE1 := Lh ((HE.out.next ((Below.refl _ _).alloc (Nat.le_refl _) (.cells #[.int .i64 x.kind, .string (Lx.bs x.text), .int .i64 x.n, .int .i64 x.pos] 55))).next Hb1.out)
     have Hio := Lh hio
     clear hio hout h2
     obtain ⟨cv, hcv⟩ : ∃ cv, cs[k]? = some cv := ⟨_, Array.getElem?_eq_getElem (by rw [Hcs.out]; omega)⟩
     rw [hcv] at y0
     clear hcv
     go_wp2_with fail
     refine (Hio.out _ HE1.out).mono ?_
     rintro e w2 ⟨rfl, hb2⟩
     have hw1 := Hbw.out.lt
     have hbw2 := Hbw.out.below hb2 (by omega)
     have hcell := hbw2.cell k
     have hfree := hbw2.free k
     rw [← Hbw.out.cell k, y0] at hcell
     have Hb2 := Lh hb2; have Hbw2 := Lh hbw2
     clear hb2 hbw2 x0 x1 x2 y0 y1
     go_wp2_with fail
     go_roundw
     case rel => exact ⟨k + 1, _, by omega, by go_num, Hbw2.out.set k _, by rw [Array.size_setIfInBounds]; exact Hcs.out, text_step Hcs.out hlt Hh.out Hx.out rfl Hs.out,
      ((Hbel.out.trans (((Below.refl _ _).alloc (by omega) _).trans (Hb1.out.mono (by simp; omega)))).trans (Hb2.out.mono (by omega))).setCell (show w.heap.size ≤ w.heap.size from Nat.le_refl _) _⟩
     case measure => simp [intOf]; omega
    ·have h2' : (x.kind == 2) = false := beq_eq_false_iff_ne.2 h2
     have H2 := Lh h2; clear h2
     obtain ⟨cv, hcv⟩ : ∃ cv, cs[k]? = some cv := ⟨_, Array.getElem?_eq_getElem (by rw [Hcs.out]; omega)⟩
     rw [hcv] at y0
     clear hcv
     go_wp2_with fail
     go_roundw
     case rel => exact ⟨k + 1, _, by omega, by go_num, Hbw.out.set k _, by rw [Array.size_setIfInBounds]; exact Hcs.out, text_step Hcs.out hlt Hh.out Hx.out (by unfold Tok.out; rw [if_neg H2.out]) Hs.out,
      (Hbel.out.trans (((Below.refl _ _).alloc (by omega) _).trans (Hb1.out.mono (by simp; omega)))).setCell (show w.heap.size ≤ w.heap.size from Nat.le_refl _) _⟩
     case measure => simp [intOf]; omega
  ·obtain rfl : k = m := by omega
   have hall : ∀ (j : Nat) (t : Tok), l[j]? = some t → Lx.valid t = true := fun j t hj => (Hh.out j t (by have := (List.getElem?_eq_some_iff.1 hj).1; omega) hj).2
   have htx := Lx.text_some hall
   have hcells : ∀ (j : Nat) x, (l.map fun t => Lx.bs t.out)[j]? = some x → wr.cell? ⟨w.heap.size, 0 + j, none⟩ = some (.string x) := fun j x hj => by
    rw [List.getElem?_map] at hj
    obtain ⟨t, ht, rfl⟩ := Option.map_eq_some_iff.1 hj
    rw [Hblk.out.cell, Nat.zero_add]
    exact (Hh.out j t (by have := (List.getElem?_eq_some_iff.1 ht).1; omega) ht).1
   have hmap : ((l.map fun t => Lx.bs t.out).map (·.data.toList)) = l.map Tok.out := by
    rw [List.map_map]; exact List.map_congr_left fun t _ => Lx.bs_list _
   have hjn : Lib.join ((l.map fun t => Lx.bs t.out).map (·.data.toList)) (⟨#[32]⟩ : ByteArray).data.toList = Lx.joinSp (l.map Tok.out) := by rw [hmap]; exact Lx.join_sp _
   have hjl : (Lx.joinSp (l.map Tok.out)).length ≤ 33 * l.length := by
    have := Lx.joinSp_len (l.map Tok.out) (fun x hx => by
     obtain ⟨t, ht, rfl⟩ := List.mem_map.1 hx
     obtain ⟨j, hj⟩ := List.mem_iff_getElem?.1 ht
     exact Lx.valid_out (hall j t hj))
    rwa [List.length_map] at this
   have hcall := cJoin w.heap.size 0 k (l.map fun t => Lx.bs t.out) ⟨#[32]⟩ wr hcells (by omega) (by rw [List.length_map]; omega) (by rw [List.length_map]; omega) (by rw [hjn]; omega)
   rw [hjn, List.length_map, ← Hm.out] at hcall
   have Hcall := Lh hcall; have Htx := Lh htx
   clear hcall htx hjn hjl hcells hmap hall
   go_wp2_with fail
   refine (Hcall.out).mono ?_
   rintro e w1 ⟨rfl, hb1⟩
   have Hb1 := Lh hb1; clear hb1
   go_wp2_with fail
   go_ret2
   refine ⟨Hbel.out.trans (Hb1.out.mono (by omega)), ?_⟩
   rw [Htx.out]
   rfl
end Go.Proofs.YtjonaidancomgaaGreatDoor

namespace Go.Proofs.YtjonaidancomgaaGreatDoor
open Go.RowKit
open Lx (Tok)

theorem lTextOk (A : Option Addr) (c : Nat) (l : List Tok) (s : List UInt8) (w : World) (he : Env w) (h : Toks w w.heap.size A l) (hl : l.length ≤ 65536) (ht : Lx.text l = some s) :
  Calls Tryz.prog 53 #[.slice A l.length c] w fun e w' => e = .returned (.tuple #[.string (Lx.bs s), .int .i64 0]) ∧ Below w.heap.size w w' ∧ Env w' := by
 refine (lText A c l w he h hl).mono fun e w' ⟨hb, h⟩ => ?_
 rw [ht] at h
 exact ⟨h, hb, he.next hb⟩
theorem Toks.first {w : World} {B : Nat} {A : Option Addr} {t : Tok} {l : List Tok} (h : Toks w B A (t :: l)) : ∃ b o, A = some ⟨b, o, none⟩ ∧ b < B ∧ w.cell? ⟨b, o, none⟩ = some (.int .i64 t.kind) ∧ w.cell? ⟨b, o + 1, none⟩ = some (.string (Lx.bs t.text)) ∧ w.cell? ⟨b, o + 2, none⟩ = some (.int .i64 t.n) ∧ w.cell? ⟨b, o + 3, none⟩ = some (.int .i64 t.pos) := by
 obtain ⟨b, o, h1, h2, h3⟩ := h.at_ 0 t rfl
 exact ⟨b, o, h1, h2, by simpa using h3.kind, by simpa using h3.text, by simpa using h3.n, by simpa using h3.pos⟩

end Go.Proofs.YtjonaidancomgaaGreatDoor

namespace Go.Proofs.YtjonaidancomgaaGreatDoor.Lx

theorem step_out {c : UInt8} {r : List UInt8} {t : Tok} {k : Nat} (h : step c r = .tok t k) : t.out = (c :: r).take k ∧ t.out.length = k ∧ k ≤ (c :: r).length ∧ t.pos = 0 := by
 cases h1 : space c
 case true => rw [step_space h1] at h; cases h
 cases h2 : comment (c :: r)
 case true => rw [step_comment h2] at h; cases h
 cases h3 : letter c
 case true =>
  rw [step_letter h3] at h
  split at h
  ·injection h with h h'
   subst h; subst h'
   exact ⟨(take_tw part _).symm, rfl, tw_le part _, rfl⟩
  ·cases h
 cases h4 : figure c
 case true =>
  rw [step_figure h4] at h
  split at h
  ·rename_i n hn
   injection h with h h'
   subst h; subst h'
   obtain ⟨hv, _, hp⟩ := number_val hn
   have e : (⟨2, [], (n : Int), 0⟩ : Tok).out = (c :: r).takeWhile figure := by
    show Lib.decDigits (n : Int).toNat = _
    rw [Int.toNat_natCast, hv]
    exact (digits_eq_iff (tw_all figure _) (by rw [List.takeWhile_cons, if_pos h4]; simp)).2 hp
   rw [e]
   exact ⟨(take_tw figure _).symm, rfl, tw_le figure _, rfl⟩
  ·cases h
 cases h5 : sign c
 case true =>
  rw [step_sign h5 h2] at h
  injection h with h h'
  subst h; subst h'
  exact ⟨rfl, rfl, by simp, rfl⟩
 rw [step_err h1 h3 h4 h5] at h
 cases h

theorem lexN_len : ∀ (f : Nat) (l : List UInt8) (p : Nat) (ts : List Tok), lexN f l p = .ok ts → (joinSp (ts.map Tok.out)).length + 1 ≤ 2 * l.length + 1 ∧ ts.length ≤ l.length
 | f, [], p, ts, h => by
  have : ts = [] := by cases f <;> (simp only [lexN] at h; injection h with h; exact h.symm)
  subst this; simp [joinSp]
 | 0, _ :: _, p, ts, h => by
  simp only [lexN] at h; injection h with h
  subst h; simp [joinSp]
 | f + 1, c :: r, p, ts, h => by
  simp only [lexN] at h
  cases hs : step c r with
  | skip k =>
   rw [hs] at h
   have := lexN_len f _ _ ts h
   rw [List.length_drop] at this
   exact ⟨by omega, by omega⟩
  | err => rw [hs] at h; cases h
  | tok t k =>
   rw [hs] at h
   simp only at h
   cases hr : lexN f ((c :: r).drop k) (p + k) with
   | err q => rw [hr] at h; cases h
   | ok ts' =>
    rw [hr] at h
    simp only [Res.cons] at h
    injection h with h
    subst h
    obtain ⟨h1, h1', h2, _⟩ := step_out hs
    have h3 := step_tok_pos hs
    have h4 := lexN_len f _ _ ts' hr
    rw [List.length_drop] at h4
    have e : ({ t with pos := (p : Int) } : Tok).out = t.out := rfl
    refine ⟨?_, by simp only [List.length_cons] at h4 h2 ⊢; omega⟩
    rw [List.map_cons, e]
    cases ts' with
    | nil => simp only [List.map_nil, joinSp]; omega
    | cons u us =>
     simp only [List.map_cons, joinSp, List.length_append, List.length_cons] at h4 h2 ⊢
     omega
theorem lex_len {l : List UInt8} {ts : List Tok} (h : lex l = .ok ts) : (joinSp (ts.map Tok.out)).length ≤ 2 * l.length ∧ ts.length ≤ l.length := by
 have := lexN_len _ _ _ _ h
 omega
end Go.Proofs.YtjonaidancomgaaGreatDoor.Lx
