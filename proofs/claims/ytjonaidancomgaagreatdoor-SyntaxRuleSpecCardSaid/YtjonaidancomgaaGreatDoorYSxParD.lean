/- Parts of the proof, joined into one text: SxParD, SxParE. -/
import Derived.Test.YtjonaidancomgaaGreatDoorYSxCatch

namespace Go.Proofs.YtjonaidancomgaaGreatDoor
open Go.RowKit

theorem SPar.split {α : Type} {g B : Nat} {last : Int} {w w' : World} {V : α → Value → World → Prop} {r : Sx.R α} {e : Ending} (h : SPar g B last w V r e w') :
  (∃ p x, r = .bad p x ∧ e = .panicked [{ v := .iface 141 (.agg #[.int .i64 p, .int .i64 x]), recovered := false }] ∧ FrG g w w') ∨ (∃ a l v, r = .ok a l ∧ e = .returned v ∧ V a v w' ∧ PS g B last l w' ∧ FrG g w w') := by
 cases r with
 | bad p x => exact .inl ⟨p, x, rfl, h.1, h.2⟩
 | ok a l =>
  obtain ⟨v, h1, h2, h3, h4⟩ := h
  exact .inr ⟨a, l, v, rfl, h1, h2, h3, h4⟩
theorem SPar.of_bad {α : Type} {g B : Nat} {last p x : Int} {w w' : World} {V : α → Value → World → Prop} {r : Sx.R α} (h : r = .bad p x) (hf : FrG g w w') : SPar g B last w V r (.panicked [{ v := .iface 141 (.agg #[.int .i64 p, .int .i64 x]), recovered := false }]) w' := by
 rw [h]; exact ⟨rfl, hf⟩
theorem Sx.go_ok {α β : Type} {r : Sx.R α} {f : α → List Lx.Tok → Sx.R β} {R : Sx.R β} {a : α} {l : List Lx.Tok} (h : R = r.bind f) (hv : r = .ok a l) : R = f a l := by rw [h, hv]; rfl
theorem Sx.go_bad {α β : Type} {r : Sx.R α} {f : α → List Lx.Tok → Sx.R β} {R : Sx.R β} {p x : Int} (h : R = r.bind f) (hv : r = .bad p x) : R = .bad p x := by rw [h, hv]; rfl
theorem Sx.number_ok {last lo hi n : Int} {l r : List Lx.Tok} (h : Sx.number last lo hi l = .ok n r) : lo ≤ n ∧ n ≤ hi := by
 unfold Sx.number at h
 split at h
 ·split at h
  ·rename_i hk
   injection h with h1 h2
   subst h1
   exact hk.2
  ·unfold Sx.fail at h; cases h
 ·unfold Sx.fail at h; cases h
theorem PS.setFar {g B : Nat} {last : Int} {l : List Lx.Tok} {w : World} (h : PS g B last l w) {b : Nat} (hb : g < b) (i : Nat) (u : Value) : PS g B last l (w.setCell ⟨b, i, none⟩ u) := by
 obtain ⟨⟨A, c, h1, h2, h3⟩, hB⟩ := h
 exact ⟨⟨A, c, h1.far (p := ⟨b, i, none⟩) (show g ≠ b by omega) u, h2.below (Below.setCell (Below.refl b w) (show b ≤ (⟨b, i, none⟩ : Addr).block from Nat.le_refl b) u) (by omega), h3⟩, hB⟩
theorem FrG.setFar {g : Nat} {w w' : World} (h : FrG g w w') (hg : g < w.heap.size) {b : Nat} (hb : w.heap.size ≤ b) (i : Nat) (u : Value) : FrG g w (w'.setCell ⟨b, i, none⟩ u) :=
 ⟨h.bel.setCell (show g ≤ b by omega) u, fun k hk hn => (Below.heap_setCell w' ⟨b, i, none⟩ u k (show k ≠ b by omega)).trans (h.keep k hk hn)⟩
theorem FrG.alloc {g : Nat} {w w' : World} (h : FrG g w w') (hg : g < w.heap.size) (o : Obj) : FrG g w (w'.alloc o) := h.trans (FrG.below ((Below.refl _ _).alloc (Nat.le_refl _) o) (by have := h.bel.size; omega))
theorem PS.alloc {g B : Nat} {last : Int} {l : List Lx.Tok} {w : World} (h : PS g B last l w) (o : Obj) : PS g B last l (w.alloc o) := h.next ((Below.refl _ _).alloc (Nat.le_refl _) o)
def vRat (r : Sx.Ratio) (v : Value) (_ : World) : Prop := v = .agg #[.int .i64 r.num, .int .i64 r.den]
def vRef (r : List UInt8 × Int) (v : Value) (_ : World) : Prop := v = .tuple #[strV r.1, .int .i64 r.2] ∧ r.1.length ≤ 140737488351232

set_option maxRecDepth 20000 in
set_option maxHeartbeats 2000000 in
theorem sRatio (g B : Nat) (l : List Lx.Tok) (last : Int) (w : World) (h : PS g B last l w) :
  Calls Tryz.prog 110 #[.pointer (some ⟨g, 0, none⟩)] w (SPar g B last w vRat (Sx.ratio last l)) := by
 obtain ⟨R, hR⟩ : ∃ R, R = Sx.ratio last l := ⟨_, rfl⟩
 rw [← hR]
 have hlt := h.lt
 have hb0 : Below w.heap.size w (w.alloc (.cells #[.int .i64 0, .int .i64 0] 75)) := (Below.refl _ _).alloc (Nat.le_refl _) _
 have H := Lh (h.next hb0); have HR := Lh hR; have HF := Lh (FrG.below hb0 hlt)
 have X := Lh (Blk.new w 75 #[.int .i64 0, .int .i64 0])
 clear h hR hb0
 go_enter Tryz.func110, Tryz.ntmps110
 go_wp2_with fail
 refine (sNumber g B l last 0 12000 _ H.out).mono ?_
 intro e w1 he
 rcases he.split with ⟨p, x, hv, rfl, hf⟩ | ⟨n, l1, v, hv, rfl, hV, hs, hf⟩
 ·exact ⟨rfl, SPar.of_bad (Sx.go_bad HR.out hv) (HF.out.trans hf)⟩
 ·unfold vInt at hV
  subst hV
  replace HR := Lh (Sx.go_ok HR.out hv)
  obtain ⟨hn1, hn2⟩ := Sx.number_ok hv
  obtain ⟨z, rfl⟩ := Int.eq_ofNat_of_zero_le hn1
  have HS := Lh hs; have HF1 := Lh (HF.out.trans hf); have X1 := Lh (hf.blk X.out (by omega))
  clear hv hs hf
  go_wp2_with fail
  refine (sSign g B l1 last 47 _ HS.out).mono ?_
  intro e w2 he
  rcases he.split with ⟨p, x, hv, rfl, hf⟩ | ⟨u, l2, v, hv, rfl, hV, hs, hf⟩
  ·exact ⟨rfl, SPar.of_bad (Sx.go_bad HR.out hv) (HF1.out.trans hf)⟩
  ·unfold vUnit at hV
   subst hV
   replace HR := Lh (Sx.go_ok HR.out hv)
   have HS2 := Lh hs; have HF2 := Lh (HF1.out.trans hf); have X2 := Lh (hf.blk X1.out (by omega))
   clear hv hs hf
   go_wp2_with fail
   refine (sNumber g B l2 last (max 1 (((z : Int) + 12 - 1) / 12)) 1000 _ HS2.out).mono ?_
   intro e w3 he
   have hm : ((z : Int) + 12 - 1) / 12 = ((z : Int) + 11) / 12 := by omega
   rw [hm] at he
   clear hm
   rcases he.split with ⟨p, x, hv, rfl, hf⟩ | ⟨d, l3, v, hv, rfl, hV, hs, hf⟩
   ·exact ⟨rfl, SPar.of_bad (Sx.go_bad HR.out hv) (HF2.out.trans hf)⟩
   ·unfold vInt at hV
    subst hV
    replace HR := Lh (Sx.go_ok HR.out hv)
    obtain ⟨hd1, hd2⟩ := Sx.number_ok hv
    have hd3 : 1 ≤ d := by have := Int.le_max_left 1 (((z : Int) + 11) / 12); omega
    obtain ⟨y, rfl⟩ := Int.eq_ofNat_of_zero_le (show 0 ≤ d by omega)
    have HS3 := Lh hs; have HF3 := Lh (HF2.out.trans hf); have X3 := Lh (hf.blk X2.out (by omega))
    have Hnew := Lh (sNew z y (by omega) (by omega) (by omega) w3)
    have hsz := hf.bel.size; have hsz2 := X2.out.lt
    clear hv hs hf hd1
    go_wp2_with fail
    refine Hnew.out.mono ?_
    rintro e w4 ⟨rfl, hb⟩
    have x4 := X3.out.below hb X3.out.lt
    have hs4 := HS3.out.next hb
    have hf4 := HF3.out.trans (FrG.below hb HS3.out.lt)
    obtain ⟨q, hq⟩ : ∃ q, q = Sx.lowest z y := ⟨_, rfl⟩
    rw [← hq] at HR ⊢
    have HS4 := Lh hs4; have HF4 := Lh hf4; have X4 := Lh x4
    have x0 := x4.cell 0; have x1 := x4.cell 1; have f0 := x4.free 0; have f1 := x4.free 1
    simp at x0 x1
    have hw4 := x4.lt
    clear hb x4 hs4 hf4 hq
    go_wp2_with fail
    try simp only [Exit.inBlock, Exit.then]
    obtain ⟨W, hW⟩ : ∃ W, W = ((w4.setCell ⟨w.heap.size, 0, none⟩ (.int .i64 q.num)).setCell ⟨w.heap.size, 1, none⟩ (.int .i64 q.den)).alloc (.cells #[.int .i64 q.num, .int .i64 q.den] 75) := ⟨_, rfl⟩
    have hB : Blk W w.heap.size 75 #[.int .i64 q.num, .int .i64 q.den] := by
     rw [hW]
     have := ((X4.out.set 0 (.int .i64 q.num)).set 1 (.int .i64 q.den)).alloc (.cells #[.int .i64 q.num, .int .i64 q.den] 75)
     simpa using this
    have hS : PS g B last l3 W := by rw [hW]; exact ((HS4.out.setFar hlt 0 _).setFar hlt 1 _).alloc _
    have hF : FrG g w W := by rw [hW]; exact ((HF4.out.setFar hlt (Nat.le_refl _) 0 _).setFar hlt (Nat.le_refl _) 1 _).alloc hlt _
    have d0 := hB.cell 0; have d1 := hB.cell 1
    simp at d0 d1
    rw [← hW]
    clear hW
    exact bodyPost_ret (v := .agg #[.int .i64 q.num, .int .i64 q.den]) (by simp [results, Tryz.results110, go_sem, d0, d1]) rfl (by rw [HR.out]; exact ⟨_, rfl, rfl, hS, hF⟩)

set_option maxRecDepth 20000 in
set_option maxHeartbeats 2000000 in
theorem sRef (g B : Nat) (l : List Lx.Tok) (last : Int) (w : World) (h : PS g B last l w) :
  Calls Tryz.prog 108 #[.pointer (some ⟨g, 0, none⟩)] w (SPar g B last w vRef (Sx.ref last l)) := by
 obtain ⟨R, hR⟩ : ∃ R, R = Sx.ref last l := ⟨_, rfl⟩
 rw [← hR]
 unfold Sx.ref at hR
 have Hs := Lh (sIsSign g B l last ⟨#[35]⟩ w h)
 rw [show (⟨#[35]⟩ : ByteArray).data.toList = [35] from rfl] at Hs
 clear h
 cases hh : Sx.hit 3 [35] l with
 | true =>
  rw [hh, if_pos rfl] at hR
  rw [hh] at Hs
  have HR := Lh hR
  clear hR hh
  go_enter Tryz.func108, Tryz.ntmps108
  go_wp2_with fail
  refine Hs.out.mono ?_
  rintro e w1 ⟨rfl, h1, h2⟩
  have H1 := Lh h1; have H2 := Lh h2
  clear h1 h2
  go_wp2_with fail
  refine (sNumber g B l.tail last 0 4095 _ H1.out).mono ?_
  intro e w2 he
  rcases he.split with ⟨p, x, hv, rfl, hf⟩ | ⟨n, l1, v, hv, rfl, hV, hs, hf⟩
  ·exact ⟨rfl, SPar.of_bad (Sx.go_bad HR.out hv) (H2.out.trans hf)⟩
  ·unfold vInt at hV
   subst hV
   replace HR := Lh (Sx.go_ok HR.out hv)
   have HS := Lh hs; have HF := Lh (H2.out.trans hf)
   clear hv hs hf he
   go_wp2_with fail
   go_ret2
   rw [HR.out]
   exact ⟨_, rfl, ⟨rfl, by simp⟩, HS.out, HF.out⟩
 | false =>
  rw [hh, if_neg (by simp)] at hR
  rw [hh] at Hs
  have HR := Lh hR
  clear hR hh
  go_enter Tryz.func108, Tryz.ntmps108
  go_wp2_with fail
  refine Hs.out.mono ?_
  rintro e w1 ⟨rfl, h1, h2⟩
  have H1 := Lh h1; have H2 := Lh h2
  clear h1 h2
  go_wp2_with fail
  refine (sName g B l last _ H1.out).mono ?_
  intro e w2 he
  rcases he.split with ⟨p, x, hv, rfl, hf⟩ | ⟨n, l1, v, hv, rfl, hV, hs, hf⟩
  ·exact ⟨rfl, SPar.of_bad (Sx.go_bad HR.out hv) (H2.out.trans hf)⟩
  ·obtain ⟨hV, hnl⟩ := hV
   subst hV
   replace HR := Lh (Sx.go_ok HR.out hv)
   have HS := Lh hs; have HF := Lh (H2.out.trans hf)
   clear hv hs hf he
   go_wp2_with fail
   go_ret2
   rw [HR.out]
   exact ⟨_, rfl, ⟨rfl, hnl⟩, HS.out, HF.out⟩
end Go.Proofs.YtjonaidancomgaaGreatDoor

namespace Go.Proofs.YtjonaidancomgaaGreatDoor
open Go.RowKit

structure WordsAt (w : World) (N b o : Nat) (ws : List (List UInt8)) : Prop where
 lt : b < N
 at_ : ∀ i x, ws[i]? = some x → w.cell? ⟨b, o + i, none⟩ = some (strV x)
theorem WordsAt.keep {w w' : World} {N b o : Nat} {ws : List (List UInt8)} (h : WordsAt w N b o ws) (hb : Below N w w') : WordsAt w' N b o ws := ⟨h.lt, fun i x hx => (hb.cell (p := ⟨b, o + i, none⟩) h.lt).trans (h.at_ i x hx)⟩
def GlobAt (w : World) (N gi : Nat) (ws : List (List UInt8)) : Prop := ∃ b o c, w.cell? ⟨gi, 0, none⟩ = some (.slice (some ⟨b, o, none⟩) ws.length c) ∧ gi < N ∧ WordsAt w N b o ws
theorem GlobAt.keep {w w' : World} {N gi : Nat} {ws : List (List UInt8)} (h : GlobAt w N gi ws) (hb : Below N w w') : GlobAt w' N gi ws := by
 obtain ⟨b, o, c, h1, h2, h3⟩ := h
 exact ⟨b, o, c, (hb.cell (p := ⟨gi, 0, none⟩) h2).trans h1, h2, h3.keep hb⟩
structure EnvS (N : Nat) (w : World) : Prop where
 env : Env w
 size : N ≤ w.heap.size
 lib : 10 + 1 ≤ N
 rule : GlobAt w N 3 Sx.ruleWords
 kind : GlobAt w N 0 Sx.kindWords
 when_ : GlobAt w N 1 Sx.whenWords
 action : GlobAt w N 2 Sx.actionWords
 rep : GlobAt w N 4 Sx.repeatWords
theorem EnvS.keep {N : Nat} {w w' : World} (h : EnvS N w) (hb : Below N w w') : EnvS N w' := ⟨h.env.below hb h.lib, Nat.le_trans h.size hb.size, h.lib, h.rule.keep hb, h.kind.keep hb, h.when_.keep hb, h.action.keep hb, h.rep.keep hb⟩
theorem EnvS.next {N : Nat} {w w' : World} (h : EnvS N w) (hb : Below w.heap.size w w') : EnvS N w' := h.keep (hb.mono h.size)
theorem EnvS.fr {N g : Nat} {w w' : World} (h : EnvS N w) (hf : FrG g w w') (hN : N ≤ g) : EnvS N w' := h.keep (hf.bel.mono hN)

def ChoicePost (g B : Nat) (last : Int) (ws : List (List UInt8)) (l : List Lx.Tok) (w : World) (e : Ending) (w' : World) : Prop :=
 match Sx.find ws l with
 | some i => e = .returned (.int .i64 (i : Nat)) ∧ PS g B last l.tail w' ∧ FrG g w w'
 | none => e = .returned (.int .i64 (-1)) ∧ PS g B last l w' ∧ FrG g w w'
theorem Sx.find_some {ws : List (List UInt8)} {l : List Lx.Tok} {k : Nat} {x : List UInt8} (hx : ws[k]? = some x) (hh : Sx.hit 1 x l = true) (hno : ∀ j, j < k → ∀ y, ws[j]? = some y → Sx.hit 1 y l = false) : Sx.find ws l = some k := by
 unfold Sx.find
 obtain ⟨hlt, he⟩ := List.getElem?_eq_some_iff.1 hx
 rw [List.findIdx?_eq_some_iff_getElem]
 refine ⟨hlt, by rw [he]; exact hh, fun j hj => ?_⟩
 have := hno j hj ws[j] (List.getElem?_eq_getElem (by omega))
 simp [this]
theorem Sx.find_none {ws : List (List UInt8)} {l : List Lx.Tok} (hno : ∀ (j : Nat) y, ws[j]? = some y → Sx.hit 1 y l = false) : Sx.find ws l = none := by
 unfold Sx.find
 rw [List.findIdx?_eq_none_iff]
 intro y hy
 obtain ⟨j, hj⟩ := List.mem_iff_getElem?.1 hy
 exact hno j y hj

set_option maxRecDepth 20000 in
set_option maxHeartbeats 2000000 in
theorem sChoice (g B N b o c : Nat) (ws : List (List UInt8)) (l : List Lx.Tok) (last : Int) (w : World) (h : PS g B last l w) (hw : WordsAt w N b o ws) (hN : N ≤ g) (hlen : ws.length ≤ 100) :
  Calls Tryz.prog 158 #[.pointer (some ⟨g, 0, none⟩), .slice (some ⟨b, o, none⟩) ws.length c] w (ChoicePost g B last ws l w) := by
 obtain ⟨n, hn⟩ : ∃ n, n = ws.length := ⟨_, rfl⟩
 rw [← hn] at hlen ⊢
 have H := Lh h; have HW := Lh hw; have Hn := Lh hn
 have hlt := h.lt; have hbN := hw.lt
 clear h hw hn
 go_enter Tryz.func158, Tryz.ntmps158
 go_wp2_with fail
 go_loopw [9] (fun v9 wr => ∃ k : Nat, k ≤ n ∧ v9 = .int .i64 k ∧ Hid (PS g B last l wr) ∧ Hid (FrG g w wr) ∧ Hid (∀ j, j < k → ∀ y, ws[j]? = some y → Sx.hit 1 y l = false)) (fun v9 _ => n - (intOf v9).toNat)
 case atStart => exact ⟨0, by omega, rfl, H, Lh (FrG.refl _ _), Lh (fun j hj => absurd hj (Nat.not_lt_zero j))⟩
 case round =>
  obtain ⟨k, hk, rfl, HS, HF, Hno⟩ := hrel
  by_cases hkn : k < n
  ·obtain ⟨x, hx⟩ : ∃ x, ws[k]? = some x := ⟨_, List.getElem?_eq_getElem (by have := Hn.out; omega)⟩
   have hc := (HW.out.keep (HF.out.bel.mono hN)).at_ k x hx
   unfold strV at hc
   have Hs := Lh (sIsWord g B l last (Lx.bs x) wr HS.out)
   rw [Lx.bs_list] at Hs
   have Hx := Lh hx
   clear hx
   cases hh : Sx.hit 1 x l with
   | true =>
    rw [hh] at Hs
    have Hh := Lh hh
    clear hh
    go_wp2_with fail
    refine Hs.out.mono ?_
    rintro e w1 ⟨rfl, h1, h2⟩
    have H1 := Lh h1; have H2 := Lh (HF.out.trans h2)
    clear h1 h2 hc
    go_wp2_with fail
    go_ret
    unfold ChoicePost
    rw [Sx.find_some Hx.out Hh.out Hno.out]
    exact ⟨rfl, H1.out, H2.out⟩
   | false =>
    rw [hh] at Hs
    have Hh := Lh hh
    clear hh
    go_wp2_with fail
    refine Hs.out.mono ?_
    rintro e w1 ⟨rfl, h1, h2⟩
    have H1 := Lh h1; have H2 := Lh (HF.out.trans h2)
    clear h1 h2 hc
    go_wp2_with fail
    go_roundw
    case rel => exact ⟨k + 1, by omega, by go_num, H1, H2, Lh (fun j hj z hz => by
     rcases Nat.lt_or_ge j k with h1 | h1
     ·exact Hno.out j h1 z hz
     ·obtain rfl : j = k := by omega
      rw [Hx.out] at hz; injection hz with hz; rw [← hz]; exact Hh.out)⟩
    case measure => simp [intOf]; omega
  ·obtain rfl : k = n := by omega
   have hf : Sx.find ws l = none := Sx.find_none (fun j y hy => Hno.out j (by have := (List.getElem?_eq_some_iff.1 hy).1; have := Hn.out; omega) y hy)
   have Hf := Lh hf
   clear hf
   go_wp2_with fail
   go_ret
   unfold ChoicePost
   rw [Hf.out]
   exact ⟨rfl, HS.out, HF.out⟩
theorem sOneOf (g B N b o c : Nat) (ws : List (List UInt8)) (l : List Lx.Tok) (last : Int) (w : World) (h : PS g B last l w) (hw : WordsAt w N b o ws) (hN : N ≤ g) (hlen : ws.length ≤ 100) :
  Calls Tryz.prog 107 #[.pointer (some ⟨g, 0, none⟩), .slice (some ⟨b, o, none⟩) ws.length c] w (SPar g B last w vInt (Sx.oneOf last ws l)) := by
 have Hc := Lh (sChoice g B N b o c ws l last w h hw hN hlen)
 obtain ⟨R, hR⟩ : ∃ R, R = Sx.oneOf last ws l := ⟨_, rfl⟩
 rw [← hR]
 unfold Sx.oneOf at hR
 unfold ChoicePost at Hc
 clear h hw
 cases hf : Sx.find ws l with
 | some i =>
  rw [hf] at Hc hR
  have HR := Lh hR
  clear hR hf
  go_enter Tryz.func107, Tryz.ntmps107
  go_wp2_with fail
  refine Hc.out.mono ?_
  rintro e w1 ⟨rfl, h1, h2⟩
  have H1 := Lh h1; have H2 := Lh h2
  clear h1 h2
  go_wp2_with fail
  go_ret
  rw [HR.out]
  exact ⟨_, rfl, rfl, H1.out, H2.out⟩
 | none =>
  rw [hf] at Hc hR
  have HR := Lh hR
  clear hR hf
  go_enter Tryz.func107, Tryz.ntmps107
  go_wp2_with fail
  refine Hc.out.mono ?_
  rintro e w1 ⟨rfl, h1, h2⟩
  have H2 := Lh h2
  have Hf := Lh (sFail g B l last 100 w1 h1)
  clear h1 h2
  go_wp2_with fail
  refine Hf.out.mono ?_
  rintro e w2 ⟨he, rfl⟩
  unfold FailS at he
  subst he
  exact ⟨rfl, by rw [HR.out]; exact ⟨rfl, H2.out⟩⟩
end Go.Proofs.YtjonaidancomgaaGreatDoor
