/- Parts of the proof, joined into one text: RpParB, RpParC. -/
import Derived.Test.YtjonaidancomgaaGreatDoorYSxSanC
import Derived.Deep.Cut

namespace Go.Proofs.YtjonaidancomgaaGreatDoor
open Go.RowKit

theorem pbox (w : World) (c0 c1 c2 c3 c4 : Value) : ∃ W1 W2 : World, W1 = w.alloc (.cells #[c0, c1, c2, c3, c4] 64) ∧ W2 = W1.alloc (.cells #[.slice none 0 0, .int .i64 0, .int .i64 0, .int .i64 0, .int .i64 0] 64) ∧
  Blk W2 w.heap.size 64 #[c0, c1, c2, c3, c4] ∧ Blk W2 (w.heap.size + 1) 64 #[.slice none 0 0, .int .i64 0, .int .i64 0, .int .i64 0, .int .i64 0] ∧ Below w.heap.size w W2 ∧ W2.heap.size = w.heap.size + 2 := by
 refine ⟨_, _, rfl, rfl, ((Blk.new w _ _).alloc _), ?_, ?_, by simp⟩
 ·have := Blk.new (w.alloc (.cells #[c0, c1, c2, c3, c4] 64)) 64 #[.slice none 0 0, .int .i64 0, .int .i64 0, .int .i64 0, .int .i64 0]
  simpa using this
 ·exact ((Below.refl _ _).alloc (Nat.le_refl _) _).alloc (by simp) _
theorem cells5 {w : World} {b : Nat} {t : TypeId} {v0 v1 v2 v3 v4 : Value} (h : Blk w b t #[v0, v1, v2, v3, v4]) : w.cell? ⟨b, 0, none⟩ = some v0 ∧ w.cell? ⟨b, 1, none⟩ = some v1 ∧ w.cell? ⟨b, 2, none⟩ = some v2 ∧ w.cell? ⟨b, 3, none⟩ = some v3 ∧ w.cell? ⟨b, 4, none⟩ = some v4 ∧ b < w.heap.size :=
 ⟨(h.cell 0).trans rfl, (h.cell 1).trans rfl, (h.cell 2).trans rfl, (h.cell 3).trans rfl, (h.cell 4).trans rfl, h.lt⟩
theorem frees5 {w : World} {b : Nat} {t : TypeId} {cs : Array Value} (h : Blk w b t cs) : w.frozen? ⟨b, 0, none⟩ = false ∧ w.frozen? ⟨b, 1, none⟩ = false ∧ w.frozen? ⟨b, 2, none⟩ = false ∧ w.frozen? ⟨b, 3, none⟩ = false ∧ w.frozen? ⟨b, 4, none⟩ = false := ⟨h.free 0, h.free 1, h.free 2, h.free 3, h.free 4⟩
theorem pstore {w : World} {b : Nat} {z0 z1 z2 z3 z4 : Value} (h : Blk w b 64 #[z0, z1, z2, z3, z4]) (a0 a1 a2 a3 a4 : Value) : ∃ W : World, W = ((((w.setCell ⟨b, 0, none⟩ a0).setCell ⟨b, 1, none⟩ a1).setCell ⟨b, 2, none⟩ a2).setCell ⟨b, 3, none⟩ a3).setCell ⟨b, 4, none⟩ a4 ∧
  (W.cell? ⟨b, 0, none⟩ = some a0 ∧ W.cell? ⟨b, 1, none⟩ = some a1 ∧ W.cell? ⟨b, 2, none⟩ = some a2 ∧ W.cell? ⟨b, 3, none⟩ = some a3 ∧ W.cell? ⟨b, 4, none⟩ = some a4 ∧ b < W.heap.size) ∧ ∀ (B : Nat) (w0 : World), Below B w0 w → B ≤ b → Below B w0 W := by
 refine ⟨_, rfl, ?_, fun B w0 hb hB => ((((hb.setCell (p := ⟨b, 0, none⟩) hB a0).setCell (p := ⟨b, 1, none⟩) hB a1).setCell (p := ⟨b, 2, none⟩) hB a2).setCell (p := ⟨b, 3, none⟩) hB a3).setCell (p := ⟨b, 4, none⟩) hB a4⟩
 have := ((((h.set 0 a0).set 1 a1).set 2 a2).set 3 a3).set 4 a4
 exact cells5 (by simpa using this)
section
variable {T : List Lx.Tok} {A : Option Addr} {c : Nat} {last k e p : Int} {s : Sx.R Unit} {w : World}
set_option maxRecDepth 20000 in
set_option maxHeartbeats 1000000 in
theorem pW (T : List Lx.Tok) (A : Option Addr) (c : Nat) (last : Int) (x : ByteArray) (s : Sx.R Unit) (k e p : Int) (w : World) (hc : PCtx T A w) (hp : PAt T s k e p) :
  Calls Tryz.prog 31 #[pv A T.length c k last e p, .string x] w (BoolPost (s.hits 1 x.data.toList) w) := by
 have Hcall := Lh (fun w' h => pIs T A c last 1 x s k e p w' h hp)
 obtain ⟨n, hn⟩ : ∃ n, n = T.length := ⟨_, rfl⟩
 rw [← hn] at Hcall ⊢
 have HC := Lh hc
 unfold pv at Hcall ⊢
 obtain ⟨W1, hW1⟩ : ∃ W1, W1 = w.alloc (.cells #[.slice A n c, .int .i64 k, .int .i64 last, .int .i64 e, .int .i64 p] 64) := ⟨_, rfl⟩
 have HB := Lh (show Below w.heap.size w W1 by rw [hW1]; exact (Below.refl _ _).alloc (Nat.le_refl _) _)
 clear hc hp hn
 go_enter Tryz.func31, Tryz.ntmps31
 go_wp2_with fail
 rw [← hW1]
 refine (Hcall.out _ (HC.out.next HB.out)).mono ?_
 rintro e' w1 ⟨rfl, hb⟩
 have HB1 := Lh (HB.out.trans (hb.mono HB.out.size))
 clear hb
 go_wp2_with fail
 go_ret
 exact ⟨rfl, HB1.out⟩
set_option maxRecDepth 20000 in
set_option maxHeartbeats 1000000 in
theorem pS (T : List Lx.Tok) (A : Option Addr) (c : Nat) (last : Int) (x : ByteArray) (s : Sx.R Unit) (k e p : Int) (w : World) (hc : PCtx T A w) (hp : PAt T s k e p) :
  Calls Tryz.prog 114 #[pv A T.length c k last e p, .string x] w (BoolPost (s.hits 3 x.data.toList) w) := by
 have Hcall := Lh (fun w' h => pIs T A c last 3 x s k e p w' h hp)
 obtain ⟨n, hn⟩ : ∃ n, n = T.length := ⟨_, rfl⟩
 rw [← hn] at Hcall ⊢
 have HC := Lh hc
 unfold pv at Hcall ⊢
 obtain ⟨W1, hW1⟩ : ∃ W1, W1 = w.alloc (.cells #[.slice A n c, .int .i64 k, .int .i64 last, .int .i64 e, .int .i64 p] 64) := ⟨_, rfl⟩
 have HB := Lh (show Below w.heap.size w W1 by rw [hW1]; exact (Below.refl _ _).alloc (Nat.le_refl _) _)
 clear hc hp hn
 go_enter Tryz.func114, Tryz.ntmps114
 go_wp2_with fail
 rw [← hW1]
 refine (Hcall.out _ (HC.out.next HB.out)).mono ?_
 rintro e' w1 ⟨rfl, hb⟩
 have HB1 := Lh (HB.out.trans (hb.mono HB.out.size))
 clear hb
 go_wp2_with fail
 go_ret
 exact ⟨rfl, HB1.out⟩
set_option maxRecDepth 20000 in
set_option maxHeartbeats 1000000 in
theorem pExpect (T : List Lx.Tok) (A : Option Addr) (c : Nat) (last kd : Int) (x : ByteArray) (s : Sx.R Unit) (k e p : Int) (w : World) (hc : PCtx T A w) (hp : PAt T s k e p) :
  Calls Tryz.prog 170 #[pv A T.length c k last e p, .int .i64 kd, .string x] w (PPost T A c last (Sx.go s (Sx.need last kd x.data.toList)) w) := by
 have Hcall := Lh (fun w' h => pIs T A c last kd x s k e p w' h hp)
 have Hfail := Lh (fun w' h => pFail T A c last 100 (by decide) s k e p w' h hp)
 have hlen := hc.toks.len
 obtain ⟨R, hR⟩ : ∃ R, R = Sx.go s (Sx.need last kd x.data.toList) := ⟨_, rfl⟩
 rw [← hR]
 have HC := Lh hc
 cases hh : s.hits kd x.data.toList with
 | false =>
  rw [hh] at Hcall
  rw [Sx.go_need_no hh] at hR
  rw [← hR] at Hfail
  obtain ⟨n, hn⟩ : ∃ n, n = T.length := ⟨_, rfl⟩
  unfold PPost at Hfail ⊢
  rw [← hn] at Hcall Hfail hlen ⊢
  unfold pv at Hcall Hfail ⊢
  obtain ⟨W1, W2, hW1, hW2, p1, p2, hb, hsz⟩ := pbox w (.slice A n c) (.int .i64 k) (.int .i64 last) (.int .i64 e) (.int .i64 p)
  have HB := Lh hb; have HP := Lh p1; have HQ := Lh p2
  obtain ⟨x0, x1, x2, x3, x4, xz⟩ := cells5 p1
  clear hc hp hn hR hh hb p1 p2
  go_enter Tryz.func170, Tryz.ntmps170
  go_upto_region 1 with fail
  rw [← hW1, ← hW2]
  clear hW1 hW2
  go_wp2_with fail
  refine (Hcall.out _ (HC.out.next HB.out)).mono ?_
  rintro e' w1 ⟨rfl, hb⟩
  have HB1 := Lh (HB.out.trans (hb.mono HB.out.size)); have HP1 := Lh (HP.out.below hb xz); have HQ1 := Lh (HQ.out.below hb (by omega))
  have hg := hb.size
  clear hb x0 x1 x2 x3 x4 xz
  obtain ⟨x0, x1, x2, x3, x4, xz⟩ := cells5 HP1.out
  go_wp2_with fail
  refine (Hfail.out _ (HC.out.next HB1.out)).mono ?_
  rintro e' w2 ⟨k', x', p', rfl, ha, hb⟩
  have HB2 := Lh (HB1.out.trans (hb.mono HB1.out.size)); have HQ2 := Lh (HQ1.out.below hb (by omega)); have HA := Lh ha
  obtain ⟨y0, y1, y2, y3, y4, yz⟩ := cells5 HQ2.out
  obtain ⟨f0, f1, f2, f3, f4⟩ := frees5 HQ2.out
  clear hb ha x0 x1 x2 x3 x4 xz
  obtain ⟨W9, hW9, t, hb9⟩ := pstore HQ2.out (.slice A n c) (.int .i64 k') (.int .i64 last) (.int .i64 x') (.int .i64 p')
  have HB9 := Lh (hb9 w.heap.size w HB2.out (by omega)); have HT := Lh t; have HW9 := Lh hW9
  clear t hb9 hW9
  go_wp2_with fail
  rw [← HW9.out]
  obtain ⟨t0, t1, t2, t3, t4, tz⟩ := HT.out
  refine bodyPost_ret (v := pv A n c k' last x' p') (by simp [results, Tryz.results170, go_sem, pv, t0, t1, t2, t3, t4]) rfl ⟨_, _, _, rfl, HA.out, HB9.out⟩
 | true =>
  rw [hh] at Hcall
  obtain ⟨l, rfl, h1, h2⟩ := Sx.hits_need (last := last) s hh
  rw [h2] at hR
  obtain ⟨t, r, rfl⟩ : ∃ t r, l = t :: r := by cases l with
   | nil => cases h1
   | cons t r => exact ⟨t, r, rfl⟩
  rcases hp.cases with ⟨h, _⟩ | ⟨h, _⟩ | ⟨j, t', h, rfl, rfl, rfl, hj, _⟩
  ·cases h
  ·cases h
  injection h with _ h
  injection h with _ h
  have HR := Lh (show PAt T R ((j : Int) + 1) 0 0 by rw [hR, List.tail_cons, h]; exact PAt.tail hj)
  obtain ⟨n, hn⟩ : ∃ n, n = T.length := ⟨_, rfl⟩
  unfold PPost
  rw [← hn] at Hcall hlen hj ⊢
  unfold pv at Hcall ⊢
  obtain ⟨W1, W2, hW1, hW2, p1, p2, hb, hsz⟩ := pbox w (.slice A n c) (.int .i64 j) (.int .i64 last) (.int .i64 0) (.int .i64 0)
  have HB := Lh hb; have HP := Lh p1; have HQ := Lh p2
  obtain ⟨x0, x1, x2, x3, x4, xz⟩ := cells5 p1
  clear hc hp hn hR hh hb p1 p2 Hfail h h1 h2
  go_enter Tryz.func170, Tryz.ntmps170
  go_upto_region 1 with fail
  rw [← hW1, ← hW2]
  clear hW1 hW2
  go_wp2_with fail
  refine (Hcall.out _ (HC.out.next HB.out)).mono ?_
  rintro e' w1 ⟨rfl, hb⟩
  have HB1 := Lh (HB.out.trans (hb.mono HB.out.size)); have HP1 := Lh (HP.out.below hb xz); have HQ1 := Lh (HQ.out.below hb (by omega))
  have hg := hb.size
  clear hb x0 x1 x2 x3 x4 xz
  obtain ⟨x0, x1, x2, x3, x4, xz⟩ := cells5 HP1.out
  obtain ⟨e0, e1, e2, e3, e4⟩ := frees5 HP1.out
  obtain ⟨y0, y1, y2, y3, y4, yz⟩ := cells5 HQ1.out
  obtain ⟨f0, f1, f2, f3, f4⟩ := frees5 HQ1.out
  obtain ⟨W9, hW9, t, hb9⟩ := pstore (HQ1.out.far (p := ⟨w.heap.size, 1, none⟩) (by simp) (.int .i64 ((j : Int) + 1))) (.slice A n c) (.int .i64 ((j : Int) + 1)) (.int .i64 last) (.int .i64 0) (.int .i64 0)
  have HB9 := Lh (hb9 w.heap.size w (HB1.out.setCell (Nat.le_refl _) _) (by omega)); have HT := Lh t; have HW9 := Lh hW9
  clear t hb9 hW9
  go_wp2_with fail
  rw [← HW9.out]
  obtain ⟨t0, t1, t2, t3, t4, tz⟩ := HT.out
  refine bodyPost_ret (v := pv A n c ((j : Int) + 1) last 0 0) (by simp [results, Tryz.results170, go_sem, pv, t0, t1, t2, t3, t4]) rfl ⟨_, _, _, rfl, HR.out, HB9.out⟩
end
end Go.Proofs.YtjonaidancomgaaGreatDoor

namespace Go.Proofs.YtjonaidancomgaaGreatDoor
open Go.RowKit

set_option maxRecDepth 20000 in
set_option maxHeartbeats 1000000 in
theorem pSign (T : List Lx.Tok) (A : Option Addr) (c : Nat) (last : Int) (x : ByteArray) (s : Sx.R Unit) (k e p : Int) (w : World) (hc : PCtx T A w) (hp : PAt T s k e p) :
    Calls Tryz.prog 96 #[pv A T.length c k last e p, .string x] w (PPost T A c last (Sx.go s (Sx.need last 3 x.data.toList)) w) := by
  have Hcall := Lh (fun w' h => pExpect T A c last 3 x s k e p w' h hp)
  obtain ⟨n, hn⟩ : ∃ n, n = T.length := ⟨_, rfl⟩
  obtain ⟨R, hR⟩ : ∃ R, R = Sx.go s (Sx.need last 3 x.data.toList) := ⟨_, rfl⟩
  unfold PPost at Hcall ⊢
  rw [← hR] at Hcall ⊢
  rw [← hn] at Hcall ⊢
  have HC := Lh hc
  unfold pv at Hcall ⊢
  obtain ⟨W1, W2, hW1, hW2, p1, p2, hb, hsz⟩ := pbox w (.slice A n c) (.int .i64 k) (.int .i64 last) (.int .i64 e) (.int .i64 p)
  have HB := Lh hb; have HQ := Lh p2
  obtain ⟨x0, x1, x2, x3, x4, xz⟩ := cells5 p1
  clear hc hp hn hR hb p1 p2
  go_enter Tryz.func96, Tryz.ntmps96
  go_upto_region 1 with fail
  rw [← hW1, ← hW2]
  clear hW1 hW2
  go_wp2_with fail
  refine (Hcall.out _ (HC.out.next HB.out)).mono ?_
  rintro e' w2 ⟨k', x', p', rfl, ha, hb⟩
  have hg := hb.size
  have HB2 := Lh (HB.out.trans (hb.mono HB.out.size)); have HQ2 := Lh (HQ.out.below hb (by omega)); have HA := Lh ha
  obtain ⟨y0, y1, y2, y3, y4, yz⟩ := cells5 HQ2.out
  obtain ⟨f0, f1, f2, f3, f4⟩ := frees5 HQ2.out
  obtain ⟨W9, hW9, t, hb9⟩ := pstore HQ2.out (.slice A n c) (.int .i64 k') (.int .i64 last) (.int .i64 x') (.int .i64 p')
  have HB9 := Lh (hb9 w.heap.size w HB2.out (by omega)); have HT := Lh t; have HW9 := Lh hW9
  clear hb ha x0 x1 x2 x3 x4 xz t hb9 hW9
  go_wp2_with fail
  rw [← HW9.out]
  obtain ⟨t0, t1, t2, t3, t4, tz⟩ := HT.out
  exact bodyPost_ret (v := pv A n c k' last x' p') (by simp [results, Tryz.results96, go_sem, pv, t0, t1, t2, t3, t4]) rfl ⟨_, _, _, rfl, HA.out, HB9.out⟩
theorem pSg (T : List Lx.Tok) (A : Option Addr) (c : Nat) (last : Int) (x : UInt8) (s : Sx.R Unit) (k e p : Int) (w : World) (hc : PCtx T A w) (hp : PAt T s k e p) :
    Calls Tryz.prog 96 #[pv A T.length c k last e p, .string ⟨#[x]⟩] w (PPost T A c last (Sx.go s (Sx.sign last x)) w) := pSign T A c last ⟨#[x]⟩ s k e p w hc hp
def vStrs (_ : World) (a : List UInt8) (vs : List Value) : Prop := vs = [strV a] ∧ a.length ≤ 140737488351232
def vInts (_ : World) (a : Int) (vs : List Value) : Prop := vs = [intV a]
set_option maxRecDepth 20000 in
set_option maxHeartbeats 1000000 in
theorem pName (T : List Lx.Tok) (A : Option Addr) (c : Nat) (last : Int) (s : Sx.R Unit) (k e p : Int) (w : World) (hc : PCtx T A w) (hp : PAt T s k e p) :
    Calls Tryz.prog 95 #[pv A T.length c k last e p] w (PRead T A c last vStrs (Sx.go s (Sx.name last)) w) := by
  have Hfail := Lh (fun w' h => pFail T A c last 100 (by decide) s k e p w' h hp)
  have hlen := hc.toks.len
  obtain ⟨R, hR⟩ : ∃ R, R = Sx.go s (Sx.name last) := ⟨_, rfl⟩
  obtain ⟨n, hn⟩ : ∃ n, n = T.length := ⟨_, rfl⟩
  rw [← hR]
  unfold PRead
  unfold PPost at Hfail
  rw [← hn] at Hfail hlen ⊢
  have HC := Lh hc
  unfold pv at Hfail ⊢
  rcases hp.cases with ⟨rfl, hy⟩ | ⟨rfl, rfl, rfl, hkn⟩ | ⟨j, t, rfl, rfl, rfl, rfl, hj, ht⟩
  · have HV : Hid (R.Val []) := Lh (by rw [hR]; exact .of_bad _ _ _)
    rw [show Sx.go (.bad p e) (fun l => (Sx.fail last l 100 : Sx.R Unit)) = R.void by rw [hR]; rfl] at Hfail
    have hy2 : (e == 0) = false := by simpa using hy
    have hy3 : (e != 0) = true := by simpa using hy
    obtain ⟨W1, W2, hW1, hW2, p1, p2, hb, hsz⟩ := pbox w (.slice A n c) (.int .i64 k) (.int .i64 last) (.int .i64 e) (.int .i64 p)
    have HB := Lh hb; have HP := Lh p1; have HQ := Lh p2
    obtain ⟨x0, x1, x2, x3, x4, xz⟩ := cells5 p1
    clear hc hp hn hR hb p1 p2
    go_enter Tryz.func95, Tryz.ntmps95
    go_upto_region 1 with fail
    rw [← hW1, ← hW2]
    clear hW1 hW2
    go_wp2_with fail
    refine (Hfail.out _ (HC.out.next HB.out)).mono ?_
    rintro e' w2 ⟨k', x', p', rfl, ha, hb⟩
    have hg := hb.size
    have HB2 := Lh (HB.out.trans (hb.mono HB.out.size)); have HQ2 := Lh (HQ.out.below hb (by omega)); have HA := Lh ha
    obtain ⟨y0, y1, y2, y3, y4, yz⟩ := cells5 HQ2.out
    obtain ⟨f0, f1, f2, f3, f4⟩ := frees5 HQ2.out
    obtain ⟨W9, hW9, t, hb9⟩ := pstore HQ2.out (.slice A n c) (.int .i64 k') (.int .i64 last) (.int .i64 x') (.int .i64 p')
    have HB9 := Lh (hb9 w.heap.size w HB2.out (by omega)); have HT := Lh t; have HW9 := Lh hW9
    clear hb ha x0 x1 x2 x3 x4 xz t hb9 hW9
    go_wp2_with fail
    rw [← HW9.out]
    obtain ⟨t0, t1, t2, t3, t4, tz⟩ := HT.out
    exact bodyPost_ret (v := .tuple #[.string ⟨#[]⟩, pv A n c k' last x' p']) (by simp [results, Tryz.results95, go_sem, pv, t0, t1, t2, t3, t4]) rfl ⟨[], _, _, _, _, rfl, HV.out, ⟨rfl, by simp⟩, HA.out, HB9.out⟩
  · have HV : Hid (R.Val []) := Lh (by rw [hR]; exact .of_bad _ _ _)
    rw [show Sx.go (.ok () []) (fun l => (Sx.fail last l 100 : Sx.R Unit)) = R.void by rw [hR]; rfl] at Hfail
    rw [← hn] at hkn
    subst hkn
    have hz : ¬ (n : Int) < n := by omega
    have hz2 : (n : Int) ≥ n := by omega
    obtain ⟨W1, W2, hW1, hW2, p1, p2, hb, hsz⟩ := pbox w (.slice A n c) (.int .i64 n) (.int .i64 last) (.int .i64 0) (.int .i64 0)
    have HB := Lh hb; have HP := Lh p1; have HQ := Lh p2
    obtain ⟨x0, x1, x2, x3, x4, xz⟩ := cells5 p1
    clear hc hp hn hR hb p1 p2
    go_enter Tryz.func95, Tryz.ntmps95
    go_upto_region 1 with fail
    rw [← hW1, ← hW2]
    clear hW1 hW2
    go_wp2_with fail
    refine (Hfail.out _ (HC.out.next HB.out)).mono ?_
    rintro e' w2 ⟨k', x', p', rfl, ha, hb⟩
    have hg := hb.size
    have HB2 := Lh (HB.out.trans (hb.mono HB.out.size)); have HQ2 := Lh (HQ.out.below hb (by omega)); have HA := Lh ha
    obtain ⟨y0, y1, y2, y3, y4, yz⟩ := cells5 HQ2.out
    obtain ⟨f0, f1, f2, f3, f4⟩ := frees5 HQ2.out
    obtain ⟨W9, hW9, t, hb9⟩ := pstore HQ2.out (.slice A n c) (.int .i64 k') (.int .i64 last) (.int .i64 x') (.int .i64 p')
    have HB9 := Lh (hb9 w.heap.size w HB2.out (by omega)); have HT := Lh t; have HW9 := Lh hW9
    clear hb ha x0 x1 x2 x3 x4 xz t hb9 hW9
    go_wp2_with fail
    rw [← HW9.out]
    obtain ⟨t0, t1, t2, t3, t4, tz⟩ := HT.out
    exact bodyPost_ret (v := .tuple #[.string ⟨#[]⟩, pv A n c k' last x' p']) (by simp [results, Tryz.results95, go_sem, pv, t0, t1, t2, t3, t4]) rfl ⟨[], _, _, _, _, rfl, HV.out, ⟨rfl, by simp⟩, HA.out, HB9.out⟩
  · obtain ⟨b, o, rfl, hb0, q0, q1, q2, q3⟩ := hc.tok ht
    have hj2 : j < n := by omega
    have hj3 : ¬ (j : Int) ≥ n := by omega
    cases hk : (t.kind != 1) with
    | true =>
      have e0 : Sx.name last (t :: T.drop (j + 1)) = Sx.fail last (t :: T.drop (j + 1)) 100 := by
        have hk2 : ¬ t.kind = 1 := by simpa using hk
        unfold Sx.name; simp only; rw [if_neg hk2]
      have HV : Hid (R.Val []) := Lh (by rw [hR, Sx.goOk, e0]; exact .of_bad _ _ _)
      rw [show Sx.go (.ok () (t :: T.drop (j + 1))) (fun l => (Sx.fail last l 100 : Sx.R Unit)) = R.void by rw [hR, Sx.goOk, Sx.goOk, e0]; rfl] at Hfail
      obtain ⟨W1, W2, hW1, hW2, p1, p2, hb, hsz⟩ := pbox w (.slice (some ⟨b, o, none⟩) n c) (.int .i64 j) (.int .i64 last) (.int .i64 0) (.int .i64 0)
      have HB := Lh hb; have HP := Lh p1; have HQ := Lh p2
      obtain ⟨x0, x1, x2, x3, x4, xz⟩ := cells5 p1
      have q0' := (HB.out.cell (p := ⟨b, _, none⟩) hb0).trans q0
      have q1' := (HB.out.cell (p := ⟨b, _, none⟩) hb0).trans q1
      have q2' := (HB.out.cell (p := ⟨b, _, none⟩) hb0).trans q2
      have hb0' : b < W2.heap.size := by omega
      clear q0 q1 q2 q3
      clear hc hp hn hR hb p1 p2 ht
      go_enter Tryz.func95, Tryz.ntmps95
      go_upto_region 1 with fail
      rw [← hW1, ← hW2]
      clear hW1 hW2
      clear e0
      go_wp2_with fail
      refine (Hfail.out _ (HC.out.next HB.out)).mono ?_
      rintro e' w2 ⟨k', x', p', rfl, ha, hb⟩
      have hg := hb.size
      have HB2 := Lh (HB.out.trans (hb.mono HB.out.size)); have HQ2 := Lh (HQ.out.below hb (by omega)); have HA := Lh ha
      obtain ⟨y0, y1, y2, y3, y4, yz⟩ := cells5 HQ2.out
      obtain ⟨f0, f1, f2, f3, f4⟩ := frees5 HQ2.out
      obtain ⟨W9, hW9, t, hb9⟩ := pstore HQ2.out (.slice (some ⟨b, o, none⟩) n c) (.int .i64 k') (.int .i64 last) (.int .i64 x') (.int .i64 p')
      have HB9 := Lh (hb9 w.heap.size w HB2.out (by omega)); have HT := Lh t; have HW9 := Lh hW9
      clear hb ha x0 x1 x2 x3 x4 xz t hb9 hW9
      go_wp2_with fail
      rw [← HW9.out]
      obtain ⟨t0, t1, t2, t3, t4, tz⟩ := HT.out
      exact bodyPost_ret (v := .tuple #[.string ⟨#[]⟩, pv (some ⟨b, o, none⟩) n c k' last x' p']) (by simp [results, Tryz.results95, go_sem, pv, t0, t1, t2, t3, t4]) rfl ⟨[], _, _, _, _, rfl, HV.out, ⟨rfl, by simp⟩, HA.out, HB9.out⟩
    | false =>
      have hk2 : t.kind = 1 := by simpa using hk
      have e0 : Sx.name last (t :: T.drop (j + 1)) = .ok t.text (T.drop (j + 1)) := by unfold Sx.name; simp only; rw [if_pos hk2]
      have HL := Lh (hc.toks.texts t (List.mem_of_getElem? ht))
      have HV : Hid (R.Val t.text) := Lh (by rw [hR, Sx.goOk, e0]; exact .of_ok _ _)
      have HR : Hid (PAt T R.void ((j : Int) + 1) 0 0) := Lh (by rw [hR, Sx.goOk, e0]; exact PAt.tail hj)
      obtain ⟨W1, W2, hW1, hW2, p1, p2, hb, hsz⟩ := pbox w (.slice (some ⟨b, o, none⟩) n c) (.int .i64 j) (.int .i64 last) (.int .i64 0) (.int .i64 0)
      have HB := Lh hb; have HP := Lh p1; have HQ := Lh p2
      obtain ⟨x0, x1, x2, x3, x4, xz⟩ := cells5 p1
      obtain ⟨e0', e1, e2, e3, e4⟩ := frees5 p1
      obtain ⟨f0, f1, f2, f3, f4⟩ := frees5 p2
      obtain ⟨y0, y1, y2, y3, y4, yz⟩ := cells5 p2
      clear Hfail e0
      clear hk2
      have q0' := (HB.out.cell (p := ⟨b, _, none⟩) hb0).trans q0
      have q1' := (HB.out.cell (p := ⟨b, _, none⟩) hb0).trans q1
      have q2' := (HB.out.cell (p := ⟨b, _, none⟩) hb0).trans q2
      have hb0' : b < W2.heap.size := by omega
      clear q0 q1 q2 q3
      clear hc hp hn hR hb p1 p2 ht
      go_enter Tryz.func95, Tryz.ntmps95
      go_upto_region 1 with fail
      rw [← hW1, ← hW2]
      clear hW1 hW2
      go_wp2_with fail
      go_region
      obtain ⟨W9, hW9, hT, hb9⟩ := pstore (HQ.out.far (p := ⟨w.heap.size, 1, none⟩) (by simp) (.int .i64 ((j : Int) + 1))) (.slice (some ⟨b, o, none⟩) n c) (.int .i64 ((j : Int) + 1)) (.int .i64 last) (.int .i64 0) (.int .i64 0)
      rw [← hW9]
      have HB9 := Lh (hb9 w.heap.size w (HB.out.setCell (Nat.le_refl _) _) (by omega)).drew
      obtain ⟨t0, t1, t2, t3, t4, tz⟩ := hT
      go_wp2_with fail
      exact bodyPost_ret (v := .tuple #[.string (Lx.bs t.text), pv (some ⟨b, o, none⟩) n c ((j : Int) + 1) last 0 0]) (by simp [results, Tryz.results95, go_sem, pv, t0, t1, t2, t3, t4]) rfl ⟨_, [.string (Lx.bs t.text)], _, _, _, rfl, HV.out, ⟨rfl, HL.out⟩, HR.out, HB9.out⟩
set_option maxRecDepth 20000 in
set_option maxHeartbeats 1000000 in
theorem pNumber (T : List Lx.Tok) (A : Option Addr) (c : Nat) (last : Int) (lo hi : Int) (s : Sx.R Unit) (k e p : Int) (w : World) (hc : PCtx T A w) (hp : PAt T s k e p) :
    Calls Tryz.prog 93 #[pv A T.length c k last e p, .int .i64 lo, .int .i64 hi] w (PRead T A c last vInts (Sx.go s (Sx.number last lo hi)) w) := by
  have Hfail := Lh (fun w' h => pFail T A c last 100 (by decide) s k e p w' h hp)
  have hlen := hc.toks.len
  obtain ⟨R, hR⟩ : ∃ R, R = Sx.go s (Sx.number last lo hi) := ⟨_, rfl⟩
  obtain ⟨n, hn⟩ : ∃ n, n = T.length := ⟨_, rfl⟩
  rw [← hR]
  unfold PRead
  unfold PPost at Hfail
  rw [← hn] at Hfail hlen ⊢
  have HC := Lh hc
  unfold pv at Hfail ⊢
  rcases hp.cases with ⟨rfl, hy⟩ | ⟨rfl, rfl, rfl, hkn⟩ | ⟨j, t, rfl, rfl, rfl, rfl, hj, ht⟩
  · have HV : Hid (R.Val (0 : Int)) := Lh (by rw [hR]; exact .of_bad _ _ _)
    rw [show Sx.go (.bad p e) (fun l => (Sx.fail last l 100 : Sx.R Unit)) = R.void by rw [hR]; rfl] at Hfail
    have hy2 : (e == 0) = false := by simpa using hy
    have hy3 : (e != 0) = true := by simpa using hy
    obtain ⟨W1, W2, hW1, hW2, p1, p2, hb, hsz⟩ := pbox w (.slice A n c) (.int .i64 k) (.int .i64 last) (.int .i64 e) (.int .i64 p)
    have HB := Lh hb; have HP := Lh p1; have HQ := Lh p2
    obtain ⟨x0, x1, x2, x3, x4, xz⟩ := cells5 p1
    clear hc hp hn hR hb p1 p2
    go_enter Tryz.func93, Tryz.ntmps93
    go_upto_region 1 with fail
    rw [← hW1, ← hW2]
    clear hW1 hW2
    go_wp2_with fail
    refine (Hfail.out _ (HC.out.next HB.out)).mono ?_
    rintro e' w2 ⟨k', x', p', rfl, ha, hb⟩
    have hg := hb.size
    have HB2 := Lh (HB.out.trans (hb.mono HB.out.size)); have HQ2 := Lh (HQ.out.below hb (by omega)); have HA := Lh ha
    obtain ⟨y0, y1, y2, y3, y4, yz⟩ := cells5 HQ2.out
    obtain ⟨f0, f1, f2, f3, f4⟩ := frees5 HQ2.out
    obtain ⟨W9, hW9, t, hb9⟩ := pstore HQ2.out (.slice A n c) (.int .i64 k') (.int .i64 last) (.int .i64 x') (.int .i64 p')
    have HB9 := Lh (hb9 w.heap.size w HB2.out (by omega)); have HT := Lh t; have HW9 := Lh hW9
    clear hb ha x0 x1 x2 x3 x4 xz t hb9 hW9
    go_wp2_with fail
    rw [← HW9.out]
    obtain ⟨t0, t1, t2, t3, t4, tz⟩ := HT.out
    exact bodyPost_ret (v := .tuple #[.int .i64 0, pv A n c k' last x' p']) (by simp [results, Tryz.results93, go_sem, pv, t0, t1, t2, t3, t4]) rfl ⟨(0 : Int), _, _, _, _, rfl, HV.out, rfl, HA.out, HB9.out⟩
  · have HV : Hid (R.Val (0 : Int)) := Lh (by rw [hR]; exact .of_bad _ _ _)
    rw [show Sx.go (.ok () []) (fun l => (Sx.fail last l 100 : Sx.R Unit)) = R.void by rw [hR]; rfl] at Hfail
    rw [← hn] at hkn
    subst hkn
    have hz : ¬ (n : Int) < n := by omega
    have hz2 : (n : Int) ≥ n := by omega
    obtain ⟨W1, W2, hW1, hW2, p1, p2, hb, hsz⟩ := pbox w (.slice A n c) (.int .i64 n) (.int .i64 last) (.int .i64 0) (.int .i64 0)
    have HB := Lh hb; have HP := Lh p1; have HQ := Lh p2
    obtain ⟨x0, x1, x2, x3, x4, xz⟩ := cells5 p1
    clear hc hp hn hR hb p1 p2
    go_enter Tryz.func93, Tryz.ntmps93
    go_upto_region 1 with fail
    rw [← hW1, ← hW2]
    clear hW1 hW2
    go_wp2_with fail
    refine (Hfail.out _ (HC.out.next HB.out)).mono ?_
    rintro e' w2 ⟨k', x', p', rfl, ha, hb⟩
    have hg := hb.size
    have HB2 := Lh (HB.out.trans (hb.mono HB.out.size)); have HQ2 := Lh (HQ.out.below hb (by omega)); have HA := Lh ha
    obtain ⟨y0, y1, y2, y3, y4, yz⟩ := cells5 HQ2.out
    obtain ⟨f0, f1, f2, f3, f4⟩ := frees5 HQ2.out
    obtain ⟨W9, hW9, t, hb9⟩ := pstore HQ2.out (.slice A n c) (.int .i64 k') (.int .i64 last) (.int .i64 x') (.int .i64 p')
    have HB9 := Lh (hb9 w.heap.size w HB2.out (by omega)); have HT := Lh t; have HW9 := Lh hW9
    clear hb ha x0 x1 x2 x3 x4 xz t hb9 hW9
    go_wp2_with fail
    rw [← HW9.out]
    obtain ⟨t0, t1, t2, t3, t4, tz⟩ := HT.out
    exact bodyPost_ret (v := .tuple #[.int .i64 0, pv A n c k' last x' p']) (by simp [results, Tryz.results93, go_sem, pv, t0, t1, t2, t3, t4]) rfl ⟨(0 : Int), _, _, _, _, rfl, HV.out, rfl, HA.out, HB9.out⟩
  · obtain ⟨b, o, rfl, hb0, q0, q1, q2, q3⟩ := hc.tok ht
    have hj2 : j < n := by omega
    have hj3 : ¬ (j : Int) ≥ n := by omega
    by_cases hk : ¬ (t.kind = 2 ∧ lo ≤ t.n ∧ t.n ≤ hi)
    · have e0 : Sx.number last lo hi (t :: T.drop (j + 1)) = Sx.fail last (t :: T.drop (j + 1)) 100 := by
        unfold Sx.number; simp only; rw [if_neg hk]
      have HV : Hid (R.Val (0 : Int)) := Lh (by rw [hR, Sx.goOk, e0]; exact .of_bad _ _ _)
      rw [show Sx.go (.ok () (t :: T.drop (j + 1))) (fun l => (Sx.fail last l 100 : Sx.R Unit)) = R.void by rw [hR, Sx.goOk, Sx.goOk, e0]; rfl] at Hfail
      obtain ⟨W1, W2, hW1, hW2, p1, p2, hb, hsz⟩ := pbox w (.slice (some ⟨b, o, none⟩) n c) (.int .i64 j) (.int .i64 last) (.int .i64 0) (.int .i64 0)
      have HB := Lh hb; have HP := Lh p1; have HQ := Lh p2
      obtain ⟨x0, x1, x2, x3, x4, xz⟩ := cells5 p1
      have q0' := (HB.out.cell (p := ⟨b, _, none⟩) hb0).trans q0
      have q1' := (HB.out.cell (p := ⟨b, _, none⟩) hb0).trans q1
      have q2' := (HB.out.cell (p := ⟨b, _, none⟩) hb0).trans q2
      have hb0' : b < W2.heap.size := by omega
      clear q0 q1 q2 q3
      clear hc hp hn hR hb p1 p2 ht
      go_enter Tryz.func93, Tryz.ntmps93
      go_upto_region 1 with fail
      rw [← hW1, ← hW2]
      clear hW1 hW2
      clear e0
      by_cases k1 : (t.kind != 2) = true
      · have k2 : (t.kind != 2) = true := k1
        go_wp2_with fail
        refine (Hfail.out _ (HC.out.next HB.out)).mono ?_
        rintro e' w2 ⟨k', x', p', rfl, ha, hb⟩
        have hg := hb.size
        have HB2 := Lh (HB.out.trans (hb.mono HB.out.size)); have HQ2 := Lh (HQ.out.below hb (by omega)); have HA := Lh ha
        obtain ⟨y0, y1, y2, y3, y4, yz⟩ := cells5 HQ2.out
        obtain ⟨f0, f1, f2, f3, f4⟩ := frees5 HQ2.out
        obtain ⟨W9, hW9, t, hb9⟩ := pstore HQ2.out (.slice (some ⟨b, o, none⟩) n c) (.int .i64 k') (.int .i64 last) (.int .i64 x') (.int .i64 p')
        have HB9 := Lh (hb9 w.heap.size w HB2.out (by omega)); have HT := Lh t; have HW9 := Lh hW9
        clear hb ha x0 x1 x2 x3 x4 xz t hb9 hW9
        go_wp2_with fail
        rw [← HW9.out]
        obtain ⟨t0, t1, t2, t3, t4, tz⟩ := HT.out
        exact bodyPost_ret (v := .tuple #[.int .i64 0, pv (some ⟨b, o, none⟩) n c k' last x' p']) (by simp [results, Tryz.results93, go_sem, pv, t0, t1, t2, t3, t4]) rfl ⟨(0 : Int), _, _, _, _, rfl, HV.out, rfl, HA.out, HB9.out⟩
      have k3 : (t.kind != 2) = false := by simpa using k1
      by_cases k4 : t.n < lo
      · go_wp2_with fail
        refine (Hfail.out _ (HC.out.next HB.out)).mono ?_
        rintro e' w2 ⟨k', x', p', rfl, ha, hb⟩
        have hg := hb.size
        have HB2 := Lh (HB.out.trans (hb.mono HB.out.size)); have HQ2 := Lh (HQ.out.below hb (by omega)); have HA := Lh ha
        obtain ⟨y0, y1, y2, y3, y4, yz⟩ := cells5 HQ2.out
        obtain ⟨f0, f1, f2, f3, f4⟩ := frees5 HQ2.out
        obtain ⟨W9, hW9, t, hb9⟩ := pstore HQ2.out (.slice (some ⟨b, o, none⟩) n c) (.int .i64 k') (.int .i64 last) (.int .i64 x') (.int .i64 p')
        have HB9 := Lh (hb9 w.heap.size w HB2.out (by omega)); have HT := Lh t; have HW9 := Lh hW9
        clear hb ha x0 x1 x2 x3 x4 xz t hb9 hW9
        go_wp2_with fail
        rw [← HW9.out]
        obtain ⟨t0, t1, t2, t3, t4, tz⟩ := HT.out
        exact bodyPost_ret (v := .tuple #[.int .i64 0, pv (some ⟨b, o, none⟩) n c k' last x' p']) (by simp [results, Tryz.results93, go_sem, pv, t0, t1, t2, t3, t4]) rfl ⟨(0 : Int), _, _, _, _, rfl, HV.out, rfl, HA.out, HB9.out⟩
      · have k5 : hi < t.n := by have : t.kind = 2 := by simpa using k3
                                 omega
        have k6 : t.n > hi := k5
        go_wp2_with fail
        refine (Hfail.out _ (HC.out.next HB.out)).mono ?_
        rintro e' w2 ⟨k', x', p', rfl, ha, hb⟩
        have hg := hb.size
        have HB2 := Lh (HB.out.trans (hb.mono HB.out.size)); have HQ2 := Lh (HQ.out.below hb (by omega)); have HA := Lh ha
        obtain ⟨y0, y1, y2, y3, y4, yz⟩ := cells5 HQ2.out
        obtain ⟨f0, f1, f2, f3, f4⟩ := frees5 HQ2.out
        obtain ⟨W9, hW9, t, hb9⟩ := pstore HQ2.out (.slice (some ⟨b, o, none⟩) n c) (.int .i64 k') (.int .i64 last) (.int .i64 x') (.int .i64 p')
        have HB9 := Lh (hb9 w.heap.size w HB2.out (by omega)); have HT := Lh t; have HW9 := Lh hW9
        clear hb ha x0 x1 x2 x3 x4 xz t hb9 hW9
        go_wp2_with fail
        rw [← HW9.out]
        obtain ⟨t0, t1, t2, t3, t4, tz⟩ := HT.out
        exact bodyPost_ret (v := .tuple #[.int .i64 0, pv (some ⟨b, o, none⟩) n c k' last x' p']) (by simp [results, Tryz.results93, go_sem, pv, t0, t1, t2, t3, t4]) rfl ⟨(0 : Int), _, _, _, _, rfl, HV.out, rfl, HA.out, HB9.out⟩
    · have hk' : t.kind = 2 ∧ lo ≤ t.n ∧ t.n ≤ hi := Classical.not_not.1 hk
      have e0 : Sx.number last lo hi (t :: T.drop (j + 1)) = .ok t.n (T.drop (j + 1)) := by unfold Sx.number; simp only; rw [if_pos hk']
      have k3 : (t.kind != 2) = false := by simpa using hk'.1
      have k4 : ¬ t.n < lo := by omega
      have k5 : ¬ t.n > hi := by omega
      have HV : Hid (R.Val t.n) := Lh (by rw [hR, Sx.goOk, e0]; exact .of_ok _ _)
      have HR : Hid (PAt T R.void ((j : Int) + 1) 0 0) := Lh (by rw [hR, Sx.goOk, e0]; exact PAt.tail hj)
      obtain ⟨W1, W2, hW1, hW2, p1, p2, hb, hsz⟩ := pbox w (.slice (some ⟨b, o, none⟩) n c) (.int .i64 j) (.int .i64 last) (.int .i64 0) (.int .i64 0)
      have HB := Lh hb; have HP := Lh p1; have HQ := Lh p2
      obtain ⟨x0, x1, x2, x3, x4, xz⟩ := cells5 p1
      obtain ⟨e0', e1, e2, e3, e4⟩ := frees5 p1
      obtain ⟨f0, f1, f2, f3, f4⟩ := frees5 p2
      obtain ⟨y0, y1, y2, y3, y4, yz⟩ := cells5 p2
      clear Hfail e0
      clear hk hk'
      have q0' := (HB.out.cell (p := ⟨b, _, none⟩) hb0).trans q0
      have q1' := (HB.out.cell (p := ⟨b, _, none⟩) hb0).trans q1
      have q2' := (HB.out.cell (p := ⟨b, _, none⟩) hb0).trans q2
      have hb0' : b < W2.heap.size := by omega
      clear q0 q1 q2 q3
      clear hc hp hn hR hb p1 p2 ht
      go_enter Tryz.func93, Tryz.ntmps93
      go_upto_region 1 with fail
      rw [← hW1, ← hW2]
      clear hW1 hW2
      go_wp2_with fail
      go_region
      obtain ⟨W9, hW9, hT, hb9⟩ := pstore (HQ.out.far (p := ⟨w.heap.size, 1, none⟩) (by simp) (.int .i64 ((j : Int) + 1))) (.slice (some ⟨b, o, none⟩) n c) (.int .i64 ((j : Int) + 1)) (.int .i64 last) (.int .i64 0) (.int .i64 0)
      rw [← hW9]
      have HB9 := Lh (hb9 w.heap.size w (HB.out.setCell (Nat.le_refl _) _) (by omega)).drew
      obtain ⟨t0, t1, t2, t3, t4, tz⟩ := hT
      go_wp2_with fail
      exact bodyPost_ret (v := .tuple #[.int .i64 t.n, pv (some ⟨b, o, none⟩) n c ((j : Int) + 1) last 0 0]) (by simp [results, Tryz.results93, go_sem, pv, t0, t1, t2, t3, t4]) rfl ⟨_, [.int .i64 t.n], _, _, _, rfl, HV.out, rfl, HR.out, HB9.out⟩
end Go.Proofs.YtjonaidancomgaaGreatDoor
