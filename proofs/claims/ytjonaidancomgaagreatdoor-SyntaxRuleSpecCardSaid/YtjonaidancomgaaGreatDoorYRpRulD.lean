/- Parts of the proof, joined into one text: RpRulD, LxRefNum. -/
import Derived.Test.YtjonaidancomgaaGreatDoorYRpRulC
import Derived.Test.YtjonaidancomgaaGreatDoorYLxL
import Derived.Deep.QuietTactic

namespace Go.Proofs.YtjonaidancomgaaGreatDoor
open Go.RowKit

namespace Sx
open Lx (Tok)
theorem rule_none {last : Int} {s : R Unit} (kk b : Nat) (h : begR s = 0) : (go s (rule last kk b)).Val Rule.zero ∧ (go s (rule last kk b)).void = go s fun l => fail last l 100 := by
 cases s with
 | bad p e => exact ⟨.of_bad _ _ _, rfl⟩
 | ok u l =>
  have hf : find ruleWords l = none := by
   cases hf : find ruleWords l with
   | none => rfl
   | some i => unfold begR at h; simp only [hf] at h; omega
  have ho : oneOf last ruleWords l = fail last l 100 := by unfold oneOf; rw [hf]
  have hr : rule last kk b l = fail last l 100 := by
   cases kk with
   | zero => rw [rule, ho]; rfl
   | succ k => rw [rule, ho]; rfl
  rw [goOk, hr]
  exact ⟨.of_bad _ _ _, rfl⟩
theorem begR_some {s : R Unit} (h : begR s ≠ 0) : ∃ l i, s = .ok () l ∧ find ruleWords l = some i ∧ begR s = (i : Int) + 1 ∧ i < 9 := by
 cases s with
 | bad p e => exact absurd rfl h
 | ok u l =>
  cases hf : find ruleWords l with
  | none => unfold begR at h; simp only [hf] at h; exact absurd rfl h
  | some i =>
   refine ⟨l, i, rfl, hf, by unfold begR; simp only [hf], ?_⟩
   unfold find at hf
   exact (List.findIdx?_eq_some_iff_getElem.1 hf).1
theorem rule_limit {last : Int} {s : R Unit} (kk b : Nat) (h : begR s ≠ 0) (hl : kk = 0 ∨ b = 200 ∨ (begR s = 4 ∧ kk = 1)) : (go s (rule last kk b)).Val Rule.zero ∧ (go s (rule last kk b)).void = go s fun l => fail last l 2 := by
 obtain ⟨l, i, rfl, hf, hb, _⟩ := begR_some h
 have ho : oneOf last ruleWords l = .ok (i : Int) l.tail := by unfold oneOf; rw [hf]
 have hr : rule last kk b l = fail last l 2 := by
  cases kk with
  | zero => rw [rule, ho]; rfl
  | succ k =>
   rw [rule, ho]
   show (if b = 200 ∨ ((i : Int) + 1 = 4 ∧ k = 0) then _ else _) = _
   rw [if_pos (by omega)]
 rw [goOk, hr]
 exact ⟨.of_bad _ _ _, rfl⟩
theorem rule_body {last : Int} {s : R Unit} (k : Nat) (h : begR s ≠ 0) (hl : ¬ (begR s = 4 ∧ k = 0)) : ∃ l, s = .ok () l ∧ l.tail.length + 1 = l.length ∧ go s (rule last (k + 1) 0) = go (.ok () l.tail) (ruleBody last (rule last k) (begR s)) := by
 obtain ⟨l, i, rfl, hf, hb, _⟩ := begR_some h
 have ho : oneOf last ruleWords l = .ok (i : Int) l.tail := by unfold oneOf; rw [hf]
 refine ⟨l, rfl, find_tail hf, ?_⟩
 rw [goOk, goOk, rule, ho]
 show (if (0 : Nat) = 200 ∨ ((i : Int) + 1 = 4 ∧ k = 0) then _ else _) = _
 rw [if_neg (by omega), hb]
end Sx
set_option maxRecDepth 20000 in
set_option maxHeartbeats 2000000 in
theorem pRuleNone (T : List Lx.Tok) (A : Option Addr) (c : Nat) (last : Int) (lv : Int) (full : Bool) (kk b : Nat) (s : Sx.R Unit) (k e p : Int) (w : World) (hc : PCtx T A w) (hp : PAt T s k e p) (hop : Sx.begR s = 0) :
  Calls Tryz.prog 46 #[pv A T.length c k last e p, .int .i64 lv, .bool full] w (PRead T A c last (vRuleB w.heap.size) (Sx.go s (Sx.rule last kk b)) w) := by
 have HC := Lh hc
 have H1 := Lh (fun w' h => pBegins T A c last s k e p w' h hp)
 have hval := Sx.rule_none (last := last) kk b hop
 obtain ⟨R, hR⟩ : ∃ R, R = Sx.go s (Sx.rule last kk b) := ⟨_, rfl⟩
 rw [← hR] at hval ⊢
 have HV := Lh hval.1
 have HF := Lh (fun w' h => pFail T A c last 100 (by decide) s k e p w' h hp)
 rw [← hval.2] at HF
 obtain ⟨n, hn⟩ : ∃ n, n = T.length := ⟨_, rfl⟩
 unfold PRead
 unfold PPost pv at HF
 unfold pv at H1 ⊢
 rw [← hn] at H1 HF ⊢
 obtain ⟨op, hop2⟩ : ∃ op, op = Sx.begR s := ⟨_, rfl⟩
 rw [← hop2] at H1
 rw [hop] at hop2
 subst hop2
 obtain ⟨W1, W2, W3, hW1, hW2, hW3, p1, p2, p3, hb, hsz⟩ := pbox6 w 38 #[.int .i64 0, .int .i64 0, .string ⟨#[]⟩, .int .i64 0, .int .i64 0, .slice none 0 0] (.slice A n c) (.int .i64 k) (.int .i64 last) (.int .i64 e) (.int .i64 p)
 have HB := Lh hb; have HX_p := Lh p1; have HX_a := Lh p2; have HX_q := Lh p3
 clear hc hp hn hb p1 p2 p3 hR hval
 obtain ⟨c_p0, c_p1, c_p2, c_p3, c_p4, z_p⟩ := cells5 HX_p.out
 go_enter Tryz.func46, Tryz.ntmps46
 go_upto_region 1 with fail
 rw [← hW1, ← hW2, ← hW3]
 clear hW1 hW2 hW3
 go_wp2_with fail
 refine (H1.out _ (HC.out.next HB.out)).mono ?_
 rintro e' w1 ⟨rfl, hb⟩
 clear c_p0 c_p1 c_p2 c_p3 c_p4 z_p
 have hgz := hb.size
 replace HB := bmb HB hb
 replace HX_p := bmv HX_p hb
 replace HX_a := bmv HX_a hb
 replace HX_q := bmv HX_q hb
 clear hb
 obtain ⟨c_p0, c_p1, c_p2, c_p3, c_p4, z_p⟩ := cells5 HX_p.out
 go_wp2_with fail
 refine (HF.out _ (HC.out.next HB.out)).mono ?_
 rintro e' w4 ⟨k4, x4, p4, rfl, ha, hb⟩
 have HA := Lh ha
 clear ha
 clear c_p0 c_p1 c_p2 c_p3 c_p4 z_p
 have hgz := hb.size
 replace HB := bmb HB hb
 replace HX_p := bmv HX_p hb
 replace HX_a := bmv HX_a hb
 replace HX_q := bmv HX_q hb
 clear hb
 obtain ⟨c_a0, c_a1, c_a2, c_a3, c_a4, c_a5, z_a⟩ := cells6 HX_a.out
 obtain ⟨f_a0, f_a1, f_a2, f_a3, f_a4, f_a5⟩ := frees6 HX_a.out
 obtain ⟨c_q0, c_q1, c_q2, c_q3, c_q4, z_q⟩ := cells5 HX_q.out
 obtain ⟨f_q0, f_q1, f_q2, f_q3, f_q4⟩ := frees5 HX_q.out
 obtain ⟨W8, hW8, hxn, hfar, hbn⟩ := pstoreR HX_a.out (.int .i64 0) (.int .i64 0) (.string ⟨#[]⟩) (.int .i64 0) (.int .i64 0) (.slice none 0 0)
 replace HB := Lh (hbn w.heap.size w HB.out (by omega))
 replace HX_p := bfr hfar.1 HX_p (by omega)
 replace HX_q := bfr hfar.1 HX_q (by omega)
 replace HX_a := Lh hxn
 have hsz_W8 := hfar.2
 clear hxn hfar hbn
 obtain ⟨W9, hW9, hxn, hfar, hbn⟩ := pstoreB HX_q.out (.slice A n c) (.int .i64 k4) (.int .i64 last) (.int .i64 x4) (.int .i64 p4)
 replace HB := Lh (hbn w.heap.size w HB.out (by omega))
 replace HX_p := bfr hfar.1 HX_p (by omega)
 replace HX_a := bfr hfar.1 HX_a (by omega)
 replace HX_q := Lh hxn
 have hsz_W9 := hfar.2
 clear hxn hfar hbn
 rw [hW8] at hW9
 go_wp2_with fail
 rw [← hW9]
 clear hW9 hW8
 clear c_a0 c_a1 c_a2 c_a3 c_a4 c_a5 z_a f_a0 f_a1 f_a2 f_a3 f_a4 f_a5 c_q0 c_q1 c_q2 c_q3 c_q4 z_q f_q0 f_q1 f_q2 f_q3 f_q4
 obtain ⟨c_a0, c_a1, c_a2, c_a3, c_a4, c_a5, z_a⟩ := cells6 HX_a.out
 obtain ⟨c_q0, c_q1, c_q2, c_q3, c_q4, z_q⟩ := cells5 HX_q.out
 exact bodyPost_ret (v := .tuple #[.agg #[.int .i64 0, .int .i64 0, .string ⟨#[]⟩, .int .i64 0, .int .i64 0, .slice none 0 0], pv A n c k4 last x4 p4]) (by simp [results, Tryz.results46, go_sem, pv, c_a0, c_a1, c_a2, c_a3, c_a4, c_a5, c_q0, c_q1, c_q2, c_q3, c_q4]) rfl ⟨_, [.agg #[.int .i64 0, .int .i64 0, .string ⟨#[]⟩, .int .i64 0, .int .i64 0, .slice none 0 0]], _, _, _, rfl, HV.out, vRule_leaf _ _ 0 0 [] 0 0 (by simp), HA.out, HB.out⟩
set_option maxRecDepth 20000 in
set_option maxHeartbeats 2000000 in
theorem pRuleLimit (T : List Lx.Tok) (A : Option Addr) (c : Nat) (last : Int) (lv : Int) (full : Bool) (kk b : Nat) (s : Sx.R Unit) (k e p : Int) (w : World) (hc : PCtx T A w) (hp : PAt T s k e p) (hop : Sx.begR s ≠ 0) (hl : kk = 0 ∨ b = 200 ∨ (Sx.begR s = 4 ∧ kk = 1)) (hlv : lv = 17 - (kk : Int)) (hfu : full = decide (b = 200)) (hk17 : kk ≤ 16) :
  Calls Tryz.prog 46 #[pv A T.length c k last e p, .int .i64 lv, .bool full] w (PRead T A c last (vRuleB w.heap.size) (Sx.go s (Sx.rule last kk b)) w) := by
 have HC := Lh hc
 have H1 := Lh (fun w' h => pBegins T A c last s k e p w' h hp)
 have hval := Sx.rule_limit (last := last) kk b hop hl
 obtain ⟨R, hR⟩ : ∃ R, R = Sx.go s (Sx.rule last kk b) := ⟨_, rfl⟩
 rw [← hR] at hval ⊢
 have HV := Lh hval.1
 have HF := Lh (fun w' h => pFail T A c last 2 (by decide) s k e p w' h hp)
 rw [← hval.2] at HF
 obtain ⟨n, hn⟩ : ∃ n, n = T.length := ⟨_, rfl⟩
 unfold PRead
 unfold PPost pv at HF
 unfold pv at H1 ⊢
 rw [← hn] at H1 HF ⊢
 obtain ⟨op, hop2⟩ : ∃ op, op = Sx.begR s := ⟨_, rfl⟩
 rw [← hop2] at H1
 rw [← hop2] at hop hl
 have hop3 : (op == 0) = false := by simpa using hop
 have Hl := Lh hl
 clear hop hop2 hl
 obtain ⟨W1, W2, W3, hW1, hW2, hW3, p1, p2, p3, hb, hsz⟩ := pbox6 w 38 #[.int .i64 0, .int .i64 0, .string ⟨#[]⟩, .int .i64 0, .int .i64 0, .slice none 0 0] (.slice A n c) (.int .i64 k) (.int .i64 last) (.int .i64 e) (.int .i64 p)
 have HB := Lh hb; have HX_p := Lh p1; have HX_a := Lh p2; have HX_q := Lh p3
 clear hc hp hn hb p1 p2 p3 hR hval
 obtain ⟨c_p0, c_p1, c_p2, c_p3, c_p4, z_p⟩ := cells5 HX_p.out
 go_enter Tryz.func46, Tryz.ntmps46
 go_upto_region 1 with fail
 rw [← hW1, ← hW2, ← hW3]
 clear hW1 hW2 hW3
 go_wp2_with fail
 refine (H1.out _ (HC.out.next HB.out)).mono ?_
 rintro e' w1 ⟨rfl, hb⟩
 clear c_p0 c_p1 c_p2 c_p3 c_p4 z_p
 have hgz := hb.size
 replace HB := bmb HB hb
 replace HX_p := bmv HX_p hb
 replace HX_a := bmv HX_a hb
 replace HX_q := bmv HX_q hb
 clear hb
 cases hf : full with
 | true =>
  subst hf
  clear hfu hlv
  obtain ⟨c_p0, c_p1, c_p2, c_p3, c_p4, z_p⟩ := cells5 HX_p.out
  go_wp2_with fail
  refine (HF.out _ (HC.out.next HB.out)).mono ?_
  rintro e' w4 ⟨k4, x4, p4, rfl, ha, hb⟩
  have HA := Lh ha
  clear ha
  clear c_p0 c_p1 c_p2 c_p3 c_p4 z_p
  have hgz := hb.size
  replace HB := bmb HB hb
  replace HX_p := bmv HX_p hb
  replace HX_a := bmv HX_a hb
  replace HX_q := bmv HX_q hb
  clear hb
  obtain ⟨c_a0, c_a1, c_a2, c_a3, c_a4, c_a5, z_a⟩ := cells6 HX_a.out
  obtain ⟨f_a0, f_a1, f_a2, f_a3, f_a4, f_a5⟩ := frees6 HX_a.out
  obtain ⟨c_q0, c_q1, c_q2, c_q3, c_q4, z_q⟩ := cells5 HX_q.out
  obtain ⟨f_q0, f_q1, f_q2, f_q3, f_q4⟩ := frees5 HX_q.out
  obtain ⟨W8, hW8, hxn, hfar, hbn⟩ := pstoreR HX_a.out (.int .i64 0) (.int .i64 0) (.string ⟨#[]⟩) (.int .i64 0) (.int .i64 0) (.slice none 0 0)
  replace HB := Lh (hbn w.heap.size w HB.out (by omega))
  replace HX_p := bfr hfar.1 HX_p (by omega)
  replace HX_q := bfr hfar.1 HX_q (by omega)
  replace HX_a := Lh hxn
  have hsz_W8 := hfar.2
  clear hxn hfar hbn
  obtain ⟨W9, hW9, hxn, hfar, hbn⟩ := pstoreB HX_q.out (.slice A n c) (.int .i64 k4) (.int .i64 last) (.int .i64 x4) (.int .i64 p4)
  replace HB := Lh (hbn w.heap.size w HB.out (by omega))
  replace HX_p := bfr hfar.1 HX_p (by omega)
  replace HX_a := bfr hfar.1 HX_a (by omega)
  replace HX_q := Lh hxn
  have hsz_W9 := hfar.2
  clear hxn hfar hbn
  rw [hW8] at hW9
  go_wp2_with fail
  rw [← hW9]
  clear hW9 hW8
  clear c_a0 c_a1 c_a2 c_a3 c_a4 c_a5 z_a f_a0 f_a1 f_a2 f_a3 f_a4 f_a5 c_q0 c_q1 c_q2 c_q3 c_q4 z_q f_q0 f_q1 f_q2 f_q3 f_q4
  obtain ⟨c_a0, c_a1, c_a2, c_a3, c_a4, c_a5, z_a⟩ := cells6 HX_a.out
  obtain ⟨c_q0, c_q1, c_q2, c_q3, c_q4, z_q⟩ := cells5 HX_q.out
  exact bodyPost_ret (v := .tuple #[.agg #[.int .i64 0, .int .i64 0, .string ⟨#[]⟩, .int .i64 0, .int .i64 0, .slice none 0 0], pv A n c k4 last x4 p4]) (by simp [results, Tryz.results46, go_sem, pv, c_a0, c_a1, c_a2, c_a3, c_a4, c_a5, c_q0, c_q1, c_q2, c_q3, c_q4]) rfl ⟨_, [.agg #[.int .i64 0, .int .i64 0, .string ⟨#[]⟩, .int .i64 0, .int .i64 0, .slice none 0 0]], _, _, _, rfl, HV.out, vRule_leaf _ _ 0 0 [] 0 0 (by simp), HA.out, HB.out⟩
 | false =>
  subst hf
  have hb2 : b ≠ 200 := by
   intro e
   rw [e] at hfu
   simp at hfu
  clear hfu
  by_cases hz : kk = 0
  ·have hlv2 : lv > 16 := by omega
   clear hlv hz
   obtain ⟨c_p0, c_p1, c_p2, c_p3, c_p4, z_p⟩ := cells5 HX_p.out
   go_wp2_with fail
   refine (HF.out _ (HC.out.next HB.out)).mono ?_
   rintro e' w4 ⟨k4, x4, p4, rfl, ha, hb⟩
   have HA := Lh ha
   clear ha
   clear c_p0 c_p1 c_p2 c_p3 c_p4 z_p
   have hgz := hb.size
   replace HB := bmb HB hb
   replace HX_p := bmv HX_p hb
   replace HX_a := bmv HX_a hb
   replace HX_q := bmv HX_q hb
   clear hb
   obtain ⟨c_a0, c_a1, c_a2, c_a3, c_a4, c_a5, z_a⟩ := cells6 HX_a.out
   obtain ⟨f_a0, f_a1, f_a2, f_a3, f_a4, f_a5⟩ := frees6 HX_a.out
   obtain ⟨c_q0, c_q1, c_q2, c_q3, c_q4, z_q⟩ := cells5 HX_q.out
   obtain ⟨f_q0, f_q1, f_q2, f_q3, f_q4⟩ := frees5 HX_q.out
   obtain ⟨W8, hW8, hxn, hfar, hbn⟩ := pstoreR HX_a.out (.int .i64 0) (.int .i64 0) (.string ⟨#[]⟩) (.int .i64 0) (.int .i64 0) (.slice none 0 0)
   replace HB := Lh (hbn w.heap.size w HB.out (by omega))
   replace HX_p := bfr hfar.1 HX_p (by omega)
   replace HX_q := bfr hfar.1 HX_q (by omega)
   replace HX_a := Lh hxn
   have hsz_W8 := hfar.2
   clear hxn hfar hbn
   obtain ⟨W9, hW9, hxn, hfar, hbn⟩ := pstoreB HX_q.out (.slice A n c) (.int .i64 k4) (.int .i64 last) (.int .i64 x4) (.int .i64 p4)
   replace HB := Lh (hbn w.heap.size w HB.out (by omega))
   replace HX_p := bfr hfar.1 HX_p (by omega)
   replace HX_a := bfr hfar.1 HX_a (by omega)
   replace HX_q := Lh hxn
   have hsz_W9 := hfar.2
   clear hxn hfar hbn
   rw [hW8] at hW9
   go_wp2_with fail
   rw [← hW9]
   clear hW9 hW8
   clear c_a0 c_a1 c_a2 c_a3 c_a4 c_a5 z_a f_a0 f_a1 f_a2 f_a3 f_a4 f_a5 c_q0 c_q1 c_q2 c_q3 c_q4 z_q f_q0 f_q1 f_q2 f_q3 f_q4
   obtain ⟨c_a0, c_a1, c_a2, c_a3, c_a4, c_a5, z_a⟩ := cells6 HX_a.out
   obtain ⟨c_q0, c_q1, c_q2, c_q3, c_q4, z_q⟩ := cells5 HX_q.out
   exact bodyPost_ret (v := .tuple #[.agg #[.int .i64 0, .int .i64 0, .string ⟨#[]⟩, .int .i64 0, .int .i64 0, .slice none 0 0], pv A n c k4 last x4 p4]) (by simp [results, Tryz.results46, go_sem, pv, c_a0, c_a1, c_a2, c_a3, c_a4, c_a5, c_q0, c_q1, c_q2, c_q3, c_q4]) rfl ⟨_, [.agg #[.int .i64 0, .int .i64 0, .string ⟨#[]⟩, .int .i64 0, .int .i64 0, .slice none 0 0]], _, _, _, rfl, HV.out, vRule_leaf _ _ 0 0 [] 0 0 (by simp), HA.out, HB.out⟩
  ·have h4 : op = 4 ∧ kk = 1 := by have := Hl.out; omega
   obtain ⟨rfl, rfl⟩ := h4
   have hlv2 : lv = 16 := by omega
   clear hlv hz
   subst hlv2
   obtain ⟨c_p0, c_p1, c_p2, c_p3, c_p4, z_p⟩ := cells5 HX_p.out
   go_wp2_with fail
   refine (HF.out _ (HC.out.next HB.out)).mono ?_
   rintro e' w4 ⟨k4, x4, p4, rfl, ha, hb⟩
   have HA := Lh ha
   clear ha
   clear c_p0 c_p1 c_p2 c_p3 c_p4 z_p
   have hgz := hb.size
   replace HB := bmb HB hb
   replace HX_p := bmv HX_p hb
   replace HX_a := bmv HX_a hb
   replace HX_q := bmv HX_q hb
   clear hb
   obtain ⟨c_a0, c_a1, c_a2, c_a3, c_a4, c_a5, z_a⟩ := cells6 HX_a.out
   obtain ⟨f_a0, f_a1, f_a2, f_a3, f_a4, f_a5⟩ := frees6 HX_a.out
   obtain ⟨c_q0, c_q1, c_q2, c_q3, c_q4, z_q⟩ := cells5 HX_q.out
   obtain ⟨f_q0, f_q1, f_q2, f_q3, f_q4⟩ := frees5 HX_q.out
   obtain ⟨W8, hW8, hxn, hfar, hbn⟩ := pstoreR HX_a.out (.int .i64 0) (.int .i64 0) (.string ⟨#[]⟩) (.int .i64 0) (.int .i64 0) (.slice none 0 0)
   replace HB := Lh (hbn w.heap.size w HB.out (by omega))
   replace HX_p := bfr hfar.1 HX_p (by omega)
   replace HX_q := bfr hfar.1 HX_q (by omega)
   replace HX_a := Lh hxn
   have hsz_W8 := hfar.2
   clear hxn hfar hbn
   obtain ⟨W9, hW9, hxn, hfar, hbn⟩ := pstoreB HX_q.out (.slice A n c) (.int .i64 k4) (.int .i64 last) (.int .i64 x4) (.int .i64 p4)
   replace HB := Lh (hbn w.heap.size w HB.out (by omega))
   replace HX_p := bfr hfar.1 HX_p (by omega)
   replace HX_a := bfr hfar.1 HX_a (by omega)
   replace HX_q := Lh hxn
   have hsz_W9 := hfar.2
   clear hxn hfar hbn
   rw [hW8] at hW9
   go_wp2_with fail
   rw [← hW9]
   clear hW9 hW8
   clear c_a0 c_a1 c_a2 c_a3 c_a4 c_a5 z_a f_a0 f_a1 f_a2 f_a3 f_a4 f_a5 c_q0 c_q1 c_q2 c_q3 c_q4 z_q f_q0 f_q1 f_q2 f_q3 f_q4
   obtain ⟨c_a0, c_a1, c_a2, c_a3, c_a4, c_a5, z_a⟩ := cells6 HX_a.out
   obtain ⟨c_q0, c_q1, c_q2, c_q3, c_q4, z_q⟩ := cells5 HX_q.out
   exact bodyPost_ret (v := .tuple #[.agg #[.int .i64 0, .int .i64 0, .string ⟨#[]⟩, .int .i64 0, .int .i64 0, .slice none 0 0], pv A n c k4 last x4 p4]) (by simp [results, Tryz.results46, go_sem, pv, c_a0, c_a1, c_a2, c_a3, c_a4, c_a5, c_q0, c_q1, c_q2, c_q3, c_q4]) rfl ⟨_, [.agg #[.int .i64 0, .int .i64 0, .string ⟨#[]⟩, .int .i64 0, .int .i64 0, .slice none 0 0]], _, _, _, rfl, HV.out, vRule_leaf _ _ 0 0 [] 0 0 (by simp), HA.out, HB.out⟩
theorem pRule (T : List Lx.Tok) (A : Option Addr) (c : Nat) (last : Int) : ∀ (kk : Nat), kk ≤ 16 → ∀ (full : Bool) (s : Sx.R Unit) (k e p : Int) (w : World), PCtx T A w → PAt T s k e p →
  Calls Tryz.prog 46 #[pv A T.length c k last e p, .int .i64 (17 - (kk : Int)), .bool full] w (PRead T A c last (vRuleB w.heap.size) (Sx.go s (Sx.rule last kk (if full = true then 200 else 0))) w) := by
 intro kk
 induction kk with
 | zero =>
  intro _ full s k e p w hc hp
  by_cases hop : Sx.begR s = 0
  ·exact pRuleNone T A c last _ full 0 _ s k e p w hc hp hop
  ·exact pRuleLimit T A c last _ full 0 _ s k e p w hc hp hop (.inl rfl) (by simp) (by cases full <;> rfl) (by omega)
 | succ kk ih =>
  intro hkk full s k e p w hc hp
  by_cases hop : Sx.begR s = 0
  ·exact pRuleNone T A c last _ full (kk + 1) _ s k e p w hc hp hop
  by_cases hfu : full = true
  ·subst hfu
   exact pRuleLimit T A c last _ true (kk + 1) _ s k e p w hc hp hop (.inr (.inl rfl)) (by simp) rfl hkk
  obtain rfl : full = false := by simpa using hfu
  by_cases h4 : Sx.begR s = 4 ∧ kk = 0
  ·exact pRuleLimit T A c last _ false (kk + 1) _ s k e p w hc hp hop (.inr (.inr ⟨h4.1, by omega⟩)) (by simp) rfl hkk
  obtain ⟨l, hs, htl, hbody⟩ := Sx.rule_body (last := last) kk hop h4
  obtain ⟨_, i, hs2, hf2, hbi, hi9⟩ := Sx.begR_some hop
  have hlv : ((17 : Int) - ((kk + 1 : Nat) : Int)) = 16 - (kk : Int) := by omega
  have hrec : ∀ (full : Bool) (s : Sx.R Unit) (k e p : Int) (w : World), PCtx T A w → PAt T s k e p → Calls Tryz.prog 46 #[pv A T.length c k last e p, .int .i64 ((16 - (kk : Int)) + 1), .bool full] w (PRead T A c last (vRuleB w.heap.size) (Sx.go s (Sx.rule last kk (if full = true then 200 else 0))) w) := fun full s k e p w h1 h2 => by
   rw [show (16 - (kk : Int)) + 1 = 17 - (kk : Int) by omega]
   exact ih (by omega) full s k e p w h1 h2
  rcases hp.cases with ⟨h, _⟩ | ⟨h, _⟩ | ⟨j, t, h, rfl, rfl, rfl, hj, _⟩
  ·rw [hs] at h; cases h
  ·rw [hs] at h; injection h with _ h; subst h; simp at htl
  have hl : l = t :: T.drop (j + 1) := by rw [hs] at h; injection h
  have hp1 : PAt T (.ok () l.tail) ((j : Int) + 1) 0 0 := by rw [hl, List.tail_cons]; exact PAt.tail hj
  have hfew := hc.few
  rw [hlv, if_neg (by simp), hbody]
  have hb9 : Sx.begR s = 1 ∨ Sx.begR s = 2 ∨ Sx.begR s = 3 ∨ Sx.begR s = 4 ∨ Sx.begR s = 5 ∨ Sx.begR s = 6 ∨ Sx.begR s = 7 ∨ Sx.begR s = 8 ∨ Sx.begR s = 9 := by omega
  rcases hb9 with h | h | h | h | h | h | h | h | h
  ·exact pRule12 T A c last _ (by omega) kk (by omega) (by omega) 1 rfl rfl rfl rfl rfl rfl rfl s (.ok () l.tail) _ j w hc hp hp1 (by omega) (by omega) h hrec (by rw [h]; rfl)
  ·exact pRule12 T A c last _ (by omega) kk (by omega) (by omega) 2 rfl rfl rfl rfl rfl rfl rfl s (.ok () l.tail) _ j w hc hp hp1 (by omega) (by omega) h hrec (by rw [h]; rfl)
  ·exact pRule12 T A c last _ (by omega) kk (by omega) (by omega) 3 rfl rfl rfl rfl rfl rfl rfl s (.ok () l.tail) _ j w hc hp hp1 (by omega) (by omega) h hrec (by rw [h]; rfl)
  ·exact pRule4 T A c last _ (by omega) (by have : kk ≠ 0 := fun e => h4 ⟨h, e⟩; simp; omega) kk (by omega) (by omega) s (.ok () l.tail) _ j w hc hp hp1 (by omega) (by omega) h (fun s k e p w h1 h2 => by simpa using hrec false s k e p w h1 h2) (by rw [h]; rfl)
  ·exact pRule5 T A c last _ (by omega) s (.ok () l.tail) _ j w hc hp hp1 (by omega) (by omega) h (by rw [h]; rfl)
  ·exact pRule6 T A c last _ (by omega) s (.ok () l.tail) _ j w hc hp hp1 (by omega) (by omega) h (by rw [h]; rfl)
  ·exact pRule7 T A c last _ (by omega) s (.ok () l.tail) _ j w hc hp hp1 (by omega) (by omega) h (by rw [h]; rfl)
  ·exact pRule8 T A c last _ (by omega) s (.ok () l.tail) _ j w hc hp hp1 (by omega) (by omega) h (by rw [h]; rfl)
  ·exact pRule9 T A c last _ (by omega) s (.ok () l.tail) _ j w hc hp hp1 (by omega) (by omega) h (by rw [h]; rfl)
end Go.Proofs.YtjonaidancomgaaGreatDoor

namespace Go.Proofs.YtjonaidancomgaaGreatDoor
open Go.RowKit
open Lx (Tok)

theorem Lx.decVal_take {l : List UInt8} {k : Nat} {c : UInt8} (h : l[k]? = some c) : Lx.decVal 0 (l.take (k + 1)) = 10 * Lx.decVal 0 (l.take k) + (c.toNat - 48) := by
 rw [List.take_add_one, h]
 exact Lx.decVal_snoc _ _ _
theorem Lx.decVal_le (l : List UInt8) (k : Nat) : Lx.decVal 0 (l.take k) ≤ Lx.decVal 0 l := by
 have e : Lx.decVal 0 l = Lx.decVal (Lx.decVal 0 (l.take k)) (l.drop k) := by
  unfold Lx.decVal
  rw [← List.foldl_append, List.take_append_drop]
 rw [e]
 exact Lx.decVal_ge _ _

def NumPost (s : List UInt8) (w : World) (e : Ending) (w' : World) : Prop :=
 ∃ (v : Int) (b : Bool), e = .returned (.tuple #[.int .i64 v, .bool b]) ∧ (match Lx.number s with | some n => v = n ∧ b = true | none => b = false) ∧ ∃ k, w' = w.drewN k

set_option maxHeartbeats 1000000 in
theorem rNumber (s : ByteArray) (w : World) (hs : s.size ≤ 65536) (h0 : 0 < s.size) (hf : s.data.toList.all Lx.figure = true) :
  Calls Tryz.prog 168 #[.string s] w (NumPost s.data.toList w) := by
 go_enter Tryz.func168, Tryz.ntmps168
 go_wp2
 go_loop [4, 5] (fun n i => ∃ k : Nat, k ≤ s.size ∧ i = .int .i64 k ∧ n = .int .i64 (Lx.decVal 0 (s.data.toList.take k)) ∧ Lx.decVal 0 (s.data.toList.take k) ≤ 1099511627776) (fun _ i => s.size - (intOf i).toNat)
 case atStart => exact ⟨0, by omega, rfl, rfl, by simp [Lx.decVal]⟩
 case round =>
  obtain ⟨k, hk, rfl, rfl, hb⟩ := hrel
  obtain ⟨V, hV⟩ : ∃ V, V = Lx.decVal 0 (s.data.toList.take k) := ⟨_, rfl⟩
  rw [← hV] at hb ⊢
  have HV := Lh hV; clear hV
  by_cases hlt : k < s.size
  ·have hget : s.data.toList[k]? = some s[k] := by
    rw [List.getElem?_eq_getElem (by rw [Lx.ba_len]; exact hlt)]
    rw [Lx.ba_get s k hlt]
   have hnext := Lx.decVal_take hget
   have hfig := Lx.figure_nat (List.all_eq_true.1 hf s[k] (List.mem_of_getElem? hget))
   have hle := Lx.decVal_le s.data.toList (k + 1)
   rw [← HV.out] at hnext
   have hgb : (s[k].toNat : Int) ≤ 57 := by omega
   have hgc : 48 ≤ (s[k].toNat : Int) := by omega
   have Hf := Lh hf; have Hget := Lh hget
   clear hf hget
   by_cases hbig : 1099511627776 < 10 * V + (s[k].toNat - 48)
   ·have hnone : Lx.number s.data.toList = none := Lx.number_big (by omega)
    have Hnone := Lh hnone
    have Hn := Lh hnext; have Hle := Lh hle
    clear hnone hnext hle
    have hb2 : (1099511627776 : Int) < 10 * (V : Int) + ((s[k].toNat : Int) - 48) := by omega
    go_wp2
    go_ret2
    refine ⟨_, _, rfl, ?_, 0, rfl⟩
    rw [Hnone.out]
   ·have hb2 : 10 * (V : Int) + ((s[k].toNat : Int) - 48) ≤ 1099511627776 := by omega
    have Hn := Lh hnext; have Hle := Lh hle
    clear hnext hle
    go_wp2
    go_round
    case rel => exact ⟨k + 1, by omega, by go_num, by rw [Hn.out]; go_num, by rw [Hn.out]; omega⟩
    case measure => simp [intOf]; omega
  ·obtain rfl : k = s.size := by omega
   have hall : Lx.decVal 0 s.data.toList = V := by
    have := HV.out
    rw [List.take_of_length_le (by rw [Lx.ba_len]; omega)] at this
    exact this.symm
   have hget : s.data.toList[0]? = some s[0] := by
    rw [List.getElem?_eq_getElem (by rw [Lx.ba_len]; exact h0)]
    rw [Lx.ba_get s 0 h0]
   have hhead : s.data.toList.head? = some s[0] := by rw [List.head?_eq_getElem?]; exact hget
   have hlen := Lx.ba_len s
   have Hf := Lh hf; clear hf hget
   by_cases h1 : s.size = 1
   ·have hnum : Lx.number s.data.toList = some V := by
     rw [← hall]
     exact Lx.number_some (by omega) (Or.inl (by omega))
    have h1' : ((s.size : Int) == 1) = true := beq_iff_eq.2 (by omega)
    have Hnum := Lh hnum; have H1 := Lh h1; have Hh := Lh hhead
    clear hnum hall hlen h1 hhead
    go_wp2
    go_quiet (fail)
    go_wp2
    go_ret2
    refine ⟨_, _, rfl, ?_, ?_⟩
    ·rw [Hnum.out]; exact ⟨rfl, rfl⟩
    ·exact ⟨_, rfl⟩
   ·have h1' : ((s.size : Int) == 1) = false := beq_eq_false_iff_ne.2 (by omega)
    by_cases h48 : s[0] = 48
    ·have hnum : Lx.number s.data.toList = none := Lx.number_zero (by
      rintro (h | h)
      ·omega
      ·exact h (by rw [hhead, h48]))
     have h48' : ((s[0].toNat : Int) != 48) = false := by rw [h48]; rfl
     have Hnum := Lh hnum; have H1 := Lh h1; have Hh := Lh hhead; have H48 := Lh h48
     clear hnum hall hlen h1 hhead h48
     go_wp2
     go_quiet (fail)
     go_wp2
     go_ret2
     refine ⟨_, _, rfl, ?_, ?_⟩
     ·rw [Hnum.out]
     ·exact ⟨_, rfl⟩
    ·have hnum : Lx.number s.data.toList = some V := by
      rw [← hall]
      exact Lx.number_some (by omega) (Or.inr (by rw [hhead]; intro h; injection h with h; exact h48 h))
     have h48' : ((s[0].toNat : Int) != 48) = true := by
      rw [bne_iff_ne]
      intro h
      exact h48 (UInt8.toNat_inj.1 (by have : (48 : UInt8).toNat = 48 := rfl; omega))
     have Hnum := Lh hnum; have H1 := Lh h1; have Hh := Lh hhead; have H48 := Lh h48
     clear hnum hall hlen h1 hhead h48
     go_wp2
     go_quiet (fail)
     go_wp2
     go_ret2
     refine ⟨_, _, rfl, ?_, ?_⟩
     ·rw [Hnum.out]; exact ⟨rfl, rfl⟩
     ·exact ⟨_, rfl⟩
end Go.Proofs.YtjonaidancomgaaGreatDoor
