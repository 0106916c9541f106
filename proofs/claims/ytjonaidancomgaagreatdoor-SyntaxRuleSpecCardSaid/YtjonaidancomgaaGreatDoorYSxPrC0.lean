/- Parts of the proof, joined into one text: SxPrC0, SxRdB, SxPrD0. -/
import Derived.Test.YtjonaidancomgaaGreatDoorYSxPrR
import Derived.Test.YtjonaidancomgaaGreatDoorYSxPut

namespace Go.Proofs.YtjonaidancomgaaGreatDoor
open Go.RowKit

set_option maxRecDepth 20000 in
set_option maxHeartbeats 4000000 in
theorem lCourse000 (g N : Nat) (_hN : N ≤ g) (nm : List UInt8) (no cr : Int) (aA : Option Addr) (ac : Nat) (bA : Option Addr) (bc : Nat) (w : World) (_he : EnvS N w) (l : List Lx.Tok) (h : PrSt g l w) (ts : List Lx.Tok) (hts : ts = [Sx.nameT Sx.wCourse, Sx.numT no, Sx.nameT nm, Sx.numT cr] ++ (([Sx.sgT 123] ++ (([Sx.sgT 125]))))) (hlen : l.length + ts.length ≤ 60000) :
  Calls Tryz.prog 49 #[.pointer (some ⟨g, 0, none⟩), .agg #[.string (Lx.bs nm), .int .i64 no, .int .i64 cr, .int .i64 0, .int .i64 1, .int .i64 0, .string ⟨#[]⟩, .int .i64 0, .int .i64 0, .slice aA 0 ac, .int .i64 2, .int .i64 0, .string ⟨#[]⟩, .int .i64 0, .int .i64 0, .slice bA 0 bc]] w (TPost g l ts w) := by
 have hglt := h.lt
 have Hts := Lh hts
 rw [hts] at hlen
 obtain ⟨W, hW⟩ : ∃ W, W = w.alloc (.cells #[.string (Lx.bs nm), .int .i64 no, .int .i64 cr, .int .i64 0, .int .i64 1, .int .i64 0, .string ⟨#[]⟩, .int .i64 0, .int .i64 0, .slice aA 0 ac, .int .i64 2, .int .i64 0, .string ⟨#[]⟩, .int .i64 0, .int .i64 0, .slice bA 0 bc] 58) := ⟨_, rfl⟩
 have hbw : Below w.heap.size w W := by rw [hW]; exact (Below.refl _ _).alloc (Nat.le_refl _) _
 have hbx : Blk W w.heap.size 58 #[.string (Lx.bs nm), .int .i64 no, .int .i64 cr, .int .i64 0, .int .i64 1, .int .i64 0, .string ⟨#[]⟩, .int .i64 0, .int .i64 0, .slice aA 0 ac, .int .i64 2, .int .i64 0, .string ⟨#[]⟩, .int .i64 0, .int .i64 0, .slice bA 0 bc] := by rw [hW]; exact Blk.new _ _ _
 have hpi : PI g l W W := PI.start (h.next hbw)
 have H := Lh hpi; have Hbw := Lh hbw; have Hbx := Lh hbx
 have hWs : W.heap.size = w.heap.size + 1 := by rw [hW]; simp
 clear h _he hpi hbw hbx hts
 go_enter Tryz.func49, Tryz.ntmps49
 go_wp2_with fail
 rw [← hW]
 refine (H.out.put [.name Sx.wCourse, .num no, .name nm, .num cr] (ts := [Sx.nameT Sx.wCourse, Sx.numT no, Sx.nameT nm, Sx.numT cr]) hWs.symm rfl rfl rfl (by simp) (by simp at hlen ⊢; omega) (by simp)).mono ?_
 rintro e w1 ⟨rfl, h⟩
 have H1 := Lh h
 obtain ⟨x0, x1, x2, x3, x4, x5, x6, x7, x8, x9, x10, x11, x12, x13, x14, x15, z1⟩ := cells16 (h.blk Hbx.out (by decide) (by decide))
 clear h
 go_wp2_with fail
 refine (H1.out.put [.sign [123]] (ts := [Sx.sgT 123]) rfl rfl rfl rfl (by simp) (by simp at hlen ⊢; omega) (by simp)).mono ?_
 rintro e w2 ⟨rfl, h⟩
 have H2 := Lh h
 obtain ⟨x0, x1, x2, x3, x4, x5, x6, x7, x8, x9, x10, x11, x12, x13, x14, x15, z2⟩ := cells16 (h.blk Hbx.out (by decide) (by decide))
 clear h
 go_wp2_with fail
 refine (H2.out.put [.sign [125]] (ts := [Sx.sgT 125]) rfl rfl rfl rfl (by simp) (by simp at hlen ⊢; omega) (by simp)).mono ?_
 rintro e w3 ⟨rfl, h⟩
 have H3 := Lh h
 obtain ⟨x0, x1, x2, x3, x4, x5, x6, x7, x8, x9, x10, x11, x12, x13, x14, x15, z3⟩ := cells16 (h.blk Hbx.out (by decide) (by decide))
 clear h
 go_wp2_with fail
 go_end0
 exact ⟨rfl, by have := H3.out.st; rw [Hts.out]; simpa using this, (Hbw.out.mono (by omega)).trans H3.out.bel, (KP.below Hbw.out).trans H3.out.kp⟩
set_option maxRecDepth 20000 in
set_option maxHeartbeats 4000000 in
theorem lCourse010 (g N : Nat) (_hN : N ≤ g) (nm : List UInt8) (no cr : Int) (ar : Sx.Rule) (a0 a1 : Int) (a2 : ByteArray) (a3 a4 : Int) (aA : Option Addr) (am ac : Nat) (aq : (a0 != 1) = true) (bA : Option Addr) (bc : Nat) (w : World) (_he : EnvS N w) (ha : RuleSays g w ar [.int .i64 a0, .int .i64 a1, .string a2, .int .i64 a3, .int .i64 a4, .slice aA am ac]) (l : List Lx.Tok) (h : PrSt g l w) (ts : List Lx.Tok) (hts : ts = [Sx.nameT Sx.wCourse, Sx.numT no, Sx.nameT nm, Sx.numT cr] ++ (([Sx.sgT 123] ++ (Sx.nameT Sx.wNeed :: (Sx.ruleT ar ++ [Sx.sgT 59]) ++ ([Sx.sgT 125]))))) (hlen : l.length + ts.length ≤ 60000) :
  Calls Tryz.prog 49 #[.pointer (some ⟨g, 0, none⟩), .agg #[.string (Lx.bs nm), .int .i64 no, .int .i64 cr, .int .i64 0, .int .i64 a0, .int .i64 a1, .string a2, .int .i64 a3, .int .i64 a4, .slice aA am ac, .int .i64 2, .int .i64 0, .string ⟨#[]⟩, .int .i64 0, .int .i64 0, .slice bA 0 bc]] w (TPost g l ts w) := by
 have hglt := h.lt
 have Hts := Lh hts
 rw [hts] at hlen
 obtain ⟨W, hW⟩ : ∃ W, W = w.alloc (.cells #[.string (Lx.bs nm), .int .i64 no, .int .i64 cr, .int .i64 0, .int .i64 a0, .int .i64 a1, .string a2, .int .i64 a3, .int .i64 a4, .slice aA am ac, .int .i64 2, .int .i64 0, .string ⟨#[]⟩, .int .i64 0, .int .i64 0, .slice bA 0 bc] 58) := ⟨_, rfl⟩
 have hbw : Below w.heap.size w W := by rw [hW]; exact (Below.refl _ _).alloc (Nat.le_refl _) _
 have hbx : Blk W w.heap.size 58 #[.string (Lx.bs nm), .int .i64 no, .int .i64 cr, .int .i64 0, .int .i64 a0, .int .i64 a1, .string a2, .int .i64 a3, .int .i64 a4, .slice aA am ac, .int .i64 2, .int .i64 0, .string ⟨#[]⟩, .int .i64 0, .int .i64 0, .slice bA 0 bc] := by rw [hW]; exact Blk.new _ _ _
 have hpi : PI g l W W := PI.start (h.next hbw)
 have Ha := Lh (ha.later (hbw.mono (by omega)))
 have H := Lh hpi; have Hbw := Lh hbw; have Hbx := Lh hbx
 have hWs : W.heap.size = w.heap.size + 1 := by rw [hW]; simp
 clear h _he hpi hbw hbx hts ha
 go_enter Tryz.func49, Tryz.ntmps49
 go_wp2_with fail
 rw [← hW]
 refine (H.out.put [.name Sx.wCourse, .num no, .name nm, .num cr] (ts := [Sx.nameT Sx.wCourse, Sx.numT no, Sx.nameT nm, Sx.numT cr]) hWs.symm rfl rfl rfl (by simp) (by simp at hlen ⊢; omega) (by simp)).mono ?_
 rintro e w1 ⟨rfl, h⟩
 have H1 := Lh h
 obtain ⟨x0, x1, x2, x3, x4, x5, x6, x7, x8, x9, x10, x11, x12, x13, x14, x15, z1⟩ := cells16 (h.blk Hbx.out (by decide) (by decide))
 clear h
 go_wp2_with fail
 refine (H1.out.put [.sign [123]] (ts := [Sx.sgT 123]) rfl rfl rfl rfl (by simp) (by simp at hlen ⊢; omega) (by simp)).mono ?_
 rintro e w2 ⟨rfl, h⟩
 have H2 := Lh h
 obtain ⟨x0, x1, x2, x3, x4, x5, x6, x7, x8, x9, x10, x11, x12, x13, x14, x15, z2⟩ := cells16 (h.blk Hbx.out (by decide) (by decide))
 clear h
 go_wp2_with fail
 refine (H2.out.put [.name Sx.wNeed, .rule ar [.int .i64 a0, .int .i64 a1, .string a2, .int .i64 a3, .int .i64 a4, .slice aA am ac], .sign [59]] (ts := Sx.nameT Sx.wNeed :: (Sx.ruleT ar ++ [Sx.sgT 59])) rfl rfl rfl (by simp [PrIt.toks, Sx.nameT, Sx.sgT]) (by simp) (by simp at hlen ⊢; omega) (fun r c hr => by simp only [List.mem_cons, PrIt.rule.injEq, List.not_mem_nil, or_false, false_or, reduceCtorEq] at hr; rw [hr.1, hr.2]; exact Ha.out)).mono ?_
 rintro e w3 ⟨rfl, h⟩
 have H3 := Lh h
 obtain ⟨x0, x1, x2, x3, x4, x5, x6, x7, x8, x9, x10, x11, x12, x13, x14, x15, z3⟩ := cells16 (h.blk Hbx.out (by decide) (by decide))
 clear h
 go_wp2_with fail
 refine (H3.out.put [.sign [125]] (ts := [Sx.sgT 125]) rfl rfl rfl rfl (by simp) (by simp at hlen ⊢; omega) (by simp)).mono ?_
 rintro e w4 ⟨rfl, h⟩
 have H4 := Lh h
 obtain ⟨x0, x1, x2, x3, x4, x5, x6, x7, x8, x9, x10, x11, x12, x13, x14, x15, z4⟩ := cells16 (h.blk Hbx.out (by decide) (by decide))
 clear h
 go_wp2_with fail
 go_end0
 exact ⟨rfl, by have := H4.out.st; rw [Hts.out]; simpa using this, (Hbw.out.mono (by omega)).trans H4.out.bel, (KP.below Hbw.out).trans H4.out.kp⟩
set_option maxRecDepth 20000 in
set_option maxHeartbeats 4000000 in
theorem lCourse020 (g N : Nat) (_hN : N ≤ g) (nm : List UInt8) (no cr : Int) (ar : Sx.Rule) (a1 : Int) (a2 : ByteArray) (a3 a4 : Int) (aA : Option Addr) (am ac : Nat) (aq : decide (0 < am) = true) (bA : Option Addr) (bc : Nat) (w : World) (_he : EnvS N w) (ha : RuleSays g w ar [.int .i64 1, .int .i64 a1, .string a2, .int .i64 a3, .int .i64 a4, .slice aA am ac]) (l : List Lx.Tok) (h : PrSt g l w) (ts : List Lx.Tok) (hts : ts = [Sx.nameT Sx.wCourse, Sx.numT no, Sx.nameT nm, Sx.numT cr] ++ (([Sx.sgT 123] ++ (Sx.nameT Sx.wNeed :: (Sx.ruleT ar ++ [Sx.sgT 59]) ++ ([Sx.sgT 125]))))) (hlen : l.length + ts.length ≤ 60000) :
  Calls Tryz.prog 49 #[.pointer (some ⟨g, 0, none⟩), .agg #[.string (Lx.bs nm), .int .i64 no, .int .i64 cr, .int .i64 0, .int .i64 1, .int .i64 a1, .string a2, .int .i64 a3, .int .i64 a4, .slice aA am ac, .int .i64 2, .int .i64 0, .string ⟨#[]⟩, .int .i64 0, .int .i64 0, .slice bA 0 bc]] w (TPost g l ts w) := by
 have hglt := h.lt
 have Hts := Lh hts
 rw [hts] at hlen
 obtain ⟨W, hW⟩ : ∃ W, W = w.alloc (.cells #[.string (Lx.bs nm), .int .i64 no, .int .i64 cr, .int .i64 0, .int .i64 1, .int .i64 a1, .string a2, .int .i64 a3, .int .i64 a4, .slice aA am ac, .int .i64 2, .int .i64 0, .string ⟨#[]⟩, .int .i64 0, .int .i64 0, .slice bA 0 bc] 58) := ⟨_, rfl⟩
 have hbw : Below w.heap.size w W := by rw [hW]; exact (Below.refl _ _).alloc (Nat.le_refl _) _
 have hbx : Blk W w.heap.size 58 #[.string (Lx.bs nm), .int .i64 no, .int .i64 cr, .int .i64 0, .int .i64 1, .int .i64 a1, .string a2, .int .i64 a3, .int .i64 a4, .slice aA am ac, .int .i64 2, .int .i64 0, .string ⟨#[]⟩, .int .i64 0, .int .i64 0, .slice bA 0 bc] := by rw [hW]; exact Blk.new _ _ _
 have hpi : PI g l W W := PI.start (h.next hbw)
 have Ha := Lh (ha.later (hbw.mono (by omega)))
 have H := Lh hpi; have Hbw := Lh hbw; have Hbx := Lh hbx
 have hWs : W.heap.size = w.heap.size + 1 := by rw [hW]; simp
 clear h _he hpi hbw hbx hts ha
 go_enter Tryz.func49, Tryz.ntmps49
 go_wp2_with fail
 rw [← hW]
 refine (H.out.put [.name Sx.wCourse, .num no, .name nm, .num cr] (ts := [Sx.nameT Sx.wCourse, Sx.numT no, Sx.nameT nm, Sx.numT cr]) hWs.symm rfl rfl rfl (by simp) (by simp at hlen ⊢; omega) (by simp)).mono ?_
 rintro e w1 ⟨rfl, h⟩
 have H1 := Lh h
 obtain ⟨x0, x1, x2, x3, x4, x5, x6, x7, x8, x9, x10, x11, x12, x13, x14, x15, z1⟩ := cells16 (h.blk Hbx.out (by decide) (by decide))
 clear h
 go_wp2_with fail
 refine (H1.out.put [.sign [123]] (ts := [Sx.sgT 123]) rfl rfl rfl rfl (by simp) (by simp at hlen ⊢; omega) (by simp)).mono ?_
 rintro e w2 ⟨rfl, h⟩
 have H2 := Lh h
 obtain ⟨x0, x1, x2, x3, x4, x5, x6, x7, x8, x9, x10, x11, x12, x13, x14, x15, z2⟩ := cells16 (h.blk Hbx.out (by decide) (by decide))
 clear h
 go_wp2_with fail
 refine (H2.out.put [.name Sx.wNeed, .rule ar [.int .i64 1, .int .i64 a1, .string a2, .int .i64 a3, .int .i64 a4, .slice aA am ac], .sign [59]] (ts := Sx.nameT Sx.wNeed :: (Sx.ruleT ar ++ [Sx.sgT 59])) rfl rfl rfl (by simp [PrIt.toks, Sx.nameT, Sx.sgT]) (by simp) (by simp at hlen ⊢; omega) (fun r c hr => by simp only [List.mem_cons, PrIt.rule.injEq, List.not_mem_nil, or_false, false_or, reduceCtorEq] at hr; rw [hr.1, hr.2]; exact Ha.out)).mono ?_
 rintro e w3 ⟨rfl, h⟩
 have H3 := Lh h
 obtain ⟨x0, x1, x2, x3, x4, x5, x6, x7, x8, x9, x10, x11, x12, x13, x14, x15, z3⟩ := cells16 (h.blk Hbx.out (by decide) (by decide))
 clear h
 go_wp2_with fail
 refine (H3.out.put [.sign [125]] (ts := [Sx.sgT 125]) rfl rfl rfl rfl (by simp) (by simp at hlen ⊢; omega) (by simp)).mono ?_
 rintro e w4 ⟨rfl, h⟩
 have H4 := Lh h
 obtain ⟨x0, x1, x2, x3, x4, x5, x6, x7, x8, x9, x10, x11, x12, x13, x14, x15, z4⟩ := cells16 (h.blk Hbx.out (by decide) (by decide))
 clear h
 go_wp2_with fail
 go_end0
 exact ⟨rfl, by have := H4.out.st; rw [Hts.out]; simpa using this, (Hbw.out.mono (by omega)).trans H4.out.bel, (KP.below Hbw.out).trans H4.out.kp⟩
end Go.Proofs.YtjonaidancomgaaGreatDoor

namespace Go.Proofs.YtjonaidancomgaaGreatDoor.Sx
open Lx (Tok)
variable {last : Int} {l m : List Tok}

def Course.un (x : Course) : Course := { x with need := x.need.un, bar := x.bar.un }
def Pair.un (x : Pair) : Pair := { x with x := unref x.a x.x, y := unref x.b x.y }
def Req.un (r : Req) : Req := { r with froms := (r.names.zip r.froms).map fun p => unref p.1 p.2 }
def Prog.un (x : Prog) : Prog := { x with reqs := x.reqs.map Req.un }
def Cat.un (c : Cat) : Cat := { c with courses := c.courses.map Course.un, same := c.same.map Pair.un, progs := c.progs.map Prog.un }

theorem rule_dflt {k : Nat} {r : Rule} (h : ruleOk (k + 1) r = true) {o : Int} (ho : o = 1 ∨ o = 2) (h1 : r.op = o) (h2 : r.kids = []) : r = .mk o 0 [] 0 0 [] := by
 obtain ⟨op, co, nm, n, d, ks⟩ := r
 obtain ⟨_, _, hop⟩ := ruleOk_op h
 simp only [Rule.op] at h1
 simp only [Rule.kids] at h2
 subst h1; subst h2
 rcases hop with ⟨_, rfl, rfl, rfl, rfl⟩ | h' | h' | h' | h' | h' | h' | h' <;> first | rfl | omega
def rep (l : List Tok) : Int × List Tok := match find repeatWords l with | some i => ((i : Int), l.tail) | none => (0, l)
end Go.Proofs.YtjonaidancomgaaGreatDoor.Sx

namespace Go.Proofs.YtjonaidancomgaaGreatDoor
open Go.RowKit

theorem lCoursePr0 (g N : Nat) (hN : N ≤ g) (x : Sx.Course) (hx : Sx.courseOk x = true) (hx0 : x.rep = 0 ∧ x.bar = .mk 2 0 [] 0 0 []) (cs : List Value) (w : World) (he : EnvS N w) (hat : CourseAt w (fun b => b < g) x cs) (l : List Lx.Tok) (W : World) (hst : PrSt g l W) (hb : Below g w W) (hl : l.length + (Sx.courseT x).length ≤ 60000) :
  Calls Tryz.prog 49 #[.pointer (some ⟨g, 0, none⟩), .agg cs.toArray] W (TPost g l (Sx.courseT x) W) := by
 have heW := he.keep (hb.mono hN)
 replace hat := CourseAt.keep (low_keep hb) hat
 obtain ⟨nm, no, cr, rp, ⟨o1, c1, n1, x1, d1, k1⟩, ⟨o2, c2, n2, x2, d2, k2⟩⟩ := x
 obtain ⟨cn, cb, rfl, hn, h1, h2⟩ := hat
 unfold Sx.courseOk at hx
 simp only [Bool.and_eq_true, Sx.inB_iff] at hx
 obtain ⟨⟨⟨⟨⟨_, _⟩, _⟩, hr⟩, q1⟩, q2⟩ := hx
 have sa := lRulePr g N hN 16 _ q1 cn W heW h1
 have hA : (o1 = 1 ∧ c1 = 0 ∧ n1 = [] ∧ x1 = 0 ∧ d1 = 0 ∧ k1 = []) ∨ o1 ≠ 1 ∨ (o1 = 1 ∧ k1 ≠ []) := by
  by_cases h : o1 = 1
  ·by_cases hk : k1 = []
   ·have := Sx.rule_dflt q1 (.inl rfl) h hk
    injection this with a1 a2 a3 a4 a5 a6
    exact .inl ⟨a1, a2, a3, a4, a5, a6⟩
   ·exact .inr (.inr ⟨h, hk⟩)
  ·exact .inr (.inl h)
 rw [RuleAt] at h1 h2
 obtain ⟨A1, e1, rfl, -, -, -⟩ := h1
 obtain ⟨A2, e2, rfl, -, -, -⟩ := h2
 obtain ⟨rfl, hx2⟩ := hx0
 injection hx2 with a1 a2 a3 a4 a5 a6
 subst a1; subst a2; subst a3; subst a4; subst a5; subst a6
 clear q1 q2 hr hn he hb
 ·rcases hA with ⟨rfl, rfl, rfl, rfl, rfl, rfl⟩ | hA | ⟨rfl, hA⟩
  ·exact lCourse000 g N hN nm no cr _ _ _ _ W heW l hst _ (by simp [Sx.courseT, Sx.Rule.op, Sx.Rule.kids]) hl
  ·exact lCourse010 g N hN nm no cr _ _ _ _ _ _ _ _ _ (by simpa using hA) _ _ W heW sa l hst _ (by simp [Sx.courseT, Sx.Rule.op, Sx.Rule.kids, hA]) hl
  ·exact lCourse020 g N hN nm no cr _ _ _ _ _ _ _ _ (by have := List.length_pos_iff.2 hA; simpa using this) _ _ W heW sa l hst _ (by simp [Sx.courseT, Sx.Rule.op, Sx.Rule.kids, hA]) hl
end Go.Proofs.YtjonaidancomgaaGreatDoor
