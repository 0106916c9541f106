/- Parts of the proof, joined into one text: SxPrP, SxEqf, SxCells. -/
import Derived.Test.YtjonaidancomgaaGreatDoorYSxPrC0
import Derived.Test.YtjonaidancomgaaGreatDoorYSxRok
import Derived.Test.YtjonaidancomgaaGreatDoorYSxAll
import Derived.Test.YtjonaidancomgaaGreatDoorYSxSame
import Derived.Test.YtjonaidancomgaaGreatDoorYLxE
import Derived.Deep.WholeRow

namespace Go.Proofs.YtjonaidancomgaaGreatDoor
open Go.RowKit

theorem form_course16 {w : World} {S : Nat → Prop} {x : Sx.Course} {cs : List Value} (h : CourseAt w S x cs) : ∃ i0 i1 i2 i3 i4 i5 s6 i7 i8 A9 n9 c9 j0 j1 t2 j3 j4 B5 m5 d5, cs = [.string i0, .int .i64 i1, .int .i64 i2, .int .i64 i3, .int .i64 i4, .int .i64 i5, .string s6, .int .i64 i7, .int .i64 i8, .slice A9 n9 c9, .int .i64 j0, .int .i64 j1, .string t2, .int .i64 j3, .int .i64 j4, .slice B5 m5 d5] := form_course h
theorem Sx.flat_le {x : Sx.Course} : ∀ {xs : List Sx.Course} {i : Nat}, xs[i]? = some x → ((xs.take i).flatMap Sx.courseT).length + (Sx.courseT x).length ≤ (xs.flatMap Sx.courseT).length
 | [], i, h => by simp at h
 | y :: xs, 0, h => by simp at h; subst h; simp
 | y :: xs, i + 1, h => by have := Sx.flat_le (xs := xs) (i := i) (by simpa using h); simp at *; omega
set_option maxRecDepth 20000 in
set_option maxHeartbeats 8000000 in
theorem sPrintC (N : Nat) (xs : List Sx.Course) (A : Option Addr) (n c : Nat) (hn : n = xs.length) (A1 : Option Addr) (c1 : Nat) (A2 : Option Addr) (c2 : Nat) (A3 : Option Addr) (c3 : Nat) (A4 : Option Addr) (c4 : Nat) (A5 : Option Addr) (c5 : Nat) (A6 : Option Addr) (c6 : Nat) (s : List UInt8) (w : World) (he : EnvS N w) (hr : Row w (Old w) A 16 (CourseAt w (Old w)) xs) (hk : Sx.catOk { Sx.Cat.none with courses := xs } = true) (hx0 : ∀ x ∈ xs, x.rep = 0 ∧ x.bar = .mk 2 0 [] 0 0 [])
  (hl : (xs.flatMap Sx.courseT).length ≤ 60000) (ht : Lx.text (xs.flatMap Sx.courseT) = some s) (hx : ∀ t ∈ xs.flatMap Sx.courseT, t.text.length ≤ 65536) :
  Calls Tryz.prog 20 #[.agg #[.slice A n c, .slice A1 0 c1, .slice A2 0 c2, .slice A3 0 c3, .slice A4 0 c4, .slice A5 0 c5, .slice A6 0 c6]] w (SrcPost s 0 w) := by
 obtain ⟨W, hW⟩ : ∃ W, W = w.alloc (.cells #[.slice A n c, .slice A1 0 c1, .slice A2 0 c2, .slice A3 0 c3, .slice A4 0 c4, .slice A5 0 c5, .slice A6 0 c6] 30) := ⟨_, rfl⟩
 have hbw : Below w.heap.size w W := by rw [hW]; exact (Below.refl _ _).alloc (Nat.le_refl _) _
 have hbx : Blk W w.heap.size 30 #[.slice A n c, .slice A1 0 c1, .slice A2 0 c2, .slice A3 0 c3, .slice A4 0 c4, .slice A5 0 c5, .slice A6 0 c6] := by rw [hW]; exact Blk.new _ _ _
 have K := Lh (okCat { Sx.Cat.none with courses := xs } [.slice A n c, .slice A1 0 c1, .slice A2 0 c2, .slice A3 0 c3, .slice A4 0 c4, .slice A5 0 c5, .slice A6 0 c6] W ⟨A, c, A1, c1, A2, c2, A3, c3, A4, c4, A5, c5, A6, c6, by rw [hn]; rfl, hr.keep (P' := CourseAt W (Old W)) (old_keep hbw) fun _ _ _ h => old_course hbw h, Row.nil _ _ _ _ _, Row.nil _ _ _ _ _, Row.nil _ _ _ _ _, Row.nil _ _ _ _ _, Row.nil _ _ _ _ _, Row.nil _ _ _ _ _⟩)
 rw [hk] at K
 have hz := hr.len
 rw [← hn] at hz
 have hok : ∀ x ∈ xs, Sx.courseOk x = true := by
  unfold Sx.catOk at hk
  simp only [Bool.and_eq_true, List.all_eq_true] at hk
  exact hk.1.1.1.1.1.1
 have HB := Lh hbw; have HBx := Lh hbx; have HE := Lh he; have Hr := Lh hr; have Hok := Lh hok; have Hl := Lh hl; have Ht := Lh ht; have Hx := Lh hx; have Hn := Lh hn; have Hx0 := Lh hx0
 have hN := he.size
 clear hr hk hbw hbx he hl ht hx hok hn hx0
 go_enter Tryz.func20, Tryz.ntmps20
 go_wp2_with fail
 rw [← hW]
 refine K.out.mono ?_
 rintro e w1 ⟨rfl, hb⟩
 have HB1 := Lh (HB.out.trans (hb.mono HB.out.size))
 have y := HBx.out.below hb HBx.out.lt
 have Hy := Lh y
 have x0 := y.cell 0; have x1 := y.cell 1; have x2 := y.cell 2; have x3 := y.cell 3; have x4 := y.cell 4; have x5 := y.cell 5; have x6 := y.cell 6
 simp at x0 x1 x2 x3 x4 x5 x6
 have z1 := y.lt
 clear hb y
 go_wp2_with fail
 obtain ⟨W2, hW2⟩ : ∃ W2, W2 = w1.alloc (.cells #[.slice none 0 0] 110) := ⟨_, rfl⟩
 have hb2 : Below w1.heap.size w1 W2 := by rw [hW2]; exact (Below.refl _ _).alloc (Nat.le_refl _) _
 have hb3 := HB1.out.trans (hb2.mono HB1.out.size)
 have hst : PrSt w1.heap.size [] W2 := by rw [hW2]; exact PrSt.new w1
 have hy2 := Hy.out.below hb2 z1
 have hN1 : N ≤ w1.heap.size := Nat.le_trans hN HB1.out.size
 have hsay : ∀ x ∈ xs, ∀ cs, CourseAt W2 (fun b => b < w1.heap.size) x cs → ∀ (l : List Lx.Tok) (W : World), PI w1.heap.size l W2 W → l.length + (Sx.courseT x).length ≤ 60000 → Calls Tryz.prog 49 #[.pointer (some ⟨w1.heap.size, 0, none⟩), .agg cs.toArray] W (PIPost w1.heap.size (l ++ Sx.courseT x) W2) := fun x hxm cs hat l W hW hl =>
  (lCoursePr0 w1.heap.size N hN1 x (Hok.out x hxm) (Hx0.out x hxm) cs W2 (HE.out.next hb3) hat l W hW.st hW.bel hl).mono fun e w' he => hW.post he
 have hrow := Hr.out.keep (S' := fun b => b < w1.heap.size) (P' := CourseAt W2 (fun b => b < w1.heap.size)) (fun b hb => ⟨Nat.lt_of_lt_of_le hb HB1.out.size, fun i => hb3.cell (p := ⟨b, i, none⟩) hb⟩) (fun _ _ _ h => CourseAt.keep (fun b hb => ⟨Nat.lt_of_lt_of_le hb HB1.out.size, fun i => hb3.cell (p := ⟨b, i, none⟩) hb⟩) h)
 have Hsay := Lh hsay; have Hrow := Lh hrow; have HB3 := Lh hb3; have Hy2 := Lh hy2
 have HP0 : Hid (PI w1.heap.size ((xs.take 0).flatMap Sx.courseT) W2 W2) := Lh (by simpa using PI.start hst)
 rw [← hW2]
 clear hsay hrow hb3 hb2 hst hy2
 go_loopg [25] n (fun gk v25 wr => ∃ i : Nat, v25 = .int .i64 i ∧ i + gk = n ∧ Hid (PI w1.heap.size ((xs.take i).flatMap Sx.courseT) W2 wr))
 case atStart => exact ⟨0, rfl, by omega, HP0⟩
 case round =>
  obtain ⟨i, rfl, hi, HP⟩ := hrel
  have hgr := HP.out.st.lt
  have yb := HP.out.blk Hy2.out (by decide) (by decide)
  have x0 := yb.cell 0; have x1 := yb.cell 1; have x2 := yb.cell 2; have x3 := yb.cell 3; have x4 := yb.cell 4; have x5 := yb.cell 5; have x6 := yb.cell 6
  simp at x0 x1 x2 x3 x4 x5 x6
  have z2 := yb.lt
  clear yb
  by_cases hlt : i < n
  ·obtain ⟨x, hxi⟩ : ∃ x, xs[i]? = some x := ⟨_, List.getElem?_eq_getElem (by have := Hn.out; omega)⟩
   obtain ⟨bk, ok, cs, rfl, hS, hP, hck⟩ := Hrow.out.at_ i x hxi
   have hcall := Hsay.out x (List.mem_of_getElem? hxi) cs hP
   have hbk : bk < wr.heap.size := by omega
   have hbk2 : bk < w1.heap.size := hS
   obtain ⟨i0, i1, i2, i3, i4, i5, s6, i7, i8, A9, n9, c9, j0, j1, t2, j3, j4, B5, m5, d5, rfl⟩ := form_course16 hP
   have k0 := (HP.out.bel.cell (p := ⟨bk, _, none⟩) hbk2).trans (hck 0 _ rfl)
   have k1 := (HP.out.bel.cell (p := ⟨bk, _, none⟩) hbk2).trans (hck 1 _ rfl)
   have k2 := (HP.out.bel.cell (p := ⟨bk, _, none⟩) hbk2).trans (hck 2 _ rfl)
   have k3 := (HP.out.bel.cell (p := ⟨bk, _, none⟩) hbk2).trans (hck 3 _ rfl)
   have k4 := (HP.out.bel.cell (p := ⟨bk, _, none⟩) hbk2).trans (hck 4 _ rfl)
   have k5 := (HP.out.bel.cell (p := ⟨bk, _, none⟩) hbk2).trans (hck 5 _ rfl)
   have k6 := (HP.out.bel.cell (p := ⟨bk, _, none⟩) hbk2).trans (hck 6 _ rfl)
   have k7 := (HP.out.bel.cell (p := ⟨bk, _, none⟩) hbk2).trans (hck 7 _ rfl)
   have k8 := (HP.out.bel.cell (p := ⟨bk, _, none⟩) hbk2).trans (hck 8 _ rfl)
   have k9 := (HP.out.bel.cell (p := ⟨bk, _, none⟩) hbk2).trans (hck 9 _ rfl)
   have k10 := (HP.out.bel.cell (p := ⟨bk, _, none⟩) hbk2).trans (hck 10 _ rfl)
   have k11 := (HP.out.bel.cell (p := ⟨bk, _, none⟩) hbk2).trans (hck 11 _ rfl)
   have k12 := (HP.out.bel.cell (p := ⟨bk, _, none⟩) hbk2).trans (hck 12 _ rfl)
   have k13 := (HP.out.bel.cell (p := ⟨bk, _, none⟩) hbk2).trans (hck 13 _ rfl)
   have k14 := (HP.out.bel.cell (p := ⟨bk, _, none⟩) hbk2).trans (hck 14 _ rfl)
   have k15 := (HP.out.bel.cell (p := ⟨bk, _, none⟩) hbk2).trans (hck 15 _ rfl)
   simp only [Nat.add_zero] at k0 k1 k2 k3 k4 k5 k6 k7 k8 k9 k10 k11 k12 k13 k14 k15
   have hlen := Sx.flat_le hxi
   obtain ⟨W3, hW3⟩ : ∃ W3, W3 = wr.alloc (.cells #[.string i0, .int .i64 i1, .int .i64 i2, .int .i64 i3, .int .i64 i4, .int .i64 i5, .string s6, .int .i64 i7, .int .i64 i8, .slice A9 n9 c9, .int .i64 j0, .int .i64 j1, .string t2, .int .i64 j3, .int .i64 j4, .slice B5 m5 d5] 58) := ⟨_, rfl⟩
   have hPn : PI w1.heap.size ((xs.take i).flatMap Sx.courseT) W2 W3 := by rw [hW3]; exact HP.out.next ((Below.refl _ _).alloc (Nat.le_refl _) _)
   have Hcall := Lh (hcall _ W3 hPn (by have := Hl.out; omega))
   have Hxi := Lh hxi
   clear hcall hP hck hxi hlen hPn
   go_wp2_with fail
   rw [← hW3]
   refine Hcall.out.mono ?_
   rintro e w5 ⟨rfl, h5⟩
   have H5 := Lh h5
   clear h5 hW3 k0 k1 k2 k3 k4 k5 k6 k7 k8 k9 k10 k11 k12 k13 k14 k15
   go_wp2_with fail
   go_roundg (gk - 1)
   all_goals first
    | omega
    | exact ⟨i + 1, by go_num, by omega, Lh (by
      have := H5.out
      rw [List.take_add_one, Hxi.out]
      simpa using this)⟩
  ·obtain rfl : i = n := by omega
   have htake : (xs.take i).flatMap Sx.courseT = xs.flatMap Sx.courseT := by rw [Hn.out, List.take_length]
   rw [htake] at HP
   obtain ⟨At, ct, g0, hT⟩ := HP.out.st.toks (by have := Hl.out; omega) Hx.out
   have hb4 : Below w.heap.size w wr := HB3.out.trans (HP.out.bel.mono HB1.out.size)
   have Hfin := Lh (lTextOk At ct _ s wr (HE.out.next hb4).env hT (by have := Hl.out; omega) Ht.out)
   have HB4 := Lh hb4
   clear htake hT hb4 hi hlt
   obtain ⟨lt, hlt⟩ : ∃ lt, lt = (xs.flatMap Sx.courseT).length := ⟨_, rfl⟩
   rw [← hlt] at g0 Hfin
   clear hlt
   go_wp2_with fail
   go_loopg [35] 0 (fun _ v wq => v = .int .i64 0 ∧ wq = wr)
   case atStart => exact ⟨rfl, rfl⟩
   case round =>
    obtain ⟨rfl, rfl⟩ := hrel
    go_wp2_with fail
    go_loopg [62] 0 (fun _ v wq => v = .int .i64 0 ∧ wq = wr)
    case atStart => exact ⟨rfl, rfl⟩
    case round =>
     obtain ⟨rfl, rfl⟩ := hrel
     go_wp2_with fail
     go_loopg [72] 0 (fun _ v wq => v = .int .i64 0 ∧ wq = wr)
     case atStart => exact ⟨rfl, rfl⟩
     case round =>
      obtain ⟨rfl, rfl⟩ := hrel
      go_wp2_with fail
      go_loopg [94] 0 (fun _ v wq => v = .int .i64 0 ∧ wq = wr)
      case atStart => exact ⟨rfl, rfl⟩
      case round =>
       obtain ⟨rfl, rfl⟩ := hrel
       go_wp2_with fail
       go_loopg [112] 0 (fun _ v wq => v = .int .i64 0 ∧ wq = wr)
       case atStart => exact ⟨rfl, rfl⟩
       case round =>
        obtain ⟨rfl, rfl⟩ := hrel
        go_wp2_with fail
        go_loopg [134] 0 (fun _ v wq => v = .int .i64 0 ∧ wq = wr)
        case atStart => exact ⟨rfl, rfl⟩
        case round =>
         obtain ⟨rfl, rfl⟩ := hrel
         go_wp2_with fail
         refine Hfin.out.mono ?_
         rintro e w6 ⟨rfl, hb6, -⟩
         have HB6 := Lh (HB4.out.trans (hb6.mono HB4.out.size))
         clear hb6
         go_wp2_with fail
         go_ret2
         exact ⟨rfl, HB6.out⟩
end Go.Proofs.YtjonaidancomgaaGreatDoor

namespace Go.Proofs.YtjonaidancomgaaGreatDoor
open Go.RowKit

set_option maxRecDepth 20000 in
set_option maxHeartbeats 4000000 in
theorem eqf_rule (A B : Option Addr) (c d : Nat) (l l' : List Sx.Rule) (w : World) (hl : Row w (Old w) A 6 (RuleAt w (Old w)) l) (hl' : Row w (Old w) B 6 (RuleAt w (Old w)) l')
  (HC : ∀ x ∈ l, ∀ y ∈ l', ∀ ca cb W, Below w.heap.size w W → RuleAt W (Old W) x ca → RuleAt W (Old W) y cb → Calls Tryz.prog 62 #[.agg ca.toArray, .agg cb.toArray] W (BoolPost (decide (x = y)) W)) :
  Calls Tryz.prog 151 #[.slice A l.length c, .slice B l'.length d, .func (.func 62) #[] #[]] w (BoolPost (decide (l = l')) w) := by
 obtain ⟨m, hm⟩ : ∃ m, m = l.length := ⟨_, rfl⟩
 obtain ⟨m', hm'⟩ : ∃ m, m = l'.length := ⟨_, rfl⟩
 obtain ⟨R, hR⟩ : ∃ R, R = decide (l = l') := ⟨_, rfl⟩
 have z0 := hl.len; have z1 := hl'.len
 rw [← hm] at z0 ⊢
 rw [← hm'] at z1 ⊢
 rw [← hR]
 have Hl := Lh hl; have Hl' := Lh hl'; have Hm := Lh hm; have Hm' := Lh hm'; have HR := Lh hR; have HC' := Lh HC
 clear hl hl' hm hm' hR HC
 cases q0 : ((m : Int) != (m' : Int)) with
 | true =>
  have HR2 : Hid (R = false) := Lh (by rw [HR.out]; exact decide_eq_false fun e => by rw [Hm.out, Hm'.out, e] at q0; simp at q0)
  go_enter Tryz.func151, Tryz.ntmps151
  go_wp2_with fail
  go_ret
  exact ⟨ret_bool HR2.out.symm, Below.refl _ _⟩
 | false =>
 obtain rfl : m = m' := by have : (m : Int) = m' := (by simpa using q0); omega
 go_enter Tryz.func151, Tryz.ntmps151
 go_wp2_with fail
 go_loopg [17] m (fun gk v17 wr => ∃ i : Nat, v17 = .int .i64 i ∧ i + gk = m ∧ Hid (Below w.heap.size w wr) ∧ Hid (∀ j x y, j < i → l[j]? = some x → l'[j]? = some y → x = y))
 case atStart => exact ⟨0, rfl, by omega, Lh (Below.refl _ _), Lh (fun j x y hj => absurd hj (Nat.not_lt_zero j))⟩
 case round =>
  obtain ⟨i, rfl, hi, Hb, Hag⟩ := hrel
  have hws := Hb.out.size
  by_cases hlt : i < m
  ·obtain ⟨x, hx⟩ : ∃ x, l[i]? = some x := ⟨_, List.getElem?_eq_getElem (by have := Hm.out; omega)⟩
   obtain ⟨y, hy⟩ : ∃ y, l'[i]? = some y := ⟨_, List.getElem?_eq_getElem (by have := Hm'.out; omega)⟩
   have Hx := Lh hx; have Hy := Lh hy
   obtain ⟨bk, ok, cs, rfl, hS, hP, hck⟩ := Hl.out.at_ i x hx
   obtain ⟨bl, ol, cs', rfl, hS', hQ, hcl⟩ := Hl'.out.at_ i y hy
   have hcall := HC'.out x (List.mem_of_getElem? hx) y (List.mem_of_getElem? hy) cs cs'
   have hP' := old_rule Hb.out hP
   have hQ' := old_rule Hb.out hQ
   have hbk : bk < wr.heap.size := Nat.lt_of_lt_of_le hS hws
   have hbl : bl < wr.heap.size := Nat.lt_of_lt_of_le hS' hws
   obtain ⟨i0, i1, s2, i3, i4, A5, n5, c5, rfl⟩ := form_rule hP
   obtain ⟨i0', i1', s2', i3', i4', A5', n5', c5', rfl⟩ := form_rule hQ
   have k0 := (Hb.out.cell (p := ⟨bk, _, none⟩) hS).trans (hck 0 _ rfl)
   have l0 := (Hb.out.cell (p := ⟨bl, _, none⟩) hS').trans (hcl 0 _ rfl)
   have k1 := (Hb.out.cell (p := ⟨bk, _, none⟩) hS).trans (hck 1 _ rfl)
   have l1 := (Hb.out.cell (p := ⟨bl, _, none⟩) hS').trans (hcl 1 _ rfl)
   have k2 := (Hb.out.cell (p := ⟨bk, _, none⟩) hS).trans (hck 2 _ rfl)
   have l2 := (Hb.out.cell (p := ⟨bl, _, none⟩) hS').trans (hcl 2 _ rfl)
   have k3 := (Hb.out.cell (p := ⟨bk, _, none⟩) hS).trans (hck 3 _ rfl)
   have l3 := (Hb.out.cell (p := ⟨bl, _, none⟩) hS').trans (hcl 3 _ rfl)
   have k4 := (Hb.out.cell (p := ⟨bk, _, none⟩) hS).trans (hck 4 _ rfl)
   have l4 := (Hb.out.cell (p := ⟨bl, _, none⟩) hS').trans (hcl 4 _ rfl)
   have k5 := (Hb.out.cell (p := ⟨bk, _, none⟩) hS).trans (hck 5 _ rfl)
   have l5 := (Hb.out.cell (p := ⟨bl, _, none⟩) hS').trans (hcl 5 _ rfl)
   simp only [Nat.add_zero] at k0 l0 k1 l1 k2 l2 k3 l3 k4 l4 k5 l5
   obtain ⟨W, hW⟩ : ∃ W, W = (wr.alloc (.cells #[.int .i64 i0, .int .i64 i1, .string s2, .int .i64 i3, .int .i64 i4, .slice A5 n5 c5] 38)).alloc (.cells #[.int .i64 i0', .int .i64 i1', .string s2', .int .i64 i3', .int .i64 i4', .slice A5' n5' c5'] 38) := ⟨_, rfl⟩
   have hbw : Below wr.heap.size wr W := by rw [hW]; exact ((Below.refl _ _).alloc (Nat.le_refl _) _).alloc (by simp) _
   have hbW := Hb.out.trans (hbw.mono hws)
   have Hcall := Lh (hcall W hbW (old_rule hbw hP') (old_rule hbw hQ'))
   have HbW := Lh hbW
   clear hcall hP hP' hQ hQ' hck hcl hx hy hbw hbW
   obtain ⟨b, hb⟩ : ∃ b, b = decide (x = y) := ⟨_, rfl⟩
   rw [← hb] at Hcall
   have HB := Lh hb
   clear hb
   go_wp2_with fail
   rw [← hW]
   refine Hcall.out.mono ?_
   rintro e w5 ⟨rfl, hb5⟩
   have Hb5 := Lh hb5
   clear hb5 hW k0 l0 k1 l1 k2 l2 k3 l3 k4 l4 k5 l5
   cases b with
   | false =>
    have HR2 : Hid (R = false) := Lh (by
     rw [HR.out]
     exact decide_eq_false fun e => (of_decide_eq_false HB.out.symm) (by have h1 := Hx.out; rw [e, Hy.out] at h1; injection h1 with h1; exact h1.symm))
    go_wp2_with fail
    go_ret
    exact ⟨ret_bool HR2.out.symm, HbW.out.trans (Hb5.out.mono HbW.out.size)⟩
   | true =>
    have Hq := Lh (of_decide_eq_true HB.out.symm)
    go_wp2_with fail
    go_roundg (gk - 1)
    all_goals first
     | omega
     | exact ⟨i + 1, by go_num, by omega, Lh (HbW.out.trans (Hb5.out.mono HbW.out.size)), Lh (fun j a b hj h1 h2 => by
       rcases Nat.lt_or_ge j i with h3 | h3
       ·exact Hag.out j a b h3 h1 h2
       ·obtain rfl : j = i := by omega
        rw [Hx.out] at h1; rw [Hy.out] at h2
        injection h1 with h1; injection h2 with h2
        rw [← h1, ← h2]; exact Hq.out)⟩
  ·obtain rfl : i = m := by omega
   have HR2 : Hid (R = true) := Lh (by
    rw [HR.out]
    refine decide_eq_true (List.ext_getElem? fun j => ?_)
    rcases Nat.lt_or_ge j i with h3 | h3
    ·have h1 : l[j]? = some (l[j]'(by have := Hm.out; omega)) := List.getElem?_eq_getElem _
     have h2 : l'[j]? = some (l'[j]'(by have := Hm'.out; omega)) := List.getElem?_eq_getElem _
     rw [h1, h2, Hag.out j _ _ h3 h1 h2]
    ·rw [List.getElem?_eq_none (by have := Hm.out; omega), List.getElem?_eq_none (by have := Hm'.out; omega)])
   go_wp2_with fail
   go_ret
   exact ⟨ret_bool HR2.out.symm, Hb.out⟩
set_option maxRecDepth 20000 in
set_option maxHeartbeats 8000000 in
theorem sameRule0 (op co x d op' co' x' d' : Int) (nm nm' : List UInt8) (A A' : Option Addr) (m c m' c' : Nat) (b : Bool) (w : World) (hb : ∀ W, Below w.heap.size w W → Calls Tryz.prog 151 #[.slice A m c, .slice A' m' c', .func (.func 62) #[] #[]] W (BoolPost b W)) :
  Calls Tryz.prog 62 #[.agg #[.int .i64 op, .int .i64 co, .string (Lx.bs nm), .int .i64 x, .int .i64 d, .slice A m c], .agg #[.int .i64 op', .int .i64 co', .string (Lx.bs nm'), .int .i64 x', .int .i64 d', .slice A' m' c']] w (BoolPost ((op == op') && (co == co') && (nm == nm') && (x == x') && (d == d') && b) w) := by
 obtain ⟨R, hR⟩ : ∃ R : Bool, R = ((op == op') && (co == co') && (nm == nm') && (x == x') && (d == d') && b) := ⟨_, rfl⟩
 rw [← hR]
 obtain ⟨W, hW⟩ : ∃ W, W = (w.alloc (.cells #[.int .i64 op, .int .i64 co, .string (Lx.bs nm), .int .i64 x, .int .i64 d, .slice A m c] 38)).alloc (.cells #[.int .i64 op', .int .i64 co', .string (Lx.bs nm'), .int .i64 x', .int .i64 d', .slice A' m' c'] 38) := ⟨_, rfl⟩
 have hbW : Below w.heap.size w W := by rw [hW]; exact ((Below.refl _ _).alloc (Nat.le_refl _) _).alloc (by simp) _
 have e0 : Blk W w.heap.size 38 #[.int .i64 op, .int .i64 co, .string (Lx.bs nm), .int .i64 x, .int .i64 d, .slice A m c] := by rw [hW]; exact (Blk.new w _ _).alloc _
 have f0 : Blk W (w.heap.size + 1) 38 #[.int .i64 op', .int .i64 co', .string (Lx.bs nm'), .int .i64 x', .int .i64 d', .slice A' m' c'] := by rw [hW]; exact Blk.new_at _ _ (by simp)
 have HB0 := Lh hbW; have E0 := Lh e0; have F0 := Lh f0
 clear hbW e0 f0
 have hbs : ((Lx.bs nm).toList == (Lx.bs nm').toList) = (nm == nm') := by rw [ByteArray.toList_eq, ByteArray.toList_eq, Lx.bs_list, Lx.bs_list]
 have K5 := Lh (hb)
 cases q0 : (op == op') with
 | false =>
  rw [q0] at hR
  have HR : Hid (R = false) := Lh (by rw [hR]; simp)
  clear hR
  go_enter Tryz.func62, Tryz.ntmps62
  go_wp2_with fail
  go_ret
  exact ⟨ret_bool HR.out.symm, (by have h := HB0.out; rw [hW] at h; exact h)⟩
 | true =>
 rw [q0] at hR
 cases q1 : (co == co') with
 | false =>
  rw [q1] at hR
  have HR : Hid (R = false) := Lh (by rw [hR]; simp)
  clear hR
  go_enter Tryz.func62, Tryz.ntmps62
  go_wp2_with fail
  go_ret
  exact ⟨ret_bool HR.out.symm, (by have h := HB0.out; rw [hW] at h; exact h)⟩
 | true =>
 rw [q1] at hR
 cases q2 : (nm == nm') with
 | false =>
  rw [q2] at hbs hR
  have HR : Hid (R = false) := Lh (by rw [hR]; simp)
  clear hR
  go_enter Tryz.func62, Tryz.ntmps62
  go_wp2_with fail
  go_ret
  exact ⟨ret_bool HR.out.symm, (by have h := HB0.out; rw [hW] at h; exact h)⟩
 | true =>
 rw [q2] at hbs hR
 cases q3 : (x == x') with
 | false =>
  rw [q3] at hR
  have HR : Hid (R = false) := Lh (by rw [hR]; simp)
  clear hR
  go_enter Tryz.func62, Tryz.ntmps62
  go_wp2_with fail
  go_ret
  exact ⟨ret_bool HR.out.symm, (by have h := HB0.out; rw [hW] at h; exact h)⟩
 | true =>
 rw [q3] at hR
 cases q4 : (d == d') with
 | false =>
  rw [q4] at hR
  have HR : Hid (R = false) := Lh (by rw [hR]; simp)
  clear hR
  go_enter Tryz.func62, Tryz.ntmps62
  go_wp2_with fail
  go_ret
  exact ⟨ret_bool HR.out.symm, (by have h := HB0.out; rw [hW] at h; exact h)⟩
 | true =>
 rw [q4] at hR
 have HR : Hid (R = (b)) := Lh (by rw [hR]; simp)
 clear hR
 go_enter Tryz.func62, Tryz.ntmps62
 go_wp2_with fail
 rw [← hW]
 refine (K5.out _ HB0.out).mono ?_
 rintro e w1 ⟨rfl, hb⟩
 have HB1 := Lh (HB0.out.trans (hb.mono HB0.out.size))
 have y := E0.out.below hb E0.out.lt; have y' := F0.out.below hb F0.out.lt
 have E1 := Lh y; have F1 := Lh y'
 have x0 := y.cell 0; have x1 := y.cell 1; have x2 := y.cell 2; have x3 := y.cell 3; have x4 := y.cell 4; have x5 := y.cell 5
 have r0 := y'.cell 0; have r1 := y'.cell 1; have r2 := y'.cell 2; have r3 := y'.cell 3; have r4 := y'.cell 4; have r5 := y'.cell 5
 simp at x0 r0 x1 r1 x2 r2 x3 r3 x4 r4 x5 r5
 have z1 := y'.lt
 clear hb y y'
 go_wp2_with fail
 go_ret
 exact ⟨ret_bool HR.out.symm, HB1.out⟩
theorem kids_row2 {w : World} {A : Option Addr} {ks : List Sx.Rule} (h : KidsAt w (Old w) A 0 ks) (hl : ks.length ≤ 140737488351232) : Row w (Old w) A 6 (RuleAt w (Old w)) ks := ⟨kids_row.1 h, hl⟩
theorem lSameRule : ∀ (n : Nat) (a b : Sx.Rule), SizeOf.sizeOf a < n → ∀ (w : World) (ca cb : List Value), RuleAt w (Old w) a ca → RuleAt w (Old w) b cb →
  Calls Tryz.prog 62 #[.agg ca.toArray, .agg cb.toArray] w (BoolPost (decide (a = b)) w)
 | 0, a, b, hn, w, ca, cb, ha, hb => by omega
 | n + 1, .mk op co nm x d ks, .mk op' co' nm' x' d' ks', hn, w, ca, cb, ha, hb => by
  have ih := lSameRule n
  rw [RuleAt] at ha hb
  obtain ⟨A, c, rfl, ha2, ha3, ha4⟩ := ha
  obtain ⟨B, c', rfl, hb2, hb3, hb4⟩ := hb
  have e : decide (Sx.Rule.mk op co nm x d ks = .mk op' co' nm' x' d' ks') = ((op == op') && (co == co') && (nm == nm') && (x == x') && (d == d') && decide (ks = ks')) := by
   rw [Bool.eq_iff_iff]; simp [and_assoc]
  rw [e]
  exact sameRule0 op co x d op' co' x' d' nm nm' A B _ c _ c' _ w fun W hW =>
   eqf_rule A B c c' ks ks' W ((kids_row2 ha4 ha3).keep (P' := RuleAt W (Old W)) (old_keep hW) fun _ _ _ h => old_rule hW h) ((kids_row2 hb4 hb3).keep (P' := RuleAt W (Old W)) (old_keep hW) fun _ _ _ h => old_rule hW h)
    (fun y hy z hz ca cb W' _ h1 h2 => ih y z (by obtain ⟨i, hi⟩ := List.mem_iff_getElem?.1 hy; have := Sx.kid_size (op := op) (co := co) (nm := nm) (n := x) (d := d) hi; omega) W' ca cb h1 h2)
theorem sSameRuleF (a b : Sx.Rule) (w : World) (ca cb : List Value) (ha : RuleAt w (Old w) a ca) (hb : RuleAt w (Old w) b cb) : Calls Tryz.prog 62 #[.agg ca.toArray, .agg cb.toArray] w (BoolPost (decide (a = b)) w) := lSameRule _ a b (Nat.lt_succ_self _) w ca cb ha hb
set_option maxRecDepth 20000 in
set_option maxHeartbeats 8000000 in
theorem sameCourse0 (nm nm' : List UInt8) (no cr rp no' cr' rp' : Int) (a0 a1 : Int) (a2 : ByteArray) (a3 a4 : Int) (aA : Option Addr) (an ac : Nat) (b0 b1 : Int) (b2 : ByteArray) (b3 b4 : Int) (bA : Option Addr) (bn bc : Nat) (a0' a1' : Int) (a2' : ByteArray) (a3' a4' : Int) (aA' : Option Addr) (an' ac' : Nat) (b0' b1' : Int) (b2' : ByteArray) (b3' b4' : Int) (bA' : Option Addr) (bn' bc' : Nat) (p1 p2 : Bool) (w : World) (h1 : ∀ W, Below w.heap.size w W → Calls Tryz.prog 62 #[.agg #[.int .i64 a0, .int .i64 a1, .string a2, .int .i64 a3, .int .i64 a4, .slice aA an ac], .agg #[.int .i64 a0', .int .i64 a1', .string a2', .int .i64 a3', .int .i64 a4', .slice aA' an' ac']] W (BoolPost p1 W)) (h2 : ∀ W, Below w.heap.size w W → Calls Tryz.prog 62 #[.agg #[.int .i64 b0, .int .i64 b1, .string b2, .int .i64 b3, .int .i64 b4, .slice bA bn bc], .agg #[.int .i64 b0', .int .i64 b1', .string b2', .int .i64 b3', .int .i64 b4', .slice bA' bn' bc']] W (BoolPost p2 W)) :
  Calls Tryz.prog 61 #[.agg #[.string (Lx.bs nm), .int .i64 no, .int .i64 cr, .int .i64 rp, .int .i64 a0, .int .i64 a1, .string a2, .int .i64 a3, .int .i64 a4, .slice aA an ac, .int .i64 b0, .int .i64 b1, .string b2, .int .i64 b3, .int .i64 b4, .slice bA bn bc], .agg #[.string (Lx.bs nm'), .int .i64 no', .int .i64 cr', .int .i64 rp', .int .i64 a0', .int .i64 a1', .string a2', .int .i64 a3', .int .i64 a4', .slice aA' an' ac', .int .i64 b0', .int .i64 b1', .string b2', .int .i64 b3', .int .i64 b4', .slice bA' bn' bc']] w (BoolPost ((nm == nm') && (no == no') && (cr == cr') && (rp == rp') && p1 && p2) w) := by
 obtain ⟨R, hR⟩ : ∃ R : Bool, R = ((nm == nm') && (no == no') && (cr == cr') && (rp == rp') && p1 && p2) := ⟨_, rfl⟩
 rw [← hR]
 obtain ⟨W, hW⟩ : ∃ W, W = (w.alloc (.cells #[.string (Lx.bs nm), .int .i64 no, .int .i64 cr, .int .i64 rp, .int .i64 a0, .int .i64 a1, .string a2, .int .i64 a3, .int .i64 a4, .slice aA an ac, .int .i64 b0, .int .i64 b1, .string b2, .int .i64 b3, .int .i64 b4, .slice bA bn bc] 58)).alloc (.cells #[.string (Lx.bs nm'), .int .i64 no', .int .i64 cr', .int .i64 rp', .int .i64 a0', .int .i64 a1', .string a2', .int .i64 a3', .int .i64 a4', .slice aA' an' ac', .int .i64 b0', .int .i64 b1', .string b2', .int .i64 b3', .int .i64 b4', .slice bA' bn' bc'] 58) := ⟨_, rfl⟩
 have hbW : Below w.heap.size w W := by rw [hW]; exact ((Below.refl _ _).alloc (Nat.le_refl _) _).alloc (by simp) _
 have e0 : Blk W w.heap.size 58 #[.string (Lx.bs nm), .int .i64 no, .int .i64 cr, .int .i64 rp, .int .i64 a0, .int .i64 a1, .string a2, .int .i64 a3, .int .i64 a4, .slice aA an ac, .int .i64 b0, .int .i64 b1, .string b2, .int .i64 b3, .int .i64 b4, .slice bA bn bc] := by rw [hW]; exact (Blk.new w _ _).alloc _
 have f0 : Blk W (w.heap.size + 1) 58 #[.string (Lx.bs nm'), .int .i64 no', .int .i64 cr', .int .i64 rp', .int .i64 a0', .int .i64 a1', .string a2', .int .i64 a3', .int .i64 a4', .slice aA' an' ac', .int .i64 b0', .int .i64 b1', .string b2', .int .i64 b3', .int .i64 b4', .slice bA' bn' bc'] := by rw [hW]; exact Blk.new_at _ _ (by simp)
 have HB0 := Lh hbW; have E0 := Lh e0; have F0 := Lh f0
 clear hbW e0 f0
 have hbs : ((Lx.bs nm).toList == (Lx.bs nm').toList) = (nm == nm') := by rw [ByteArray.toList_eq, ByteArray.toList_eq, Lx.bs_list, Lx.bs_list]
 have K4 := Lh (h1)
 have K5 := Lh (h2)
 cases q0 : (nm == nm') with
 | false =>
  rw [q0] at hbs hR
  have HR : Hid (R = false) := Lh (by rw [hR]; simp)
  clear hR
  go_enter Tryz.func61, Tryz.ntmps61
  go_wp2_with fail
  go_ret
  exact ⟨ret_bool HR.out.symm, (by have h := HB0.out; rw [hW] at h; exact h)⟩
 | true =>
 rw [q0] at hbs hR
 cases q1 : (no == no') with
 | false =>
  rw [q1] at hR
  have HR : Hid (R = false) := Lh (by rw [hR]; simp)
  clear hR
  go_enter Tryz.func61, Tryz.ntmps61
  go_wp2_with fail
  go_ret
  exact ⟨ret_bool HR.out.symm, (by have h := HB0.out; rw [hW] at h; exact h)⟩
 | true =>
 rw [q1] at hR
 cases q2 : (cr == cr') with
 | false =>
  rw [q2] at hR
  have HR : Hid (R = false) := Lh (by rw [hR]; simp)
  clear hR
  go_enter Tryz.func61, Tryz.ntmps61
  go_wp2_with fail
  go_ret
  exact ⟨ret_bool HR.out.symm, (by have h := HB0.out; rw [hW] at h; exact h)⟩
 | true =>
 rw [q2] at hR
 cases q3 : (rp == rp') with
 | false =>
  rw [q3] at hR
  have HR : Hid (R = false) := Lh (by rw [hR]; simp)
  clear hR
  go_enter Tryz.func61, Tryz.ntmps61
  go_wp2_with fail
  go_ret
  exact ⟨ret_bool HR.out.symm, (by have h := HB0.out; rw [hW] at h; exact h)⟩
 | true =>
 rw [q3] at hR
 cases q4 : p1 with
 | false =>
  rw [q4] at K4 hR
  have HR : Hid (R = false) := Lh (by rw [hR]; simp)
  clear hR
  go_enter Tryz.func61, Tryz.ntmps61
  go_wp2_with fail
  rw [← hW]
  refine (K4.out _ HB0.out).mono ?_
  rintro e w1 ⟨rfl, hb⟩
  have HB1 := Lh (HB0.out.trans (hb.mono HB0.out.size))
  have y := E0.out.below hb E0.out.lt; have y' := F0.out.below hb F0.out.lt
  have E1 := Lh y; have F1 := Lh y'
  have x0 := y.cell 0; have x1 := y.cell 1; have x2 := y.cell 2; have x3 := y.cell 3; have x4 := y.cell 4; have x5 := y.cell 5; have x6 := y.cell 6; have x7 := y.cell 7; have x8 := y.cell 8; have x9 := y.cell 9; have x10 := y.cell 10; have x11 := y.cell 11; have x12 := y.cell 12; have x13 := y.cell 13; have x14 := y.cell 14; have x15 := y.cell 15
  have r0 := y'.cell 0; have r1 := y'.cell 1; have r2 := y'.cell 2; have r3 := y'.cell 3; have r4 := y'.cell 4; have r5 := y'.cell 5; have r6 := y'.cell 6; have r7 := y'.cell 7; have r8 := y'.cell 8; have r9 := y'.cell 9; have r10 := y'.cell 10; have r11 := y'.cell 11; have r12 := y'.cell 12; have r13 := y'.cell 13; have r14 := y'.cell 14; have r15 := y'.cell 15
  simp at x0 r0 x1 r1 x2 r2 x3 r3 x4 r4 x5 r5 x6 r6 x7 r7 x8 r8 x9 r9 x10 r10 x11 r11 x12 r12 x13 r13 x14 r14 x15 r15
  have z1 := y'.lt
  clear hb y y'
  go_wp2_with fail
  go_ret
  exact ⟨ret_bool HR.out.symm, HB1.out⟩
 | true =>
 rw [q4] at K4 hR
 have HR : Hid (R = (p2)) := Lh (by rw [hR]; simp)
 clear hR
 go_enter Tryz.func61, Tryz.ntmps61
 go_wp2_with fail
 rw [← hW]
 refine (K4.out _ HB0.out).mono ?_
 rintro e w1 ⟨rfl, hb⟩
 have HB1 := Lh (HB0.out.trans (hb.mono HB0.out.size))
 have y := E0.out.below hb E0.out.lt; have y' := F0.out.below hb F0.out.lt
 have E1 := Lh y; have F1 := Lh y'
 have x0 := y.cell 0; have x1 := y.cell 1; have x2 := y.cell 2; have x3 := y.cell 3; have x4 := y.cell 4; have x5 := y.cell 5; have x6 := y.cell 6; have x7 := y.cell 7; have x8 := y.cell 8; have x9 := y.cell 9; have x10 := y.cell 10; have x11 := y.cell 11; have x12 := y.cell 12; have x13 := y.cell 13; have x14 := y.cell 14; have x15 := y.cell 15
 have r0 := y'.cell 0; have r1 := y'.cell 1; have r2 := y'.cell 2; have r3 := y'.cell 3; have r4 := y'.cell 4; have r5 := y'.cell 5; have r6 := y'.cell 6; have r7 := y'.cell 7; have r8 := y'.cell 8; have r9 := y'.cell 9; have r10 := y'.cell 10; have r11 := y'.cell 11; have r12 := y'.cell 12; have r13 := y'.cell 13; have r14 := y'.cell 14; have r15 := y'.cell 15
 simp at x0 r0 x1 r1 x2 r2 x3 r3 x4 r4 x5 r5 x6 r6 x7 r7 x8 r8 x9 r9 x10 r10 x11 r11 x12 r12 x13 r13 x14 r14 x15 r15
 have z1 := y'.lt
 clear hb y y'
 go_wp2_with fail
 refine (K5.out _ HB1.out).mono ?_
 rintro e w2 ⟨rfl, hb⟩
 have HB2 := Lh (HB1.out.trans (hb.mono HB1.out.size))
 have y := E1.out.below hb E1.out.lt; have y' := F1.out.below hb F1.out.lt
 have E2 := Lh y; have F2 := Lh y'
 have x0 := y.cell 0; have x1 := y.cell 1; have x2 := y.cell 2; have x3 := y.cell 3; have x4 := y.cell 4; have x5 := y.cell 5; have x6 := y.cell 6; have x7 := y.cell 7; have x8 := y.cell 8; have x9 := y.cell 9; have x10 := y.cell 10; have x11 := y.cell 11; have x12 := y.cell 12; have x13 := y.cell 13; have x14 := y.cell 14; have x15 := y.cell 15
 have r0 := y'.cell 0; have r1 := y'.cell 1; have r2 := y'.cell 2; have r3 := y'.cell 3; have r4 := y'.cell 4; have r5 := y'.cell 5; have r6 := y'.cell 6; have r7 := y'.cell 7; have r8 := y'.cell 8; have r9 := y'.cell 9; have r10 := y'.cell 10; have r11 := y'.cell 11; have r12 := y'.cell 12; have r13 := y'.cell 13; have r14 := y'.cell 14; have r15 := y'.cell 15
 simp at x0 r0 x1 r1 x2 r2 x3 r3 x4 r4 x5 r5 x6 r6 x7 r7 x8 r8 x9 r9 x10 r10 x11 r11 x12 r12 x13 r13 x14 r14 x15 r15
 have z2 := y'.lt
 clear hb y y'
 go_wp2_with fail
 go_ret
 exact ⟨ret_bool HR.out.symm, HB2.out⟩
theorem lSameCourse (x y : Sx.Course) (w : World) (ca cb : List Value) (ha : CourseAt w (Old w) x ca) (hb : CourseAt w (Old w) y cb) : Calls Tryz.prog 61 #[.agg ca.toArray, .agg cb.toArray] w (BoolPost (decide (x = y)) w) := by
 obtain ⟨cn, cb1, rfl, _, h1, h2⟩ := ha
 obtain ⟨cn', cb1', rfl, _, h1', h2'⟩ := hb
 have k1 := fun W (hW : Below w.heap.size w W) => sSameRuleF x.need y.need W cn cn' (old_rule hW h1) (old_rule hW h1')
 have k2 := fun W (hW : Below w.heap.size w W) => sSameRuleF x.bar y.bar W cb1 cb1' (old_rule hW h2) (old_rule hW h2')
 obtain ⟨i0, i1, s2, i3, i4, A5, n5, c5, rfl⟩ := form_rule h1
 obtain ⟨j0, j1, t2, j3, j4, B5, m5, d5, rfl⟩ := form_rule h2
 obtain ⟨i0', i1', s2', i3', i4', A5', n5', c5', rfl⟩ := form_rule h1'
 obtain ⟨j0', j1', t2', j3', j4', B5', m5', d5', rfl⟩ := form_rule h2'
 have e : decide (x = y) = ((x.name == y.name) && (x.number == y.number) && (x.credits == y.credits) && (x.rep == y.rep) && decide (x.need = y.need) && decide (x.bar = y.bar)) := by
  cases x; cases y; rw [Bool.eq_iff_iff]; simp [and_assoc]
 rw [e]
 exact sameCourse0 x.name y.name x.number x.credits x.rep y.number y.credits y.rep i0 i1 s2 i3 i4 A5 n5 c5 j0 j1 t2 j3 j4 B5 m5 d5 i0' i1' s2' i3' i4' A5' n5' c5' j0' j1' t2' j3' j4' B5' m5' d5' _ _ w k1 k2
end Go.Proofs.YtjonaidancomgaaGreatDoor

namespace Go.Proofs.YtjonaidancomgaaGreatDoor
open Go.RowKit

end Go.Proofs.YtjonaidancomgaaGreatDoor
