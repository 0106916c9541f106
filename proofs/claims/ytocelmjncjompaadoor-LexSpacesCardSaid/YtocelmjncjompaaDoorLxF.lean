/- Walks of the scanner: name, number, sign, space. -/
import Derived.Test.YtocelmjncjompaaDoorLxE
import Derived.Test.YtocelmjncjompaaDoorLxStep
namespace Go.Proofs.YtocelmjncjompaaDoor
open Go.RowKit
open Lx (Tok)

/-- The scanner's state: block g; what it owns lies behind. -/
structure Scan (g : Nat) (src : ByteArray) (a : Nat) (l : List Tok) (w : World) : Prop where
  st : ∃ v, Blk w g 63 #[.string src, .int .i64 a, v] ∧ w.ownsRow g 35 4 v l.length (l.flatMap Tok.cells)
  few : l.length ≤ a
  at_ : a ≤ src.size
  len : src.size ≤ 65536

theorem hz_new (w : World) (zs : List Int) (cs : Array Value) (h : cs = (zs.map (Value.int .i64)).toArray) : ∀ j, j < zs.length → (w.alloc (.cells cs 3)).cell? ⟨w.heap.size, 0 + j, none⟩ = some (.int .i64 (zs.getD j 0)) := by
  intro j hj
  have := (Blk.new w 3 cs).cell (0 + j)
  rw [this, h]
  simp [hj]

/-- What a step leaves: the scanner further on, or the panic at its place. -/
def Steps1 (g : Nat) (src : ByteArray) (a : Nat) (w : World) (ok : Option (Nat × List Tok)) (e : Ending) (w' : World) : Prop :=
  match ok with
  | some (a', l') => e = .returned (.tuple #[]) ∧ Scan g src a' l' w' ∧ Below g w w'
  | none => PanicAt a e ∧ Below g w w'

theorem tok_flat (l : List Tok) (t : Tok) : (l ++ [t]).flatMap Tok.cells = l.flatMap Tok.cells ++ t.cells := by simp [List.flatMap_append]

theorem Lx.cls_part (c : UInt8) : [2, 3, 5].contains (Lx.cls c) = Lx.part c := by
  rw [Lx.part_cls, Bool.eq_iff_iff]; simp [or_assoc]
theorem Lx.cls_figure (c : UInt8) : [3].contains (Lx.cls c) = Lx.figure c := by
  have : Lx.figure c = true → Lx.letter c = false := by
    rw [Lx.figure_iff, Lx.letter_iff]; simp; omega
  rw [Bool.eq_iff_iff]
  unfold Lx.cls
  cases h1 : Lx.letter c <;> cases h2 : Lx.figure c <;> simp_all <;> (repeat' split) <;> simp
theorem Lx.cls_space (c : UInt8) : [1].contains (Lx.cls c) = Lx.space c := by
  have h3 : Lx.space c = true → Lx.letter c = false := by
    rw [Lx.space_iff, Lx.letter_iff]; simp; omega
  have h4 : Lx.space c = true → Lx.figure c = false := by
    rw [Lx.space_iff, Lx.figure_iff]; simp; omega
  have h5 : Lx.space c = true → (c == 95) = false := by
    rw [Lx.space_iff, Lx.eqb]; simp; omega
  rw [Bool.eq_iff_iff]
  unfold Lx.cls
  cases h1 : Lx.letter c <;> cases h2 : Lx.figure c <;> cases h6 : c == 95 <;> cases h7 : Lx.space c <;> simp_all <;> (repeat' split) <;> simp
theorem Lx.runLen_of {zs : List Int} {p : UInt8 → Bool} (h : ∀ c, zs.contains (Lx.cls c) = p c) (l : List UInt8) : Lx.runLen zs l = (l.takeWhile p).length := by
  unfold Lx.runLen; rw [show (fun c => zs.contains (Lx.cls c)) = p from funext h]
theorem Lx.take_tw (p : UInt8 → Bool) : ∀ l : List UInt8, l.take (l.takeWhile p).length = l.takeWhile p
  | [] => rfl
  | c :: r => by
    cases h : p c <;> simp [h, Lx.take_tw p r]
theorem Lx.tw_all (p : UInt8 → Bool) : ∀ l : List UInt8, (l.takeWhile p).all p = true
  | [] => rfl
  | c :: r => by cases h : p c <;> simp [h, -List.all_takeWhile, Lx.tw_all p r]
theorem Lx.tw_le (p : UInt8 → Bool) : ∀ l : List UInt8, (l.takeWhile p).length ≤ l.length
  | [] => by simp
  | c :: r => by
    have := Lx.tw_le p r
    cases h : p c <;> simp [h]; omega
theorem Lx.ext_list (s : ByteArray) (a k : Nat) : (s.extract a (a + k)).data.toList = (s.data.toList.drop a).take k := by
  rw [Lib.extract_data]; simp
theorem Lx.ext_size (s : ByteArray) (a k : Nat) (h : a + k ≤ s.size) : (s.extract a (a + k)).size = k := by
  rw [← Lx.ba_len, Lx.ext_list, List.length_take, List.length_drop, Lx.ba_len]; omega
theorem Lx.ext_tw (p : UInt8 → Bool) (s : ByteArray) (a : Nat) : (s.extract a (a + ((s.data.toList.drop a).takeWhile p).length)).data.toList = (s.data.toList.drop a).takeWhile p := by
  rw [Lx.ext_list, Lx.take_tw]

/-- run, by the classes: the longest text of bytes of a kind. -/
theorem lRunP (g a : Nat) (src : ByteArray) (v : Value) (zs : List Int) (p : UInt8 → Bool) (w : World) (h : ∀ c, zs.contains (Lx.cls c) = p c) (hblk : Blk w g 63 #[.string src, .int .i64 a, v])
    (ha : a ≤ src.size) (hs : src.size ≤ 65536) (hzl : zs.length ≤ 100) (cs : Array Value) (hcs : cs = (zs.map (Value.int .i64)).toArray) (t : ByteArray) (ht : t.data.toList = (src.data.toList.drop a).takeWhile p) (m : Nat) (hm : m = zs.length) (c : Nat) :
    Calls Tryd.prog 68 #[.pointer (some ⟨g, 0, none⟩), .slice (some ⟨w.heap.size, 0, none⟩) m c] (w.alloc (.cells cs 3)) fun e w' =>
      e = .returned (.string t) ∧ ∃ n, w' = (w.alloc (.cells cs 3)).drewN n := by
  subst hm
  have hb := hblk.alloc (.cells cs 3)
  have h0 := hb.cell 0; have h1 := hb.cell 1
  simp at h0 h1
  refine (lRun g w.heap.size a c src zs _ h0 h1 (hz_new w zs cs hcs) hzl ha hs).mono fun e w' ⟨he, hw⟩ => ⟨?_, hw⟩
  rw [he, Lx.runLen_of h]
  have e1 := Lx.ext_tw p src a
  congr 2
  rw [← ht] at e1 ⊢
  rw [← Lx.bs_of t, ← e1, Lx.bs_of, e1]

theorem bel_drewN {B : Nat} {a w : World} (h : Below B a w) (n : Nat) : Below B a (w.drewN n) := ⟨h.os, h.tape, h.output, h.size, h.block⟩
theorem own_drewN {w : World} {base : Nat} {e : TypeId} {size n : Nat} {v : Value} {xs : List Value} (h : w.ownsRow base e size v n xs) (k : Nat) : (w.drewN k).ownsRow base e size v n xs := h
theorem scan_snoc {g a : Nat} {src : ByteArray} {l : List Tok} {t : Tok} {v : Value} {w : World} {cs : List Value} (hb : Blk w g 63 #[.string src, .int .i64 a, v]) (ho : w.ownsRow g 35 4 v (l.length + 1) (l.flatMap Tok.cells ++ cs))
    (hf : l.length + 1 ≤ a) (ha : a ≤ src.size) (hl : src.size ≤ 65536) (hc : cs = t.cells) : Scan g src a (l ++ [t]) w :=
  ⟨⟨v, hb, by rw [tok_flat, ← hc, List.length_append]; exact ho⟩, by rw [List.length_append]; exact hf, ha, hl⟩

def Lx.nameEnd (t : List UInt8) (a : Nat) (l : List Tok) : Option (Nat × List Tok) := if Lx.isName t then some (a + t.length, l ++ [⟨1, t, 0, a⟩]) else none

set_option maxHeartbeats 1000000 in
theorem lName1 (g a : Nat) (src : ByteArray) (l : List Tok) (w : World) (hS : Scan g src a l w) (t : ByteArray) (ht : t.data.toList = (src.data.toList.drop a).takeWhile Lx.part) (hpos : 0 < t.size) :
    Calls Tryd.prog 37 #[.pointer (some ⟨g, 0, none⟩)] w (Steps1 g src a w (Lx.nameEnd t.data.toList a l)) := by
  obtain ⟨⟨v, hblk, hown⟩, hfew, hat, hlen⟩ := hS
  have hlt := hblk.lt
  have htl : a + t.size ≤ src.size := by
    rw [← Lx.ba_len, ht]
    have := Lx.tw_le Lx.part (src.data.toList.drop a)
    rw [List.length_drop, Lx.ba_len] at this
    omega
  have hrun := lRunP g a src v [2, 3, 5] Lx.part w Lx.cls_part hblk hat hlen (by simp) _ rfl t ht 3 rfl 3
  have Hrun := Lib.hid hrun; have Ht := Lib.hid ht
  clear hrun ht
  have hbel : Below g w (w.alloc (.cells #[.int .i64 2, .int .i64 3, .int .i64 5] 3)) := (Below.refl _ _).alloc (by omega) _
  have hb1 := hblk.alloc (.cells #[.int .i64 2, .int .i64 3, .int .i64 5] 3)
  have ho1 := hown.alloc (.cells #[.int .i64 2, .int .i64 3, .int .i64 5] 3)
  cases hn : Lx.isName t.data.toList
  · have hv : Lx.valid ⟨1, t.data.toList, 0, 0⟩ = false := by rw [Lx.valid_one, hn]; rfl
    have he : Lx.nameEnd t.data.toList a l = none := by unfold Lx.nameEnd; rw [hn]; rfl
    rw [he]
    have Hv := Lib.hid hv; have Hn := Lib.hid hn
    clear hv he hn
    go_enter Tryd.func37, Tryd.ntmps37
    go_wp2_with fail
    refine (Hrun.out).mono ?_
    rintro e w1 ⟨rfl, n, rfl⟩
    go_wp2_with fail
    refine (lAddBad g a src t t 1 0 0 v _ (hb1.drewN n) (by unfold maxLen; omega) Hv.out).mono ?_
    rintro e w2 ⟨he, hb2⟩
    unfold PanicAt at he
    subst he
    refine ⟨rfl, rfl, (bel_drewN hbel n).trans (hb2.mono ?_)⟩
    simp; omega
  · have hv : Lx.valid ⟨1, t.data.toList, 0, 0⟩ = true := by rw [Lx.valid_one, hn]; rfl
    have he : Lx.nameEnd t.data.toList a l = some (a + t.size, l ++ [⟨1, t.data.toList, 0, a⟩]) := by unfold Lx.nameEnd; rw [hn, Lx.ba_len]; rfl
    rw [he]
    have Hv := Lib.hid hv; have Hn := Lib.hid hn
    clear hv he hn
    go_enter Tryd.func37, Tryd.ntmps37
    go_wp2_with fail
    refine (Hrun.out).mono ?_
    rintro e w1 ⟨rfl, n, rfl⟩
    go_wp2_with fail
    refine (lAddOk g a l.length src t t 1 0 0 v _ _ (hb1.drewN n) (own_drewN ho1 n) (by omega) (by omega) (by unfold maxLen; omega) Hv.out).mono ?_
    rintro e w2 ⟨rfl, v2, hb2, ho2, hbel2⟩
    go_wp2_with fail
    go_end0
    exact ⟨rfl, scan_snoc hb2 ho2 (by omega) (by omega) hlen (by rw [Lx.bs_of' (l := t.data.toList) rfl]; rfl) , (bel_drewN hbel n).trans hbel2⟩

def Lx.numEnd (t : List UInt8) (a : Nat) (l : List Tok) : Option (Nat × List Tok) := match Lx.number t with
  | some n => some (a + t.length, l ++ [⟨2, [], n, a⟩])
  | none => none

set_option maxHeartbeats 1000000 in
theorem lNumber1 (g a : Nat) (src : ByteArray) (l : List Tok) (w : World) (hS : Scan g src a l w) (he : Env w) (hg : 7 ≤ g) (t : ByteArray) (ht : t.data.toList = (src.data.toList.drop a).takeWhile Lx.figure) (hpos : 0 < t.size) :
    Calls Tryd.prog 38 #[.pointer (some ⟨g, 0, none⟩)] w (Steps1 g src a w (Lx.numEnd t.data.toList a l)) := by
  obtain ⟨⟨v, hblk, hown⟩, hfew, hat, hlen⟩ := hS
  have hlt := hblk.lt
  have htl : a + t.size ≤ src.size := by
    rw [← Lx.ba_len, ht]
    have := Lx.tw_le Lx.figure (src.data.toList.drop a)
    rw [List.length_drop, Lx.ba_len] at this
    omega
  have hrun := lRunP g a src v [3] Lx.figure w Lx.cls_figure hblk hat hlen (by simp) _ rfl t ht 1 rfl 1
  have Hrun := Lib.hid hrun; have Ht := Lib.hid ht
  clear hrun ht
  have hbel : Below g w (w.alloc (.cells #[.int .i64 3] 3)) := (Below.refl _ _).alloc (by omega) _
  have hb1 := hblk.alloc (.cells #[.int .i64 3] 3)
  have ho1 := hown.alloc (.cells #[.int .i64 3] 3)
  have hf : t.data.toList.all Lx.figure = true := by rw [Ht.out]; exact Lx.tw_all _ _
  have hne : t.data.toList ≠ [] := fun e => by have := Lx.ba_len t; rw [e] at this; simp at this; omega
  by_cases hV : Lx.decVal 0 t.data.toList < 9223372036854775808
  case neg =>
    have hr := Lx.atoi_big hf hne hV
    have hn : Lx.numEnd t.data.toList a l = none := by unfold Lx.numEnd; rw [Lx.number_big (by omega)]
    rw [hn]
    have hat := fun W (hE : Env W) => cAtoi t (by omega) W hE (.inr hr)
    rw [hr] at hat
    have Hat := Lib.hid hat
    have Hb1 := Lib.hid hb1
    clear hr hn hf hne hV hat hb1
    go_enter Tryd.func38, Tryd.ntmps38
    go_wp2_with fail
    refine (Hrun.out).mono ?_
    rintro e w1 ⟨rfl, n, rfl⟩
    go_wp2_with fail
    refine (Hat.out _ (he.below (bel_drewN hbel n) hg)).mono ?_
    rintro e w2 ⟨⟨num, N, T, rfl⟩, hb2⟩
    have hb2' := (Hb1.out.drewN n).below hb2 (by simp; omega)
    have c1 := hb2'.cell 1
    simp at c1
    have Hb2 := Lib.hid hb2
    clear hb2 hb2'
    go_wp2_with fail
    refine ⟨rfl, rfl, (bel_drewN hbel n).trans (Hb2.out.mono ?_)⟩
    simp; omega
  have hr := Lx.atoi_ok hf hne hV
  have hat := fun W (hE : Env W) => cAtoi t (by omega) W hE (.inl ⟨_, hr⟩)
  rw [hr] at hat
  have hio := cItoa (Lx.decVal 0 t.data.toList) (by omega) (by omega)
  have hiv : Lib.itoa (Lx.decVal 0 t.data.toList : Int) = Lib.decDigits (Lx.decVal 0 t.data.toList) := by unfold Lib.itoa; rw [if_neg (by omega)]; rfl
  rw [hiv] at hio
  have hiff := Lx.digits_eq_iff hf hne
  obtain ⟨V, hVe⟩ : ∃ V, V = Lx.decVal 0 t.data.toList := ⟨_, rfl⟩
  have hnum : Lx.numEnd t.data.toList a l = if V ≤ 1099511627776 ∧ Lx.plain t.data.toList then some (a + t.size, l ++ [⟨2, [], V, a⟩]) else none := by
    unfold Lx.numEnd
    rw [hVe]
    split
    · rename_i n hn
      obtain ⟨h1, h2, h3⟩ := Lx.number_val hn
      rw [if_pos ⟨by omega, h3⟩, h1, Lx.ba_len]
    · rename_i hn
      rw [if_neg]
      rintro ⟨h1, h2⟩
      rw [Lx.number_some h1 h2] at hn
      cases hn
  rw [← hVe] at hat hio hiff hV
  rw [hnum]
  have Hat := Lib.hid hat
  have Hio := Lib.hid hio
  have Hiff := Lib.hid hiff
  have Hb1 := Lib.hid hb1
  clear hr hat hio hiv hiff hVe hf hne hnum hb1
  obtain ⟨D, hD⟩ : ∃ D : ByteArray, D = ⟨(Lib.decDigits V).toArray⟩ := ⟨_, rfl⟩
  have HD := Lib.hid hD
  have Hio2 : Hid (∀ (w : World), Env w → Calls Tryd.prog 47 #[.int .i64 (V : Int)] w fun e w' => e = .returned (.string D) ∧ Below w.heap.size w w') := by
    have := Hio.out
    rw [← hD] at this
    exact Lib.hid this
  have hDl : D.toList = Lib.decDigits V := by rw [hD, ByteArray.toList_eq]
  have htl2 : t.toList = t.data.toList := ByteArray.toList_eq t
  by_cases hp : Lx.plain t.data.toList
  case neg =>
    rw [if_neg (fun h => hp h.2)]
    have hq : (D.toList == t.toList) = false := by rw [hDl, htl2, beq_eq_false_iff_ne]; exact fun h => hp (Hiff.out.1 h)
    clear hp hD hDl htl2
    go_enter Tryd.func38, Tryd.ntmps38
    go_wp2_with fail
    refine (Hrun.out).mono ?_
    rintro e w1 ⟨rfl, n, rfl⟩
    go_wp2_with fail
    refine (Hat.out _ (he.below (bel_drewN hbel n) hg)).mono ?_
    rintro e w2 ⟨rfl, hb2⟩
    have he2 := (he.below (bel_drewN hbel n) hg).next hb2
    go_wp2_with fail
    refine (Hio2.out _ he2).mono ?_
    rintro e w3 ⟨rfl, hb3⟩
    have hb23 := hb2.trans (hb3.mono hb2.size)
    have hbk := (Hb1.out.drewN n).below hb23 (by simp; omega)
    have c1 := hbk.cell 1
    simp at c1
    have Hb23 := Lib.hid hb23
    clear hb2 hb3 hb23 hbk he2
    go_wp2_with fail
    refine ⟨rfl, rfl, (bel_drewN hbel n).trans (Hb23.out.mono ?_)⟩
    simp; omega
  have hq : (D.toList == t.toList) = true := by rw [hDl, htl2, beq_iff_eq]; exact Hiff.out.2 hp
  by_cases hV2 : V ≤ 1099511627776
  · rw [if_pos ⟨hV2, hp⟩]
    have hv : Lx.valid ⟨2, (⟨#[]⟩ : ByteArray).data.toList, V, 0⟩ = true := by
      rw [Lx.valid_two]; simp; omega
    have Hv := Lib.hid hv
    have Hp := Lib.hid hp
    clear hp hD hDl htl2 hv
    go_enter Tryd.func38, Tryd.ntmps38
    go_wp2_with fail
    refine (Hrun.out).mono ?_
    rintro e w1 ⟨rfl, n, rfl⟩
    go_wp2_with fail
    refine (Hat.out _ (he.below (bel_drewN hbel n) hg)).mono ?_
    rintro e w2 ⟨rfl, hb2⟩
    have he2 := (he.below (bel_drewN hbel n) hg).next hb2
    go_wp2_with fail
    refine (Hio2.out _ he2).mono ?_
    rintro e w3 ⟨rfl, hb3⟩
    have hb23 := hb2.trans (hb3.mono hb2.size)
    have hbk := (Hb1.out.drewN n).below hb23 (by simp; omega)
    have ho3 := own_below (own_drewN ho1 n) hb23
    have Hb23 := Lib.hid hb23
    have Hbk := Lib.hid hbk
    clear hb2 hb3 hb23 hbk he2
    go_wp2_with fail
    refine (lAddOk g a l.length src t ⟨#[]⟩ 2 V 0 v _ _ Hbk.out ho3 (by omega) (by omega) (show (0 : Nat) ≤ maxLen from Nat.zero_le _) Hv.out).mono ?_
    rintro e w4 ⟨rfl, v2, hb4, ho4, hbel4⟩
    go_wp2_with fail
    go_end0
    exact ⟨rfl, scan_snoc hb4 ho4 (by omega) (by omega) hlen rfl, ((bel_drewN hbel n).trans (Hb23.out.mono (by simp; omega))).trans hbel4⟩
  · rw [if_neg (fun h => hV2 h.1)]
    have hv : Lx.valid ⟨2, (⟨#[]⟩ : ByteArray).data.toList, V, 0⟩ = false := by
      rw [Lx.valid_two]; simp; omega
    have Hv := Lib.hid hv
    clear hp hD hDl htl2 hv
    go_enter Tryd.func38, Tryd.ntmps38
    go_wp2_with fail
    refine (Hrun.out).mono ?_
    rintro e w1 ⟨rfl, n, rfl⟩
    go_wp2_with fail
    refine (Hat.out _ (he.below (bel_drewN hbel n) hg)).mono ?_
    rintro e w2 ⟨rfl, hb2⟩
    have he2 := (he.below (bel_drewN hbel n) hg).next hb2
    go_wp2_with fail
    refine (Hio2.out _ he2).mono ?_
    rintro e w3 ⟨rfl, hb3⟩
    have hb23 := hb2.trans (hb3.mono hb2.size)
    have hbk := (Hb1.out.drewN n).below hb23 (by simp; omega)
    have Hb23 := Lib.hid hb23
    have Hbk := Lib.hid hbk
    clear hb2 hb3 hb23 hbk he2
    go_wp2_with fail
    refine (lAddBad g a src t ⟨#[]⟩ 2 V 0 v _ Hbk.out (show (0 : Nat) ≤ maxLen from Nat.zero_le _) Hv.out).mono ?_
    rintro e w4 ⟨he, hb4⟩
    unfold PanicAt at he
    subst he
    refine ⟨rfl, rfl, ((bel_drewN hbel n).trans (Hb23.out.mono (by simp; omega))).trans (hb4.mono ?_)⟩
    have := Hb23.out.size
    simp at this; omega
end Go.Proofs.YtocelmjncjompaaDoor
