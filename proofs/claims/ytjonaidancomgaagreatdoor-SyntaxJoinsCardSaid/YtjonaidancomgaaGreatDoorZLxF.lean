/- Parts of the proof, joined into one text: LxF, LxG, LxH, LxI. -/
import Derived.Test.YtjonaidancomgaaGreatDoorZLxC
import Derived.Test.YtjonaidancomgaaGreatDoorZLxStep
import Derived.Lib.IndexBytes
import Derived.Defers
import Derived.Recover
import Derived.Laws.EntriesVeiled
import Derived.Deep.LoopGhost

namespace Go.Proofs.YtjonaidancomgaaGreatDoor
open Go.RowKit
open Lx (Tok)

/-- The scanner's state: block g; what it owns lies behind. -/
structure Scan (g : Nat) (src : ByteArray) (a : Nat) (l : List Tok) (w : World) : Prop where
  st : ∃ v, Blk w g 138 #[.string src, .int .i64 a, v] ∧ w.ownsRow g 55 4 v l.length (l.flatMap Tok.cells)
  few : l.length ≤ a
  at_ : a ≤ src.size
  len : src.size ≤ 65536

theorem hz_new (w : World) (zs : List Int) (cs : Array Value) (h : cs = (zs.map (Value.int .i64)).toArray) : ∀ j, j < zs.length → (w.alloc (.cells cs 3)).cell? ⟨w.heap.size, 0 + j, none⟩ = some (.int .i64 (zs.getD j 0)) := by
  intro j hj
  have := (Blk.new w 3 cs).cell (0 + j)
  rw [this, h]
  simp [hj]

/-- What a step leaves: the scanner further on, or the panic at its place. -/
def Steps1 (g : Nat) (src : ByteArray) (a : Nat) (w : World) (ok : Option (Nat × List Tok)) (e : Ending) (w' : World) : Prop :=
  match ok with
  | some (a', l') => e = .returned (.tuple #[]) ∧ Scan g src a' l' w' ∧ Below g w w'
  | none => PanicAt a e ∧ Below g w w'

theorem tok_flat (l : List Tok) (t : Tok) : (l ++ [t]).flatMap Tok.cells = l.flatMap Tok.cells ++ t.cells := by simp [List.flatMap_append]

theorem Lx.cls_part (c : UInt8) : [2, 3, 5].contains (Lx.cls c) = Lx.part c := by
  rw [Lx.part_cls, Bool.eq_iff_iff]; simp [or_assoc]
theorem Lx.cls_figure (c : UInt8) : [3].contains (Lx.cls c) = Lx.figure c := by
  have : Lx.figure c = true → Lx.letter c = false := by
    rw [Lx.figure_iff, Lx.letter_iff]; simp; omega
  rw [Bool.eq_iff_iff]
  unfold Lx.cls
  cases h1 : Lx.letter c <;> cases h2 : Lx.figure c <;> simp_all <;> (repeat' split) <;> simp
theorem Lx.cls_space (c : UInt8) : [1].contains (Lx.cls c) = Lx.space c := by
  have h3 : Lx.space c = true → Lx.letter c = false := by
    rw [Lx.space_iff, Lx.letter_iff]; simp; omega
  have h4 : Lx.space c = true → Lx.figure c = false := by
    rw [Lx.space_iff, Lx.figure_iff]; simp; omega
  have h5 : Lx.space c = true → (c == 95) = false := by
    rw [Lx.space_iff, Lx.eqb]; simp; omega
  rw [Bool.eq_iff_iff]
  unfold Lx.cls
  cases h1 : Lx.letter c <;> cases h2 : Lx.figure c <;> cases h6 : c == 95 <;> cases h7 : Lx.space c <;> simp_all <;> (repeat' split) <;> simp
theorem Lx.runLen_of {zs : List Int} {p : UInt8 → Bool} (h : ∀ c, zs.contains (Lx.cls c) = p c) (l : List UInt8) : Lx.runLen zs l = (l.takeWhile p).length := by
  unfold Lx.runLen; rw [show (fun c => zs.contains (Lx.cls c)) = p from funext h]
theorem Lx.take_tw (p : UInt8 → Bool) : ∀ l : List UInt8, l.take (l.takeWhile p).length = l.takeWhile p
  | [] => rfl
  | c :: r => by
    cases h : p c <;> simp [h, Lx.take_tw p r]
theorem Lx.tw_all (p : UInt8 → Bool) : ∀ l : List UInt8, (l.takeWhile p).all p = true
  | [] => rfl
  | c :: r => by cases h : p c <;> simp [h, -List.all_takeWhile, Lx.tw_all p r]
theorem Lx.tw_le (p : UInt8 → Bool) : ∀ l : List UInt8, (l.takeWhile p).length ≤ l.length
  | [] => by simp
  | c :: r => by
    have := Lx.tw_le p r
    cases h : p c <;> simp [h]; omega
theorem Lx.ext_list (s : ByteArray) (a k : Nat) : (s.extract a (a + k)).data.toList = (s.data.toList.drop a).take k := by
  rw [Lib.extract_data]; simp
theorem Lx.ext_size (s : ByteArray) (a k : Nat) (h : a + k ≤ s.size) : (s.extract a (a + k)).size = k := by
  rw [← Lx.ba_len, Lx.ext_list, List.length_take, List.length_drop, Lx.ba_len]; omega
theorem Lx.ext_tw (p : UInt8 → Bool) (s : ByteArray) (a : Nat) : (s.extract a (a + ((s.data.toList.drop a).takeWhile p).length)).data.toList = (s.data.toList.drop a).takeWhile p := by
  rw [Lx.ext_list, Lx.take_tw]

/-- run, by the classes: the longest text of bytes of a kind. -/
theorem lRunP (g a : Nat) (src : ByteArray) (v : Value) (zs : List Int) (p : UInt8 → Bool) (w : World) (h : ∀ c, zs.contains (Lx.cls c) = p c) (hblk : Blk w g 138 #[.string src, .int .i64 a, v])
    (ha : a ≤ src.size) (hs : src.size ≤ 65536) (hzl : zs.length ≤ 100) (cs : Array Value) (hcs : cs = (zs.map (Value.int .i64)).toArray) (t : ByteArray) (ht : t.data.toList = (src.data.toList.drop a).takeWhile p) (m : Nat) (hm : m = zs.length) (c : Nat) :
    Calls Tryz.prog 152 #[.pointer (some ⟨g, 0, none⟩), .slice (some ⟨w.heap.size, 0, none⟩) m c] (w.alloc (.cells cs 3)) fun e w' =>
      e = .returned (.string t) ∧ ∃ n, w' = (w.alloc (.cells cs 3)).drewN n := by
  subst hm
  have hb := hblk.alloc (.cells cs 3)
  have h0 := hb.cell 0; have h1 := hb.cell 1
  simp at h0 h1
  refine (lRun g w.heap.size a c src zs _ h0 h1 (hz_new w zs cs hcs) hzl ha hs).mono fun e w' ⟨he, hw⟩ => ⟨?_, hw⟩
  rw [he, Lx.runLen_of h]
  have e1 := Lx.ext_tw p src a
  congr 2
  rw [← ht] at e1 ⊢
  rw [← Lx.bs_of t, ← e1, Lx.bs_of, e1]

theorem bel_drewN {B : Nat} {a w : World} (h : Below B a w) (n : Nat) : Below B a (w.drewN n) := ⟨h.os, h.tape, h.output, h.size, h.block⟩
theorem own_drewN {w : World} {base : Nat} {e : TypeId} {size n : Nat} {v : Value} {xs : List Value} (h : w.ownsRow base e size v n xs) (k : Nat) : (w.drewN k).ownsRow base e size v n xs := h
theorem scan_snoc {g a : Nat} {src : ByteArray} {l : List Tok} {t : Tok} {v : Value} {w : World} {cs : List Value} (hb : Blk w g 138 #[.string src, .int .i64 a, v]) (ho : w.ownsRow g 55 4 v (l.length + 1) (l.flatMap Tok.cells ++ cs))
    (hf : l.length + 1 ≤ a) (ha : a ≤ src.size) (hl : src.size ≤ 65536) (hc : cs = t.cells) : Scan g src a (l ++ [t]) w :=
  ⟨⟨v, hb, by rw [tok_flat, ← hc, List.length_append]; exact ho⟩, by rw [List.length_append]; exact hf, ha, hl⟩

def Lx.nameEnd (t : List UInt8) (a : Nat) (l : List Tok) : Option (Nat × List Tok) := if Lx.isName t then some (a + t.length, l ++ [⟨1, t, 0, a⟩]) else none

set_option maxHeartbeats 1000000 in
theorem lName1 (g a : Nat) (src : ByteArray) (l : List Tok) (w : World) (hS : Scan g src a l w) (t : ByteArray) (ht : t.data.toList = (src.data.toList.drop a).takeWhile Lx.part) (hpos : 0 < t.size) :
    Calls Tryz.prog 78 #[.pointer (some ⟨g, 0, none⟩)] w (Steps1 g src a w (Lx.nameEnd t.data.toList a l)) := by
  obtain ⟨⟨v, hblk, hown⟩, hfew, hat, hlen⟩ := hS
  have hlt := hblk.lt
  have htl : a + t.size ≤ src.size := by
    rw [← Lx.ba_len, ht]
    have := Lx.tw_le Lx.part (src.data.toList.drop a)
    rw [List.length_drop, Lx.ba_len] at this
    omega
  have hrun := lRunP g a src v [2, 3, 5] Lx.part w Lx.cls_part hblk hat hlen (by simp) _ rfl t ht 3 rfl 3
  have Hrun := Lib.hid hrun; have Ht := Lib.hid ht
  clear hrun ht
  have hbel : Below g w (w.alloc (.cells #[.int .i64 2, .int .i64 3, .int .i64 5] 3)) := (Below.refl _ _).alloc (by omega) _
  have hb1 := hblk.alloc (.cells #[.int .i64 2, .int .i64 3, .int .i64 5] 3)
  have ho1 := hown.alloc (.cells #[.int .i64 2, .int .i64 3, .int .i64 5] 3)
  cases hn : Lx.isName t.data.toList
  · have hv : Lx.valid ⟨1, t.data.toList, 0, 0⟩ = false := by rw [Lx.valid_one, hn]; rfl
    have he : Lx.nameEnd t.data.toList a l = none := by unfold Lx.nameEnd; rw [hn]; rfl
    rw [he]
    have Hv := Lib.hid hv; have Hn := Lib.hid hn
    clear hv he hn
    go_enter Tryz.func78, Tryz.ntmps78
    go_wp2_with fail
    refine (Hrun.out).mono ?_
    rintro e w1 ⟨rfl, n, rfl⟩
    go_wp2_with fail
    refine (lAddBad g a src t t 1 0 0 v _ (hb1.drewN n) (by unfold maxLen; omega) Hv.out).mono ?_
    rintro e w2 ⟨he, hb2⟩
    unfold PanicAt at he
    subst he
    refine ⟨rfl, rfl, (bel_drewN hbel n).trans (hb2.mono ?_)⟩
    simp; omega
  · have hv : Lx.valid ⟨1, t.data.toList, 0, 0⟩ = true := by rw [Lx.valid_one, hn]; rfl
    have he : Lx.nameEnd t.data.toList a l = some (a + t.size, l ++ [⟨1, t.data.toList, 0, a⟩]) := by unfold Lx.nameEnd; rw [hn, Lx.ba_len]; rfl
    rw [he]
    have Hv := Lib.hid hv; have Hn := Lib.hid hn
    clear hv he hn
    go_enter Tryz.func78, Tryz.ntmps78
    go_wp2_with fail
    refine (Hrun.out).mono ?_
    rintro e w1 ⟨rfl, n, rfl⟩
    go_wp2_with fail
    refine (lAddOk g a l.length src t t 1 0 0 v _ _ (hb1.drewN n) (own_drewN ho1 n) (by omega) (by omega) (by unfold maxLen; omega) Hv.out).mono ?_
    rintro e w2 ⟨rfl, v2, hb2, ho2, hbel2⟩
    go_wp2_with fail
    go_end0
    exact ⟨rfl, scan_snoc hb2 ho2 (by omega) (by omega) hlen (by rw [Lx.bs_of' (l := t.data.toList) rfl]; rfl) , (bel_drewN hbel n).trans hbel2⟩

def Lx.numEnd (t : List UInt8) (a : Nat) (l : List Tok) : Option (Nat × List Tok) := match Lx.number t with
  | some n => some (a + t.length, l ++ [⟨2, [], n, a⟩])
  | none => none

set_option maxHeartbeats 1000000 in
theorem lNumber1 (g a : Nat) (src : ByteArray) (l : List Tok) (w : World) (hS : Scan g src a l w) (he : Env w) (hg : 10 + 1 ≤ g) (t : ByteArray) (ht : t.data.toList = (src.data.toList.drop a).takeWhile Lx.figure) (hpos : 0 < t.size) :
    Calls Tryz.prog 79 #[.pointer (some ⟨g, 0, none⟩)] w (Steps1 g src a w (Lx.numEnd t.data.toList a l)) := by
  obtain ⟨⟨v, hblk, hown⟩, hfew, hat, hlen⟩ := hS
  have hlt := hblk.lt
  have htl : a + t.size ≤ src.size := by
    rw [← Lx.ba_len, ht]
    have := Lx.tw_le Lx.figure (src.data.toList.drop a)
    rw [List.length_drop, Lx.ba_len] at this
    omega
  have hrun := lRunP g a src v [3] Lx.figure w Lx.cls_figure hblk hat hlen (by simp) _ rfl t ht 1 rfl 1
  have Hrun := Lib.hid hrun; have Ht := Lib.hid ht
  clear hrun ht
  have hbel : Below g w (w.alloc (.cells #[.int .i64 3] 3)) := (Below.refl _ _).alloc (by omega) _
  have hb1 := hblk.alloc (.cells #[.int .i64 3] 3)
  have ho1 := hown.alloc (.cells #[.int .i64 3] 3)
  have hf : t.data.toList.all Lx.figure = true := by rw [Ht.out]; exact Lx.tw_all _ _
  have hne : t.data.toList ≠ [] := fun e => by have := Lx.ba_len t; rw [e] at this; simp at this; omega
  by_cases hV : Lx.decVal 0 t.data.toList < 9223372036854775808
  case neg =>
    have hr := Lx.atoi_big hf hne hV
    have hn : Lx.numEnd t.data.toList a l = none := by unfold Lx.numEnd; rw [Lx.number_big (by omega)]
    rw [hn]
    have hat := fun W (hE : Env W) => cAtoi t (by omega) W hE (.inr hr)
    rw [hr] at hat
    have Hat := Lib.hid hat
    have Hb1 := Lib.hid hb1
    clear hr hn hf hne hV hat hb1
    go_enter Tryz.func79, Tryz.ntmps79
    go_wp2_with fail
    refine (Hrun.out).mono ?_
    rintro e w1 ⟨rfl, n, rfl⟩
    go_wp2_with fail
    refine (Hat.out _ (he.below (bel_drewN hbel n) hg)).mono ?_
    rintro e w2 ⟨⟨num, N, T, rfl⟩, hb2⟩
    have hb2' := (Hb1.out.drewN n).below hb2 (by simp; omega)
    have c1 := hb2'.cell 1
    simp at c1
    have Hb2 := Lib.hid hb2
    clear hb2 hb2'
    go_wp2_with fail
    refine ⟨rfl, rfl, (bel_drewN hbel n).trans (Hb2.out.mono ?_)⟩
    simp; omega
  have hr := Lx.atoi_ok hf hne hV
  have hat := fun W (hE : Env W) => cAtoi t (by omega) W hE (.inl ⟨_, hr⟩)
  rw [hr] at hat
  have hio := cItoa (Lx.decVal 0 t.data.toList) (by omega) (by omega)
  have hiv : Lib.itoa (Lx.decVal 0 t.data.toList : Int) = Lib.decDigits (Lx.decVal 0 t.data.toList) := by unfold Lib.itoa; rw [if_neg (by omega)]; rfl
  rw [hiv] at hio
  have hiff := Lx.digits_eq_iff hf hne
  obtain ⟨V, hVe⟩ : ∃ V, V = Lx.decVal 0 t.data.toList := ⟨_, rfl⟩
  have hnum : Lx.numEnd t.data.toList a l = if V ≤ 1099511627776 ∧ Lx.plain t.data.toList then some (a + t.size, l ++ [⟨2, [], V, a⟩]) else none := by
    unfold Lx.numEnd
    rw [hVe]
    split
    · rename_i n hn
      obtain ⟨h1, h2, h3⟩ := Lx.number_val hn
      rw [if_pos ⟨by omega, h3⟩, h1, Lx.ba_len]
    · rename_i hn
      rw [if_neg]
      rintro ⟨h1, h2⟩
      rw [Lx.number_some h1 h2] at hn
      cases hn
  rw [← hVe] at hat hio hiff hV
  rw [hnum]
  have Hat := Lib.hid hat
  have Hio := Lib.hid hio
  have Hiff := Lib.hid hiff
  have Hb1 := Lib.hid hb1
  clear hr hat hio hiv hiff hVe hf hne hnum hb1
  obtain ⟨D, hD⟩ : ∃ D : ByteArray, D = ⟨(Lib.decDigits V).toArray⟩ := ⟨_, rfl⟩
  have HD := Lib.hid hD
  have Hio2 : Hid (∀ (w : World), Env w → Calls Tryz.prog 132 #[.int .i64 (V : Int)] w fun e w' => e = .returned (.string D) ∧ Below w.heap.size w w') := by
    have := Hio.out
    rw [← hD] at this
    exact Lib.hid this
  have hDl : D.toList = Lib.decDigits V := by rw [hD, ByteArray.toList_eq]
  have htl2 : t.toList = t.data.toList := ByteArray.toList_eq t
  by_cases hp : Lx.plain t.data.toList
  case neg =>
    rw [if_neg (fun h => hp h.2)]
    have hq : (D.toList == t.toList) = false := by rw [hDl, htl2, beq_eq_false_iff_ne]; exact fun h => hp (Hiff.out.1 h)
    clear hp hD hDl htl2
    go_enter Tryz.func79, Tryz.ntmps79
    go_wp2_with fail
    refine (Hrun.out).mono ?_
    rintro e w1 ⟨rfl, n, rfl⟩
    go_wp2_with fail
    refine (Hat.out _ (he.below (bel_drewN hbel n) hg)).mono ?_
    rintro e w2 ⟨rfl, hb2⟩
    have he2 := (he.below (bel_drewN hbel n) hg).next hb2
    go_wp2_with fail
    refine (Hio2.out _ he2).mono ?_
    rintro e w3 ⟨rfl, hb3⟩
    have hb23 := hb2.trans (hb3.mono hb2.size)
    have hbk := (Hb1.out.drewN n).below hb23 (by simp; omega)
    have c1 := hbk.cell 1
    simp at c1
    have Hb23 := Lib.hid hb23
    clear hb2 hb3 hb23 hbk he2
    go_wp2_with fail
    refine ⟨rfl, rfl, (bel_drewN hbel n).trans (Hb23.out.mono ?_)⟩
    simp; omega
  have hq : (D.toList == t.toList) = true := by rw [hDl, htl2, beq_iff_eq]; exact Hiff.out.2 hp
  by_cases hV2 : V ≤ 1099511627776
  · rw [if_pos ⟨hV2, hp⟩]
    have hv : Lx.valid ⟨2, (⟨#[]⟩ : ByteArray).data.toList, V, 0⟩ = true := by
      rw [Lx.valid_two]; simp; omega
    have Hv := Lib.hid hv
    have Hp := Lib.hid hp
    clear hp hD hDl htl2 hv
    go_enter Tryz.func79, Tryz.ntmps79
    go_wp2_with fail
    refine (Hrun.out).mono ?_
    rintro e w1 ⟨rfl, n, rfl⟩
    go_wp2_with fail
    refine (Hat.out _ (he.below (bel_drewN hbel n) hg)).mono ?_
    rintro e w2 ⟨rfl, hb2⟩
    have he2 := (he.below (bel_drewN hbel n) hg).next hb2
    go_wp2_with fail
    refine (Hio2.out _ he2).mono ?_
    rintro e w3 ⟨rfl, hb3⟩
    have hb23 := hb2.trans (hb3.mono hb2.size)
    have hbk := (Hb1.out.drewN n).below hb23 (by simp; omega)
    have ho3 := own_below (own_drewN ho1 n) hb23
    have Hb23 := Lib.hid hb23
    have Hbk := Lib.hid hbk
    clear hb2 hb3 hb23 hbk he2
    go_wp2_with fail
    refine (lAddOk g a l.length src t ⟨#[]⟩ 2 V 0 v _ _ Hbk.out ho3 (by omega) (by omega) (show (0 : Nat) ≤ maxLen from Nat.zero_le _) Hv.out).mono ?_
    rintro e w4 ⟨rfl, v2, hb4, ho4, hbel4⟩
    go_wp2_with fail
    go_end0
    exact ⟨rfl, scan_snoc hb4 ho4 (by omega) (by omega) hlen rfl, ((bel_drewN hbel n).trans (Hb23.out.mono (by simp; omega))).trans hbel4⟩
  · rw [if_neg (fun h => hV2 h.1)]
    have hv : Lx.valid ⟨2, (⟨#[]⟩ : ByteArray).data.toList, V, 0⟩ = false := by
      rw [Lx.valid_two]; simp; omega
    have Hv := Lib.hid hv
    clear hp hD hDl htl2 hv
    go_enter Tryz.func79, Tryz.ntmps79
    go_wp2_with fail
    refine (Hrun.out).mono ?_
    rintro e w1 ⟨rfl, n, rfl⟩
    go_wp2_with fail
    refine (Hat.out _ (he.below (bel_drewN hbel n) hg)).mono ?_
    rintro e w2 ⟨rfl, hb2⟩
    have he2 := (he.below (bel_drewN hbel n) hg).next hb2
    go_wp2_with fail
    refine (Hio2.out _ he2).mono ?_
    rintro e w3 ⟨rfl, hb3⟩
    have hb23 := hb2.trans (hb3.mono hb2.size)
    have hbk := (Hb1.out.drewN n).below hb23 (by simp; omega)
    have Hb23 := Lib.hid hb23
    have Hbk := Lib.hid hbk
    clear hb2 hb3 hb23 hbk he2
    go_wp2_with fail
    refine (lAddBad g a src t ⟨#[]⟩ 2 V 0 v _ Hbk.out (show (0 : Nat) ≤ maxLen from Nat.zero_le _) Hv.out).mono ?_
    rintro e w4 ⟨he, hb4⟩
    unfold PanicAt at he
    subst he
    refine ⟨rfl, rfl, ((bel_drewN hbel n).trans (Hb23.out.mono (by simp; omega))).trans (hb4.mono ?_)⟩
    have := Hb23.out.size
    simp at this; omega
end Go.Proofs.YtjonaidancomgaaGreatDoor

namespace Go.Proofs.YtjonaidancomgaaGreatDoor
open Go.RowKit
open Lx (Tok)

theorem quiet_left {P : Program} {f : FuncId} {args : Array Value} {w : World} {n : Nat} {v : Value}
    (h : Calls P f args (w.drewN n) fun e w' => e = .returned v ∧ w.drewN n = w') : Calls P f args (w.drewN n) fun e w'' => e = .returned v ∧ ∃ m, w'' = w.drewN m :=
  h.mono fun _ _ ⟨he, hm⟩ => ⟨he, n, hm.symm⟩
theorem quiet_add_left {P : Program} {f : FuncId} {args : Array Value} {w : World} {a n : Nat} {v : Value}
    (h : Calls P f args (w.drewN (a + n)) fun e w' => e = .returned v ∧ w.drewN (a + n) = w') :
    Calls P f args (w.drewN (a + n)) fun e w'' => e = .returned v ∧ ∃ m, w'' = w.drewN (a + m) :=
  h.mono fun _ _ ⟨he, hm⟩ => ⟨he, n, hm.symm⟩

theorem scan_move {g a k : Nat} {src : ByteArray} {l : List Tok} {v : Value} {w : World} (hb : Blk w g 138 #[.string src, .int .i64 a, v]) (ho : w.ownsRow g 55 4 v l.length (l.flatMap Tok.cells))
    (hf : l.length ≤ a) (ha : a + k ≤ src.size) (hl : src.size ≤ 65536) (x : Int) (hx : x = ((a + k : Nat) : Int)) : Scan g src (a + k) l (w.setCell ⟨g, 1, none⟩ (.int .i64 x)) := by
  subst hx
  have := hb.set 1 (.int .i64 ((a + k : Nat) : Int))
  exact ⟨⟨v, by simpa using this, own_setCell_far ho (own_ne ho hb (by decide)) _⟩, by omega, ha, hl⟩

set_option maxHeartbeats 1000000 in
theorem lSpace1 (g a : Nat) (src : ByteArray) (l : List Tok) (w : World) (hS : Scan g src a l w) (t : ByteArray) (ht : t.data.toList = (src.data.toList.drop a).takeWhile Lx.space) :
    Calls Tryz.prog 77 #[.pointer (some ⟨g, 0, none⟩)] w (Steps1 g src a w (some (a + t.size, l))) := by
  obtain ⟨⟨v, hblk, hown⟩, hfew, hat, hlen⟩ := hS
  have hlt := hblk.lt
  have htl : a + t.size ≤ src.size := by
    rw [← Lx.ba_len, ht]
    have := Lx.tw_le Lx.space (src.data.toList.drop a)
    rw [List.length_drop, Lx.ba_len] at this
    omega
  have hrun := fun W (hW : Blk W g 138 #[.string src, .int .i64 a, v]) => lRunP g a src v [1] Lx.space W Lx.cls_space hW hat hlen (by simp) #[.int .i64 1] rfl t ht 1 rfl 1
  have Hrun := Lib.hid hrun; have Ht := Lib.hid ht
  clear hrun ht
  have c1 := hblk.cell 1
  have f1 := hblk.free 1
  simp at c1
  have hne : g ≠ w.heap.size := by omega
  have d1 := (hblk.alloc (.cells #[.int .i64 1] 3)).cell 1
  have e1 := (hblk.alloc (.cells #[.int .i64 1] 3)).free 1
  simp at d1
  have Hblk := Lib.hid hblk; clear hblk
  go_enter Tryz.func77, Tryz.ntmps77
  go_wp2_with fail
  go_region_with (go_at_call 152; refine (Hrun.out _ (Blk.drew Hblk.out)).mono ?_; rintro e w1 ⟨rfl, n, rfl⟩)
  all_goals go_end0
  all_goals exact ⟨rfl, scan_move ((Hblk.out.alloc (.cells #[.int .i64 1] 3)).drewN (1 + n)) (own_drewN (hown.alloc (.cells #[.int .i64 1] 3)) (1 + n)) hfew htl hlen _ (by rw [IntWalk.i64_in _ (by omega)]; omega), (bel_drewN ((Below.refl _ _).alloc (by omega) _) (1 + n)).setCell (show g ≤ (⟨g, 1, none⟩ : Addr).block from Nat.le_refl g) _⟩

theorem Lx.nl_some (l : List UInt8) (o : Nat) (h : Lib.indexByte l 10 = o) : (l.takeWhile (· != 10)).length = o := by
  obtain ⟨h1, h2⟩ := Lib.indexByte_some h
  have hlt : o < l.length := (List.getElem?_eq_some_iff.1 h1).1
  refine Lx.tw_len _ l o (by omega) (fun j hj hjo => ?_) (fun hh => ?_)
  · have := h2 j hjo
    rw [List.getElem?_eq_getElem hj] at this
    simpa using this
  · rw [List.getElem?_eq_getElem hlt] at h1
    simpa using Option.some.inj h1
theorem Lx.nl_none (l : List UInt8) (h : Lib.indexByte l 10 < 0) : (l.takeWhile (· != 10)).length = l.length := by
  have hge := Lib.indexByte_ge l 10
  have h2 := Lib.indexByte_none (l := l) (c := 10) (by omega)
  refine Lx.tw_len _ l l.length (by omega) (fun j hj hjo => ?_) (fun hh => absurd hh (by omega))
  have := h2 j
  rw [List.getElem?_eq_getElem hj] at this
  simpa using this
theorem Lx.comment_iff (l : List UInt8) : Lib.hasPrefix l [47, 47] = Lx.comment l := by
  rw [Bool.eq_iff_iff]
  match l with
  | [] => simp [Lx.comment, Lib.hasPrefix]
  | [c] => simp [Lx.comment, Lib.hasPrefix]
  | c :: d :: r => simp only [Lx.comment, Lib.hasPrefix, List.isPrefixOf, List.head?_cons, Bool.and_true, Bool.and_eq_true, beq_iff_eq, Option.some.injEq]; exact ⟨fun ⟨h1, h2⟩ => ⟨h1.symm, h2.symm⟩, fun ⟨h1, h2⟩ => ⟨h1.symm, h2.symm⟩⟩
end Go.Proofs.YtjonaidancomgaaGreatDoor

namespace Go.Proofs.YtjonaidancomgaaGreatDoor
open Go.RowKit
open Lx (Tok)

def Lx.signEnd (rest : List UInt8) (a : Nat) (l : List Tok) : Option (Nat × List Tok) :=
  if Lx.comment rest then some (a + (rest.takeWhile (· != 10)).length, l) else some (a + 1, l ++ [⟨3, rest.take 1, 0, a⟩])

set_option maxHeartbeats 1000000 in
theorem lSign1 (g a : Nat) (src : ByteArray) (l : List Tok) (w : World) (hS : Scan g src a l w) (ha : a < src.size) (hc : Lx.sign src[a] = true) :
    Calls Tryz.prog 80 #[.pointer (some ⟨g, 0, none⟩)] w (Steps1 g src a w (Lx.signEnd (src.data.toList.drop a) a l)) := by
  obtain ⟨⟨v, hblk, hown⟩, hfew, hat, hlen⟩ := hS
  have hlt := hblk.lt
  obtain ⟨R, hR⟩ : ∃ R, R = src.extract a src.size := ⟨_, rfl⟩
  have hRl : R.data.toList = src.data.toList.drop a := by rw [hR, Lib.extract_to_end]
  have c0 := hblk.cell 0
  have c1 := hblk.cell 1
  have f1 := hblk.free 1
  simp at c0 c1
  have Hblk := Lib.hid hblk; clear hblk
  have Hc := Lib.hid hc; clear hc
  have hpre : ∀ W, Calls Tryz.prog 155 #[.string R, .string ⟨#[47, 47]⟩] W fun e w' => e = .returned (.bool (Lx.comment (src.data.toList.drop a))) ∧ W = w' := fun W => by
    have := cHasPrefix R ⟨#[47, 47]⟩ W
    rw [hRl] at this
    rw [← Lx.comment_iff]
    exact this
  have Hpre := Lib.hid hpre; clear hpre
  rw [← hRl] at Hpre ⊢
  have HR := Lib.hid hR
  have HRl := Lib.hid hRl
  have hRs : R.size = src.size - a := by rw [← Lx.ba_len, hRl, List.length_drop, Lx.ba_len]
  have HRs := Lib.hid hRs
  have hRe : src.extract a src.size = R := hR.symm
  clear hR hRl hRs
  cases hcom : Lx.comment R.data.toList
  case true =>
    rw [hcom] at Hpre
    have hix : ∀ W, Calls Tryz.prog 156 #[.string R, .int .u8 10] W fun e w' => e = .returned (.int .i64 (Lib.indexByte R.data.toList 10)) ∧ W = w' := fun W => cIndexByte R 10 W
    have hse : Lx.signEnd R.data.toList a l = some (a + (R.data.toList.takeWhile (· != 10)).length, l) := by unfold Lx.signEnd; rw [hcom]; rfl
    rw [hse]
    by_cases hn : Lib.indexByte R.data.toList 10 < 0
    · rw [Lx.nl_none _ hn, Lx.ba_len]
      obtain ⟨x, hx⟩ : ∃ x, x = Lib.indexByte R.data.toList 10 := ⟨_, rfl⟩
      rw [← hx] at hix hn
      have Hix := Lib.hid hix
      clear hix hx hse hcom
      go_enter Tryz.func80, Tryz.ntmps80
      go_wp2_with fail
      go_quiet ((go_at_call 155; exact quiet_left (Hpre.out _)))
      go_wp2_with fail
      go_quiet ((go_at_call 156; exact quiet_add_left (Hix.out _)))
      go_wp2_with fail
      go_end0
      have hrs := HRs.out
      exact ⟨rfl, scan_move (Hblk.out.drewN _) (own_drewN hown _) hfew (by omega) hlen _ (by omega), (bel_drewN (Below.refl _ _) _).setCell (show g ≤ (⟨g, 1, none⟩ : Addr).block from Nat.le_refl g) _⟩
    · obtain ⟨o, ho⟩ := Int.eq_ofNat_of_zero_le (show 0 ≤ Lib.indexByte R.data.toList 10 by omega)
      rw [Lx.nl_some _ o ho]
      have hol : o ≤ R.size := by have := (List.getElem?_eq_some_iff.1 (Lib.indexByte_some ho).1).1; rw [Lx.ba_len] at this; omega
      have HRs' := HRs.out
      rw [ho] at hix
      have Hix := Lib.hid hix
      clear hix hse hcom hn ho
      have hol2 : a + o ≤ src.size := by omega
      clear HRs'
      go_enter Tryz.func80, Tryz.ntmps80
      go_wp2_with fail
      go_quiet ((go_at_call 155; exact quiet_left (Hpre.out _)))
      go_wp2_with fail
      go_quiet ((go_at_call 156; exact quiet_add_left (Hix.out _)))
      go_wp2_with fail
      go_end0
      exact ⟨rfl, scan_move (Hblk.out.drewN _) (own_drewN hown _) hfew (by omega) hlen _ (by omega), (bel_drewN (Below.refl _ _) _).setCell (show g ≤ (⟨g, 1, none⟩ : Addr).block from Nat.le_refl g) _⟩
  case false =>
    rw [hcom] at Hpre
    have hse : Lx.signEnd R.data.toList a l = some (a + 1, l ++ [⟨3, R.data.toList.take 1, 0, a⟩]) := by unfold Lx.signEnd; rw [hcom]; rfl
    rw [hse]
    clear hcom hse
    obtain ⟨t, ht⟩ : ∃ t, src.extract a (a + 1) = t := ⟨_, rfl⟩
    have htl : t.data.toList = R.data.toList.take 1 := by rw [← ht, HRl.out, Lx.ext_list]
    have hts : t.size = 1 := by rw [← ht, Lx.ext_size _ _ _ (by omega)]
    have ht0 : t[0]'(by omega) = src[a] := by
      rw [← Lx.ba_get t 0 (by omega), ← Lx.ba_get src a ha]
      have : t.data.toList[0]? = src.data.toList[a]? := by rw [htl, HRl.out]; simp
      rw [List.getElem?_eq_getElem (by rw [Lx.ba_len]; omega), List.getElem?_eq_getElem (by rw [Lx.ba_len]; omega)] at this
      exact Option.some.inj this
    have hv : Lx.valid ⟨3, t.data.toList, 0, 0⟩ = true := by
      rw [Lx.valid_three t 0 0 hts, ht0, Hc.out]; rfl
    rw [← htl]
    have Hv := Lib.hid hv; have Hts := Lib.hid hts
    have htsz : 1 ≤ t.size := by omega
    have htsz2 : t.size ≤ 1 := by omega
    clear htl hts ht0 hv
    go_enter Tryz.func80, Tryz.ntmps80
    go_wp2_with fail
    go_quiet ((go_at_call 155; exact quiet_left (Hpre.out _)))
    go_wp2_with fail
    go_quiet (fail)
    go_wp2_with fail
    refine (lAddOk g a l.length src t t 3 0 0 v _ _ (Hblk.out.drewN _) (own_drewN hown _) (by omega) (by omega) (by unfold maxLen; omega) Hv.out).mono ?_
    rintro e w2 ⟨rfl, v2, hb2, ho2, hbel2⟩
    go_wp2_with fail
    go_end0
    refine ⟨rfl, ?_, (bel_drewN (Below.refl _ _) _).trans hbel2⟩
    have hs := Hts.out
    rw [hs] at hb2
    exact scan_snoc hb2 ho2 (by omega) (by omega) hlen (by rw [Lx.bs_of' (l := t.data.toList) rfl]; rfl)
end Go.Proofs.YtjonaidancomgaaGreatDoor

namespace Go.Proofs.YtjonaidancomgaaGreatDoor
open Go.RowKit
open Lx (Tok)

set_option maxHeartbeats 1000000 in
theorem lCatchIdle (p q r : Addr) (w : World) :
    CallsD Tryz.prog 75 #[.pointer (some p), .pointer (some q), .pointer (some r)] .returning w fun e u' w' => e = .returned (.tuple #[]) ∧ u' = .returning ∧ w' = w := by
  refine callsD_of_wpS Tryz.func75 rfl fun c₀ cs hu => ?_
  apply wpS_seq
  apply wpS_region
  simp [wpOpsS, go_sem, recoverD, hu, Tryz.ntmps75, Exit.thenS, Array.replicate_succ]
  refine wpS_of_wp ?_
  go_wp2
  cases c₀
  simp_all [bodyPostS, results, Tryz.results75]

theorem assert_place (n : Int) (w : World) : (Instr.typeAssert (.iface 131 (.int .i64 n)) 20 131 false).run Tryz.prog w = .ok (.int .i64 n) w := by kernel_rfl

set_option maxHeartbeats 1000000 in
theorem lCatch (N a : Nat) (x0 x1 x2 : Value) (w : World) (h0 : Blk w N 51 #[x0]) (h1 : Blk w (N + 1) 3 #[x1]) (h2 : Blk w (N + 2) 31 #[x2]) :
    CallsD Tryz.prog 75 #[.pointer (some ⟨N, 0, none⟩), .pointer (some ⟨N + 1, 0, none⟩), .pointer (some ⟨N + 2, 0, none⟩)] (.panicking [{ v := .iface 131 (.int .i64 a), recovered := false }]) w fun e u' w' =>
      e = .returned (.tuple #[]) ∧ u' = .panicking [{ v := .iface 131 (.int .i64 a), recovered := true }] ∧ Blk w' N 51 #[.slice none 0 0] ∧ Blk w' (N + 1) 3 #[.int .i64 a] ∧ Blk w' (N + 2) 31 #[.int .i64 90] ∧ Below N w w' := by
  refine callsD_of_wpS Tryz.func75 rfl fun c₀ cs hu => ?_
  apply wpS_seq
  apply wpS_region
  simp [wpOpsS, go_sem, recoverD, hu, Tryz.ntmps75, Exit.thenS, Array.replicate_succ]
  refine wpS_of_wp ?_
  have c0 := h0.cell 0; have c1 := h1.cell 0; have c2 := h2.cell 0
  have f0 := h0.free 0; have f1 := h1.free 0; have f2 := h2.free 0
  simp at c0 c1 c2
  have hta := assert_place
  go_wp2
  go_region
  refine ⟨rfl, _, rfl, .tuple #[], by simp [results, Tryz.results75], rfl, rfl, ?_, ?_, ?_, ?_⟩
  · have := (((h0.set 0 (.slice none 0 0)).far (p := ⟨N + 1, 0, none⟩) (by simp) (.int .i64 a)).far (p := ⟨N + 2, 0, none⟩) (by simp) (.int .i64 90)).drew
    simpa using this
  · have := (((h1.far (p := ⟨N, 0, none⟩) (by simp) (.slice none 0 0)).set 0 (.int .i64 a)).far (p := ⟨N + 2, 0, none⟩) (by simp) (.int .i64 90)).drew
    simpa using this
  · have := (((h2.far (p := ⟨N, 0, none⟩) (by simp) (.slice none 0 0)).far (p := ⟨N + 1, 0, none⟩) (by simp) (.int .i64 a)).set 0 (.int .i64 90)).drew
    simpa using this
  · exact ((((Below.refl N w).setCell (p := ⟨N, 0, none⟩) (Nat.le_refl _) _).setCell (p := ⟨N + 1, 0, none⟩) (show N ≤ N + 1 by omega) _).setCell (p := ⟨N + 2, 0, none⟩) (show N ≤ N + 2 by omega) _).drew

/-- What Lex returns: the tokens, or the place of the error. -/
def Lx.lexR (s : List UInt8) : Except Int (List Tok) := if 65536 < s.length then .error (-1) else match Lx.lex s with | .ok l => .ok l | .err p => .error p
def LexPost (s : List UInt8) (w : World) (e : Ending) (w' : World) : Prop :=
  Below w.heap.size w w' ∧
  if 65536 < s.length then e = .returned (.tuple #[.slice none 0 0, .int .i64 0, .int .i64 2]) else
  match Lx.lex s with
  | .ok l => ∃ A c, e = .returned (.tuple #[.slice A l.length c, .int .i64 0, .int .i64 0]) ∧ Toks w' w'.heap.size A l
  | .err p => e = .returned (.tuple #[.slice none 0 0, .int .i64 p, .int .i64 90])

/-- The same, with the slice's room. -/
def LexPostC (s : List UInt8) (w : World) (e : Ending) (w' : World) : Prop :=
  Below w.heap.size w w' ∧
  if 65536 < s.length then e = .returned (.tuple #[.slice none 0 0, .int .i64 0, .int .i64 2]) else
  match Lx.lex s with
  | .ok l => ∃ A c, e = .returned (.tuple #[.slice A l.length c, .int .i64 0, .int .i64 0]) ∧ Toks w' w'.heap.size A l ∧ l.length ≤ c
  | .err p => e = .returned (.tuple #[.slice none 0 0, .int .i64 p, .int .i64 90])
theorem LexPostC.weak {s : List UInt8} {w w' : World} {e : Ending} (h : LexPostC s w e w') : LexPost s w e w' := by
  unfold LexPostC at h
  unfold LexPost
  refine ⟨h.1, ?_⟩
  have h2 := h.2
  split
  · rename_i hs; rw [if_pos hs] at h2; exact h2
  · rename_i hs
    rw [if_neg hs] at h2
    cases hl : Lx.lex s with
    | ok l => rw [hl] at h2; obtain ⟨A, c, h3, h4, _⟩ := h2; exact ⟨A, c, h3, h4⟩
    | err p => rw [hl] at h2; exact h2
theorem own_cap {w : World} {base sz n c : Nat} {e : TypeId} {A : Option Addr} {xs : List Value} (h : w.ownsRow base e sz (.slice A n c) n xs) : n ≤ c := by
  rcases h.2 with ⟨hv, h0⟩ | ⟨g, cap, cur, hv, _, _, hc, _⟩
  · omega
  · injection hv with _ _ hv; omega

set_option maxHeartbeats 1000000 in
theorem lLexLong (s : ByteArray) (w : World) (hs : s.size ≤ maxLen) (h : 65536 < s.size) : Calls Tryz.prog 27 #[.string s] w (LexPostC s.data.toList w) := by
  unfold maxLen at hs
  go_enter Tryz.func27, Tryz.ntmps27
  go_wp2
  refine bodyPost_ret (v := .tuple #[.slice none 0 0, .int .i64 0, .int .i64 2]) (by simp [results, Tryz.results27, go_sem]) rfl ⟨?_, by rw [if_pos (by rw [Lx.ba_len]; omega)]⟩
  exact (((Below.refl _ _).alloc (Nat.le_refl _) _).alloc (by simp) _).alloc (by simp; omega) _

/-- The world in which Lex's loop begins: three result variables, the table of steps, the scanner. -/
def lexStart (s : ByteArray) (w : World) : World :=
  (((((w.alloc (Obj.cells #[Value.slice none 0 0] 51)).alloc (Obj.cells #[Value.int IntKind.i64 0] 3)).alloc
    (Obj.cells #[Value.int IntKind.i64 0] 31)).alloc
    (Obj.cells #[Value.func (Fn.func 76) #[] #[], Value.func (Fn.func 77) #[] #[], Value.func (Fn.func 78) #[] #[],
      Value.func (Fn.func 79) #[] #[], Value.func (Fn.func 80) #[] #[], Value.func (Fn.func 76) #[] #[]] 135)).alloc
    (Obj.cells #[Value.string s, Value.int IntKind.i64 0, Value.slice none 0 0] 138))

theorem Blk.new_at {t : TypeId} {cs : Array Value} (w : World) (n : Nat) (h : w.heap.size = n) : Blk (w.alloc (.cells cs t)) n t cs := by subst h; exact Blk.new w t cs
structure LexAt (s : ByteArray) (w : World) (wr : World) : Prop where
  b0 : Blk wr w.heap.size 51 #[.slice none 0 0]
  b1 : Blk wr (w.heap.size + 1) 3 #[.int .i64 0]
  b2 : Blk wr (w.heap.size + 1 + 1) 31 #[.int .i64 0]
  b3 : Blk wr (w.heap.size + 1 + 1 + 1) 135 #[.func (.func 76) #[] #[], .func (.func 77) #[] #[], .func (.func 78) #[] #[],
      .func (.func 79) #[] #[], .func (.func 80) #[] #[], .func (.func 76) #[] #[]]
  bel : Below w.heap.size w wr

theorem lexStart_at (s : ByteArray) (w : World) : LexAt s w (lexStart s w) := by
  refine ⟨?_, ?_, ?_, ?_, ?_⟩
  · exact ((((Blk.new_at w w.heap.size rfl).alloc _).alloc _).alloc _).alloc _
  · exact (((Blk.new_at (w.alloc _) (w.heap.size + 1) (by simp)).alloc _).alloc _).alloc _
  · exact ((Blk.new_at ((w.alloc _).alloc _) (w.heap.size + 1 + 1) (by simp)).alloc _).alloc _
  · exact (Blk.new_at (((w.alloc _).alloc _).alloc _) (w.heap.size + 1 + 1 + 1) (by simp)).alloc _
  · exact (((((Below.refl _ _).alloc (Nat.le_refl _) _).alloc (by simp) _).alloc (by simp; omega) _).alloc (by simp; omega) _).alloc (by simp; omega) _
theorem lexStart_scan (s : ByteArray) (w : World) (h : s.size ≤ 65536) : Scan (w.heap.size + 1 + 1 + 1 + 1) s 0 [] (lexStart s w) := by
  refine ⟨⟨.slice none 0 0, ?_, ?_⟩, by simp, by omega, h⟩
  · exact Blk.new_at ((((w.alloc _).alloc _).alloc _).alloc _) (w.heap.size + 1 + 1 + 1 + 1) (by simp)
  · exact ⟨by simp, .inl ⟨rfl, rfl⟩⟩
theorem LexAt.next {s : ByteArray} {w wr wr' : World} (h : LexAt s w wr) (hb : Below (w.heap.size + 1 + 1 + 1 + 1) wr wr') : LexAt s w wr' :=
  ⟨h.b0.below hb (by omega), h.b1.below hb (by omega), h.b2.below hb (by omega), h.b3.below hb (by omega), h.bel.trans (hb.mono (by omega))⟩

theorem own_form {w : World} {base : Nat} {e : TypeId} {size n : Nat} {v : Value} {xs : List Value} (h : w.ownsRow base e size v n xs) : ∃ A c, v = .slice A n c := by
  rcases h.2 with ⟨rfl, h0⟩ | ⟨g, cap, cur, rfl, _⟩
  · exact ⟨none, 0, by rw [h0]⟩
  · exact ⟨_, _, rfl⟩

def lexDefer (w : World) : List Deferred := [{ target := .fn (.func 75) #[.pointer (some ⟨w.heap.size, 0, none⟩), .pointer (some ⟨w.heap.size + 1, 0, none⟩), .pointer (some ⟨w.heap.size + 1 + 1, 0, none⟩)], args := #[] }]

theorem lex_panicked (s : ByteArray) (h : s.size ≤ 65536) (w w1 : World) (a : Nat) (tmps : Array Value) (h2 : tmps[2]? = some (.pointer (some ⟨w.heap.size, 0, none⟩))) (h3 : tmps[3]? = some (.pointer (some ⟨w.heap.size + 1, 0, none⟩))) (h4 : tmps[4]? = some (.pointer (some ⟨w.heap.size + 1 + 1, 0, none⟩)))
    (hA : LexAt s w w1) (hl : Lx.lex s.data.toList = .err a) :
    Leaves Tryz.prog Tryz.f27 tmps (LexPostC s.data.toList w) (lexDefer w) (.panicking [{ v := .iface 131 (.int .i64 a), recovered := false }]) w1 := by
  refine leaves_cons (f := 75) (args := #[.pointer (some ⟨w.heap.size, 0, none⟩), .pointer (some ⟨w.heap.size + 1, 0, none⟩), .pointer (some ⟨w.heap.size + 1 + 1, 0, none⟩)]) (by simp) (by simp [go_sem]) ?_
  refine (lCatch w.heap.size a _ _ _ w1 hA.b0 hA.b1 hA.b2).mono ?_
  rintro e u' w2 ⟨rfl, rfl, q0, q1, q2, hb⟩
  have c0 := q0.cell 0; have c1 := q1.cell 0; have c2 := q2.cell 0
  simp at c0 c1 c2
  refine ⟨.tuple #[.slice none 0 0, .int .i64 a, .int .i64 90], ?_, ?_⟩
  · simp [results, Tryz.results27, go_sem, h2, h3, h4, c0, c1, c2]
  · refine ⟨hA.bel.trans hb, ?_⟩
    rw [if_neg (by rw [Lx.ba_len]; omega), hl]

theorem flat_at : ∀ (l : List Tok) (k : Nat) (t : Tok) (j : Nat), l[k]? = some t → j < 4 → (l.flatMap Tok.cells)[k * 4 + j]? = t.cells[j]?
  | [], k, t, j, h, _ => by simp at h
  | x :: r, 0, t, j, h, hj => by
    simp at h
    subst h
    rw [List.flatMap_cons, List.getElem?_append_left (by simp [Tok.cells]; omega)]
    simp
  | x :: r, k + 1, t, j, h, hj => by
    rw [List.flatMap_cons, List.getElem?_append_right (by simp [Tok.cells]; omega)]
    simp only [List.getElem?_cons_succ] at h
    rw [← flat_at r k t j h hj]
    congr 1
    simp [Tok.cells]; omega
theorem toks_own {w : World} {base c : Nat} {A : Option Addr} {l : List Tok} (h : w.ownsRow base 55 4 (.slice A l.length c) l.length (l.flatMap Tok.cells)) (hl : l.length ≤ 65536) (ht : ∀ t ∈ l, t.text.length ≤ 65536) : Toks w w.heap.size A l := by
  refine ⟨fun k t hk => ?_, by omega, fun t h => by have := ht t h; omega⟩
  have hlt : k < l.length := (List.getElem?_eq_some_iff.1 hk).1
  obtain ⟨g, cap, hv, _, hg⟩ := h.form (by omega)
  injection hv with hA _ _
  subst hA
  have hcell := fun (j : Nat) (hj : j < 4) => (h.cellAt (g := g) (k * 4 + j) (by omega)).trans (flat_at l k t j hk hj)
  refine ⟨g, 0, rfl, hg, ?_, ?_, ?_, ?_⟩
  · have := hcell 0 (by omega); simp [Tok.cells] at this ⊢
  · have := hcell 1 (by omega); simp [Tok.cells, Lx.bs] at this ⊢
  · have := hcell 2 (by omega); simp [Tok.cells] at this ⊢
  · have := hcell 3 (by omega); simp [Tok.cells] at this ⊢

theorem lex_returned (s : ByteArray) (h : s.size ≤ 65536) (w w1 : World) (tmps : Array Value) (h2 : tmps[2]? = some (.pointer (some ⟨w.heap.size, 0, none⟩))) (h3 : tmps[3]? = some (.pointer (some ⟨w.heap.size + 1, 0, none⟩))) (h4 : tmps[4]? = some (.pointer (some ⟨w.heap.size + 1 + 1, 0, none⟩)))
    (A : Option Addr) (c : Nat) (l : List Tok) (q0 : Blk w1 w.heap.size 51 #[.slice A l.length c]) (q1 : Blk w1 (w.heap.size + 1) 3 #[.int .i64 0]) (q2 : Blk w1 (w.heap.size + 1 + 1) 31 #[.int .i64 0]) (hbel : Below w.heap.size w w1)
    (hT : Toks w1 w1.heap.size A l) (hc : l.length ≤ c) (hl : Lx.lex s.data.toList = .ok l) :
    Leaves Tryz.prog Tryz.f27 tmps (LexPostC s.data.toList w) (lexDefer w) .returning w1 := by
  refine leaves_cons (f := 75) (args := #[.pointer (some ⟨w.heap.size, 0, none⟩), .pointer (some ⟨w.heap.size + 1, 0, none⟩), .pointer (some ⟨w.heap.size + 1 + 1, 0, none⟩)]) (by simp) (by simp [go_sem]) ?_
  refine (lCatchIdle _ _ _ w1).mono ?_
  rintro e u' w2 ⟨rfl, rfl, rfl⟩
  have c0 := q0.cell 0; have c1 := q1.cell 0; have c2 := q2.cell 0
  simp at c0 c1 c2
  refine ⟨.tuple #[.slice A l.length c, .int .i64 0, .int .i64 0], ?_, ?_⟩
  · simp [results, Tryz.results27, go_sem, h2, h3, h4, c0, c1, c2]
  · refine ⟨hbel, ?_⟩
    rw [if_neg (by rw [Lx.ba_len]; omega), hl]
    exact ⟨A, c, rfl, hT, hc⟩
end Go.Proofs.YtjonaidancomgaaGreatDoor
