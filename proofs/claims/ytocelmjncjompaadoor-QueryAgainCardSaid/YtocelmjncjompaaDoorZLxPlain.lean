/- Parts of the proof, joined into one text: LxPlain, LxA, Shelf, LxSpec, LxLib. -/
import Derived.WalkKit
import Derived.Lib.Hide
import Derived.Lib.Bytealg
import Derived.Lib.IndexLaws
import Derived.Test.YtocelmjncjompaaDoorRows
import Derived.WalkSpells
import Derived.WalkLawsBesides
import Derived.Shelf.Strings.Builder1
import Derived.Shelf.Strings.Builder2
import Derived.Shelf.Strings.OnBuilder
import Derived.Shelf.Small.Strs
import Derived.Shelf.Strconv.Atoi
import Derived.Shelf.Strconv.Itoa0
import Derived.Shelf.Strconv.Itoa1
import Derived.Shelf.LaysM
import Derived.Shelf.Strconv.Itoa2
import Derived.Shelf.Strconv.Itoa3
import Derived.Shelf.Strconv.AtoiErrFast
import Derived.Shelf.Strconv.ParseIntEmpty
import Derived.Shelf.Strconv.AtoiFail
import Derived.Shelf.Strconv.Clone
import Derived.Shelf.Strconv.SyntaxError
import Derived.Shelf.LaysC
import Derived.Shelf.Strconv.ToError
import Derived.Shelf.Strconv.Lower
import Derived.Shelf.Strconv.ParseUint10
import Derived.Shelf.Strconv.ParseUint10Empty
import Derived.Shelf.Strconv.ParseUint10Any
import Derived.Shelf.Strconv.ParseInt10
import Derived.Shelf.Strconv.AtoiLong
import Derived.Shelf.Strconv.AtoiInnerAll
import Derived.Shelf.Strconv.RangeError
import Derived.Shelf.Strconv.ToErrorRange
import Derived.Shelf.Strconv.AtoiAll
import Derived.Shelf.Strconv.ErrVarAll
import Derived.Shelf.Strings.Search1
import Derived.Shelf.Strings.Prefix
import Derived.Shelf.Slices.Turned
import Derived.Shelf.Slices.Equal
import Derived.Shelf.Slices.Empties2
import Derived.Test.YtocelmjncjompaaDoorProg
import Derived.Lib.ItoaNum
import Derived.Lib.AtoiAll
import Derived.Lib.LaidTab

namespace Go.Proofs.YtocelmjncjompaaDoor
theorem ret_bool {a b : Bool} (h : a = b) : Ending.returned (.bool a) = .returned (.bool b) := by rw [h]
theorem ret_int {k : IntKind} {a b : Int} (h : a = b) : Ending.returned (.int k a) = .returned (.int k b) := by rw [h]
end Go.Proofs.YtocelmjncjompaaDoor
namespace Go.Proofs.YtocelmjncjompaaDoor.Lx

def letter (c : UInt8) : Bool := (97 ≤ c && c ≤ 122) || (65 ≤ c && c ≤ 90)
def figure (c : UInt8) : Bool := 48 ≤ c && c ≤ 57
def space (c : UInt8) : Bool := c == 32 || c == 9 || c == 10 || c == 13
def signs : List UInt8 := [123, 125, 40, 41, 59, 44, 61, 35, 47, 60, 33, 45, 46]
def sign (c : UInt8) : Bool := signs.contains c
def part (c : UInt8) : Bool := letter c || figure c || c == 95

theorem eqb (c d : UInt8) : (c == d) = decide ((c.toNat : Int) = d.toNat) := by
  rw [Bool.eq_iff_iff]; simp [← UInt8.toNat_inj]; omega
theorem letter_iff (c : UInt8) : letter c = (decide (97 ≤ (c.toNat : Int)) && decide ((c.toNat : Int) ≤ 122) || decide (65 ≤ (c.toNat : Int)) && decide ((c.toNat : Int) ≤ 90)) := by
  rw [Bool.eq_iff_iff]; simp [letter, UInt8.le_iff_toNat_le]; omega
theorem figure_iff (c : UInt8) : figure c = (decide (48 ≤ (c.toNat : Int)) && decide ((c.toNat : Int) ≤ 57)) := by
  rw [Bool.eq_iff_iff]; simp [figure, UInt8.le_iff_toNat_le]; omega
theorem space_iff (c : UInt8) : space c = (decide ((c.toNat : Int) = 32) || decide ((c.toNat : Int) = 9) || decide ((c.toNat : Int) = 10) || decide ((c.toNat : Int) = 13)) := by
  unfold space; rw [eqb, eqb, eqb, eqb]; rfl
theorem part_iff (c : UInt8) : part c = (letter c || figure c || decide ((c.toNat : Int) = 95)) := by
  unfold part; rw [eqb]; rfl

/-- The class of a byte, as the program numbers it. -/
def cls (c : UInt8) : Int := if letter c then 2 else if figure c then 3 else if c == 95 then 5 else if space c then 1 else if sign c then 4 else 0

theorem mem_index (l : List UInt8) (c : UInt8) : l.contains c = decide (0 ≤ Lib.indexByte l c) := by
  rw [Bool.eq_iff_iff]
  simp only [List.contains_iff_mem, decide_eq_true_eq]
  have hge := Lib.indexByte_ge l c
  constructor
  · intro h
    rcases Int.lt_or_le (Lib.indexByte l c) 0 with h0 | h0
    · obtain ⟨k, hk⟩ := List.mem_iff_getElem?.1 h
      exact absurd hk (Lib.indexByte_none (by omega) k)
    · exact h0
  · intro h
    obtain ⟨o, ho⟩ := Int.eq_ofNat_of_zero_le h
    exact List.mem_of_getElem? (Lib.indexByte_some ho).1
theorem cls_eq (c : UInt8) : cls c = if (97 ≤ (c.toNat : Int) ∧ (c.toNat : Int) ≤ 122) ∨ (65 ≤ (c.toNat : Int) ∧ (c.toNat : Int) ≤ 90) then 2 else if 48 ≤ (c.toNat : Int) ∧ (c.toNat : Int) ≤ 57 then 3 else if (c.toNat : Int) = 95 then 5
    else if (c.toNat : Int) = 32 ∨ (c.toNat : Int) = 9 ∨ (c.toNat : Int) = 10 ∨ (c.toNat : Int) = 13 then 1 else if 0 ≤ Lib.indexByte [123, 125, 40, 41, 59, 44, 61, 35, 47, 60, 33, 45, 46] c then 4 else 0 := by
  unfold cls sign
  rw [letter_iff, figure_iff, space_iff, mem_index, eqb]
  simp only [Bool.or_eq_true, Bool.and_eq_true, decide_eq_true_eq, or_assoc]
  rfl

def sgBA : ByteArray := ⟨#[123, 125, 40, 41, 59, 44, 61, 35, 47, 60, 33, 45, 46]⟩
theorem sign_hit (k : Nat) (c : UInt8) (h : k < sgBA.size) (e : (((sgBA[k]'h).toNat : Int) == (c.toNat : Int)) = true) : sign c = true := by
  have hk : k < signs.length := h
  have e1 : sgBA[k]'h = signs[k] := rfl
  rw [e1] at e
  have e2 : signs[k] = c := UInt8.toNat_inj.1 (by have := eq_of_beq e; omega)
  unfold sign; rw [← e2]; simp
theorem sign_miss (k : Nat) (c : UInt8) (h : k < sgBA.size) (h0 : (signs.take k).contains c = false) (e : (((sgBA[k]'h).toNat : Int) == (c.toNat : Int)) = false) : (signs.take (k + 1)).contains c = false := by
  have hk : k < signs.length := h
  have e1 : sgBA[k]'h = signs[k] := rfl
  rw [e1] at e
  have e2 : ¬ signs[k] = c := fun h => by rw [h] at e; simp at e
  rw [List.take_succ_eq_append_getElem hk]
  simp only [List.contains_eq_mem, decide_eq_false_iff_not, List.mem_append, List.mem_singleton] at h0 ⊢
  rintro (h | h)
  · exact h0 h
  · exact e2 h.symm

/-- A name. -/
def isName (s : List UInt8) : Bool := match s with | [] => false | c :: _ => decide (s.length ≤ 32) && letter c && s.all part


theorem ba_get (s : ByteArray) (k : Nat) (h : k < s.size) : s.data.toList[k]'(by simpa using h) = s[k] := rfl
theorem ba_len (s : ByteArray) : s.data.toList.length = s.size := by simp
theorem take_snoc (s : ByteArray) (k : Nat) (h : k < s.size) : s.data.toList.take (k + 1) = s.data.toList.take k ++ [s[k]] := by
  rw [List.take_succ_eq_append_getElem (by simpa using h)]; rfl
theorem isName_eq (s : ByteArray) (h : 0 < s.size) : isName s.data.toList = (decide (s.size ≤ 32) && letter s[0] && s.data.toList.all part) := by
  have hl := ba_len s
  have h0 := ba_get s 0 h
  cases hs : s.data.toList with
  | nil => rw [hs] at hl; simp at hl; omega
  | cons c r =>
    rw [hs] at hl
    have : c = s[0] := by rw [← h0]; simp [hs]
    subst this
    simp only [isName, hl]
theorem isName_none (s : ByteArray) (h : s.size < 1) : isName s.data.toList = false := by
  have hl := ba_len s
  have : s.data.toList = [] := List.eq_nil_of_length_eq_zero (by omega)
  rw [this]; rfl
theorem isName_long (s : ByteArray) (h : 32 < s.size) : isName s.data.toList = false := by
  rw [isName_eq s (by omega), decide_eq_false (by omega)]; rfl
theorem isName_head (s : ByteArray) (h : 0 < s.size) (h1 : letter s[0] = false) : isName s.data.toList = false := by
  rw [isName_eq s h, h1]; simp
theorem isName_bad (s : ByteArray) (k : Nat) (h : k < s.size) (h1 : part s[k] = false) : isName s.data.toList = false := by
  rw [isName_eq s (by omega)]
  have : s.data.toList.all part = false := by
    rw [List.all_eq_false]
    exact ⟨s[k], by rw [← ba_get s k h]; exact List.getElem_mem _, by simp [h1]⟩
  rw [this, Bool.and_false]
theorem isName_ok (s : ByteArray) (h : 0 < s.size) (h1 : s.size ≤ 32) (h2 : letter s[0] = true) (h3 : s.data.toList.all part = true) : isName s.data.toList = true := by
  rw [isName_eq s h, h2, h3, decide_eq_true h1]; rfl
theorem all_step (s : ByteArray) (k : Nat) (h : k < s.size) (h0 : (s.data.toList.take k).all part = true) (h1 : part s[k] = true) : (s.data.toList.take (k + 1)).all part = true := by
  rw [take_snoc s k h, List.all_append, h0]; simp [h1]
theorem all_end (s : ByteArray) (h0 : (s.data.toList.take s.size).all part = true) : s.data.toList.all part = true := by
  rwa [List.take_of_length_le (by simp)] at h0
theorem part_cls (c : UInt8) : part c = (decide (cls c = 2) || decide (cls c = 3) || decide (cls c = 5)) := by
  unfold cls part
  cases letter c <;> cases figure c <;> cases hu : c == 95 <;> cases space c <;> cases sign c <;> rfl
theorem letter_cls (c : UInt8) : letter c = decide (cls c = 2) := by
  unfold cls
  cases letter c <;> cases figure c <;> cases hu : c == 95 <;> cases space c <;> cases sign c <;> rfl
end Go.Proofs.YtocelmjncjompaaDoor.Lx

namespace Go.Proofs.YtocelmjncjompaaDoor
open Go.RowKit

set_option maxHeartbeats 400000 in
theorem rLetter (c : UInt8) (w : World) :
    Calls Tryd.prog 41 #[.int .u8 c.toNat] w fun e w' => e = .returned (.bool (Lx.letter c)) ∧ w = w' := by
  go_enter Tryd.func41, Tryd.ntmps41
  go_wp2
  all_goals (go_ret; refine ⟨ret_bool ?_, rfl⟩; rw [Lx.letter_iff, Bool.eq_iff_iff]; simp [*] <;> omega)
set_option maxHeartbeats 400000 in
theorem rFigure (c : UInt8) (w : World) :
    Calls Tryd.prog 43 #[.int .u8 c.toNat] w fun e w' => e = .returned (.bool (Lx.figure c)) ∧ w = w' := by
  go_enter Tryd.func43, Tryd.ntmps43
  go_wp2
  all_goals (go_ret; refine ⟨ret_bool ?_, rfl⟩; rw [Lx.figure_iff, Bool.eq_iff_iff]; simp [*] <;> omega)
set_option maxHeartbeats 400000 in
theorem rSpace (c : UInt8) (w : World) :
    Calls Tryd.prog 25 #[.int .u8 c.toNat] w fun e w' => e = .returned (.bool (Lx.space c)) ∧ w = w' := by
  go_enter Tryd.func25, Tryd.ntmps25
  go_wp2
  all_goals (go_ret; refine ⟨ret_bool ?_, rfl⟩; rw [Lx.space_iff, Bool.eq_iff_iff]; simp [*] <;> omega)
set_option maxHeartbeats 400000 in
theorem rPart (c : UInt8) (w : World) :
    Calls Tryd.prog 42 #[.int .u8 c.toNat] w fun e w' => e = .returned (.bool (Lx.part c)) ∧ w = w' := by
  go_enter Tryd.func42, Tryd.ntmps42
  go_wp2_with (first | (go_at_call 41; refine (rLetter c _).mono ?_; rintro e w' ⟨rfl, rfl⟩) | (go_at_call 43; refine (rFigure c _).mono ?_; rintro e w' ⟨rfl, rfl⟩))
  all_goals (go_ret; refine ⟨ret_bool ?_, rfl⟩; rw [Lx.part_iff, Bool.eq_iff_iff]; simp [*])
end Go.Proofs.YtocelmjncjompaaDoor

namespace Go.Proofs
open Go.Shelf
def Tryd.lays156_ren : Go.Shelf.Ren := ⟨fun | 156 => 48 | 165 => 74 | 166 => 75 | 169 => 76 | 240 => 97 | 241 => 98 | 276 => 111 | 277 => 112 | n => n, fun | 31 => 39 | 9 => 9 | 3 => 3 | 4 => 4 | 0 => 0 | 20 => 20 | 72 => 118 | 76 => 113 | 70 => 116 | 37 => 38 | 75 => 112 | 127 => 139 | 164 => 153 | 5 => 5 | 80 => 120 | n => n, fun | n => n⟩
theorem Tryd.lays156 : Go.Proofs.Lays.n156 Tryd.prog Tryd.lays156_ren := {
  mixed := by kernel_rfl
  f156 := Tryd.func48.trans (congrArg some (by kernel_rfl))
  f165 := Tryd.func74.trans (congrArg some (by kernel_rfl))
  f166 := Tryd.func75.trans (congrArg some (by kernel_rfl))
  f169 := Tryd.func76.trans (congrArg some (by kernel_rfl))
  f240 := Tryd.func97.trans (congrArg some (by kernel_rfl))
  f241 := Tryd.func98.trans (congrArg some (by kernel_rfl))
  f276 := Tryd.func111.trans (congrArg some (by kernel_rfl))
  f277 := Tryd.func112.trans (congrArg some (by kernel_rfl))
  t0 := Tryd.underlying0
  a0 := Tryd.isAgg0
  z0 := Tryd.sizeOf0
  v0 := Tryd.zeroValue0
  t3 := Tryd.underlying3
  a3 := Tryd.isAgg3
  z3 := Tryd.sizeOf3
  v3 := Tryd.zeroValue3
  t4 := Tryd.underlying4
  a4 := Tryd.isAgg4
  z4 := Tryd.sizeOf4
  v4 := Tryd.zeroValue4
  t9 := Tryd.underlying9
  a9 := Tryd.isAgg9
  z9 := Tryd.sizeOf9
  v9 := Tryd.zeroValue9
  t20 := Tryd.underlying20
  a20 := Tryd.isAgg20
  z20 := Tryd.sizeOf20
  v20 := Tryd.zeroValue20
  t31 := Tryd.underlying39
  a31 := Tryd.isAgg39
  z31 := Tryd.sizeOf39
  v31 := Tryd.zeroValue39
  t37 := Tryd.underlying38
  a37 := Tryd.isAgg38
  z37 := Tryd.sizeOf38
  v37 := Tryd.zeroValue38
  t70 := Tryd.underlying116
  a70 := Tryd.isAgg116
  z70 := Tryd.sizeOf116
  v70 := Tryd.zeroValue116
  t72 := Tryd.underlying118
  a72 := Tryd.isAgg118
  z72 := Tryd.sizeOf118
  v72 := Tryd.zeroValue118
  t75 := Tryd.underlying112
  a75 := Tryd.isAgg112
  z75 := Tryd.sizeOf112
  v75 := Tryd.zeroValue112
  t76 := Tryd.underlying113
  a76 := Tryd.isAgg113
  z76 := Tryd.sizeOf113
  v76 := Tryd.zeroValue113
  t127 := Tryd.underlying139
  a127 := Tryd.isAgg139
  z127 := Tryd.sizeOf139
  v127 := Tryd.zeroValue139
  t164 := Tryd.underlying153
  a164 := Tryd.isAgg153
  z164 := Tryd.sizeOf153
  v164 := Tryd.zeroValue153 }
theorem Tryd.Builder_Extra_156 : Builder.Extra Tryd.prog Tryd.lays156_ren := {
  sizeBuilder := by kernel_rfl
  liesBuilder := by kernel_rfl
  t5 := Tryd.underlying5
  a5 := Tryd.isAgg5
  z5 := Tryd.sizeOf5
  v5 := Tryd.zeroValue5
  infoByte := by kernel_rfl
  cellsByte := by kernel_rfl
  sizeByte := by kernel_rfl
  neB5 := by decide }
def Tryd.lays137_ren : Go.Shelf.Ren := ⟨fun | 137 => 72 | 217 => 95 | 266 => 106 | n => n, fun | 9 => 9 | 5 => 5 | 3 => 3 | n => n, fun | n => n⟩
theorem Tryd.lays137 : Go.Proofs.Lays.n137 Tryd.prog Tryd.lays137_ren := {
  mixed := by kernel_rfl
  f137 := Tryd.func72.trans (congrArg some (by kernel_rfl))
  f217 := Tryd.func95.trans (congrArg some (by kernel_rfl))
  f266 := Tryd.func106.trans (congrArg some (by kernel_rfl))
  t3 := Tryd.underlying3
  a3 := Tryd.isAgg3
  z3 := Tryd.sizeOf3
  v3 := Tryd.zeroValue3
  t5 := Tryd.underlying5
  a5 := Tryd.isAgg5
  z5 := Tryd.sizeOf5
  v5 := Tryd.zeroValue5
  t9 := Tryd.underlying9
  a9 := Tryd.isAgg9
  z9 := Tryd.sizeOf9
  v9 := Tryd.zeroValue9 }
def Tryd.laysM171_ren : Go.Shelf.Ren := ⟨fun | 171 => 47 | 243 => 73 | 246 => 96 | 283 => 107 | 284 => 108 | 285 => 109 | 286 => 110 | 129 => 117 | 317 => 116 | 318 => 118 | 319 => 119 | 320 => 120 | 337 => 123 | 338 => 124 | n => n, fun | 3 => 3 | 9 => 9 | 2 => 2 | 4 => 4 | 171 => 147 | 0 => 0 | 53 => 148 | 37 => 38 | 5 => 5 | 173 => 151 | 212 => 163 | 51 => 164 | 20 => 20 | 213 => 165 | 46 => 158 | 232 => 173 | 233 => 174 | n => n, fun | 17 => 4 | 18 => 5 | 19 => 6 | n => n⟩
theorem Tryd.laysM171 : Go.Proofs.LaysM.n171 Tryd.prog Tryd.laysM171_ren := {
  mixed := by kernel_rfl
  f129 := Tryd.func117.trans (congrArg some (by kernel_rfl))
  f171 := Tryd.func47.trans (congrArg some (by kernel_rfl))
  f243 := Tryd.func73.trans (congrArg some (by kernel_rfl))
  f246 := Tryd.func96.trans (congrArg some (by kernel_rfl))
  f283 := Tryd.func107.trans (congrArg some (by kernel_rfl))
  f284 := Tryd.func108.trans (congrArg some (by kernel_rfl))
  f285 := Tryd.func109.trans (congrArg some (by kernel_rfl))
  f286 := Tryd.func110.trans (congrArg some (by kernel_rfl))
  f317 := Tryd.func116.trans (congrArg some (by kernel_rfl))
  f318 := Tryd.func118.trans (congrArg some (by kernel_rfl))
  f319 := Tryd.func119.trans (congrArg some (by kernel_rfl))
  f320 := Tryd.func120.trans (congrArg some (by kernel_rfl))
  f337 := Tryd.func123.trans (congrArg some (by kernel_rfl))
  f338 := Tryd.func124.trans (congrArg some (by kernel_rfl))
  t0 := Tryd.underlying0
  a0 := Tryd.isAgg0
  z0 := Tryd.sizeOf0
  v0 := Tryd.zeroValue0
  t2 := Tryd.underlying2
  a2 := Tryd.isAgg2
  z2 := Tryd.sizeOf2
  v2 := Tryd.zeroValue2
  t3 := Tryd.underlying3
  a3 := Tryd.isAgg3
  z3 := Tryd.sizeOf3
  v3 := Tryd.zeroValue3
  t4 := Tryd.underlying4
  a4 := Tryd.isAgg4
  z4 := Tryd.sizeOf4
  v4 := Tryd.zeroValue4
  t5 := Tryd.underlying5
  a5 := Tryd.isAgg5
  z5 := Tryd.sizeOf5
  v5 := Tryd.zeroValue5
  t9 := Tryd.underlying9
  a9 := Tryd.isAgg9
  z9 := Tryd.sizeOf9
  v9 := Tryd.zeroValue9
  t20 := Tryd.underlying20
  a20 := Tryd.isAgg20
  z20 := Tryd.sizeOf20
  v20 := Tryd.zeroValue20
  t37 := Tryd.underlying38
  a37 := Tryd.isAgg38
  z37 := Tryd.sizeOf38
  v37 := Tryd.zeroValue38
  t46 := Tryd.underlying158
  a46 := Tryd.isAgg158
  z46 := Tryd.sizeOf158
  v46 := Tryd.zeroValue158
  t51 := Tryd.underlying164
  a51 := Tryd.isAgg164
  z51 := Tryd.sizeOf164
  v51 := Tryd.zeroValue164
  t53 := Tryd.underlying148
  a53 := Tryd.isAgg148
  z53 := Tryd.sizeOf148
  v53 := Tryd.zeroValue148
  t171 := Tryd.underlying147
  a171 := Tryd.isAgg147
  z171 := Tryd.sizeOf147
  v171 := Tryd.zeroValue147
  t173 := Tryd.underlying151
  a173 := Tryd.isAgg151
  z173 := Tryd.sizeOf151
  v173 := Tryd.zeroValue151
  t212 := Tryd.underlying163
  a212 := Tryd.isAgg163
  z212 := Tryd.sizeOf163
  v212 := Tryd.zeroValue163
  t213 := Tryd.underlying165
  a213 := Tryd.isAgg165
  z213 := Tryd.sizeOf165
  t232 := Tryd.underlying173
  a232 := Tryd.isAgg173
  z232 := Tryd.sizeOf173
  v232 := Tryd.zeroValue173
  t233 := Tryd.underlying174
  a233 := Tryd.isAgg174
  z233 := Tryd.sizeOf174
  v233 := Tryd.zeroValue174
  g17 := by kernel_rfl
  g18 := by kernel_rfl
  g19 := by kernel_rfl
  i0 := by kernel_rfl
  i2 := by kernel_rfl
  i3 := by kernel_rfl
  i4 := by kernel_rfl
  i5 := by kernel_rfl
  i9 := by kernel_rfl
  i20 := by kernel_rfl
  i37 := by kernel_rfl
  i46 := by kernel_rfl
  i51 := by kernel_rfl
  i53 := by kernel_rfl
  i171 := by kernel_rfl
  i173 := by kernel_rfl
  i212 := by kernel_rfl
  i232 := by kernel_rfl
  i233 := by kernel_rfl
  m17 := by kernel_rfl
  m18 := by kernel_rfl
  m19 := by kernel_rfl }
def Tryd.laysC172_ren : Go.Shelf.Ren := ⟨fun | 172 => 70 | 244 => 92 | 245 => 93 | 247 => 101 | 279 => 102 | 280 => 103 | 281 => 104 | 282 => 105 | 287 => 113 | 316 => 114 | 171 => 47 | 205 => 115 | 321 => 121 | 322 => 122 | 243 => 73 | 246 => 96 | 283 => 107 | 284 => 108 | 285 => 109 | 286 => 110 | 129 => 117 | 317 => 116 | 318 => 118 | 319 => 119 | 320 => 120 | 337 => 123 | 338 => 124 | n => n, fun | 9 => 9 | 3 => 3 | 75 => 112 | 76 => 113 | 4 => 4 | 5 => 5 | 167 => 141 | 37 => 38 | 0 => 0 | 85 => 142 | 2 => 2 | 168 => 144 | 53 => 148 | 175 => 156 | 46 => 158 | 210 => 161 | 127 => 139 | 145 => 171 | 143 => 169 | 21 => 21 | 171 => 147 | 173 => 151 | 212 => 163 | 51 => 164 | 20 => 20 | 213 => 165 | 232 => 173 | 233 => 174 | 80 => 120 | n => n, fun | 15 => 1 | 16 => 2 | 17 => 4 | 18 => 5 | 19 => 6 | n => n⟩
theorem Tryd.laysC172 : Go.Proofs.LaysC.n172 Tryd.prog Tryd.laysC172_ren := {
  mixed := by kernel_rfl
  f129 := Tryd.func117.trans (congrArg some (by kernel_rfl))
  f171 := Tryd.func47.trans (congrArg some (by kernel_rfl))
  f172 := Tryd.func70.trans (congrArg some (by kernel_rfl))
  f205 := Tryd.func115.trans (congrArg some (by kernel_rfl))
  f243 := Tryd.func73.trans (congrArg some (by kernel_rfl))
  f244 := Tryd.func92.trans (congrArg some (by kernel_rfl))
  f245 := Tryd.func93.trans (congrArg some (by kernel_rfl))
  f246 := Tryd.func96.trans (congrArg some (by kernel_rfl))
  f247 := Tryd.func101.trans (congrArg some (by kernel_rfl))
  f279 := Tryd.func102.trans (congrArg some (by kernel_rfl))
  f280 := Tryd.func103.trans (congrArg some (by kernel_rfl))
  f281 := Tryd.func104.trans (congrArg some (by kernel_rfl))
  f282 := Tryd.func105.trans (congrArg some (by kernel_rfl))
  f283 := Tryd.func107.trans (congrArg some (by kernel_rfl))
  f284 := Tryd.func108.trans (congrArg some (by kernel_rfl))
  f285 := Tryd.func109.trans (congrArg some (by kernel_rfl))
  f286 := Tryd.func110.trans (congrArg some (by kernel_rfl))
  f287 := Tryd.func113.trans (congrArg some (by kernel_rfl))
  f316 := Tryd.func114.trans (congrArg some (by kernel_rfl))
  f317 := Tryd.func116.trans (congrArg some (by kernel_rfl))
  f318 := Tryd.func118.trans (congrArg some (by kernel_rfl))
  f319 := Tryd.func119.trans (congrArg some (by kernel_rfl))
  f320 := Tryd.func120.trans (congrArg some (by kernel_rfl))
  f321 := Tryd.func121.trans (congrArg some (by kernel_rfl))
  f322 := Tryd.func122.trans (congrArg some (by kernel_rfl))
  f337 := Tryd.func123.trans (congrArg some (by kernel_rfl))
  f338 := Tryd.func124.trans (congrArg some (by kernel_rfl))
  t0 := Tryd.underlying0
  a0 := Tryd.isAgg0
  z0 := Tryd.sizeOf0
  v0 := Tryd.zeroValue0
  t2 := Tryd.underlying2
  a2 := Tryd.isAgg2
  z2 := Tryd.sizeOf2
  v2 := Tryd.zeroValue2
  t3 := Tryd.underlying3
  a3 := Tryd.isAgg3
  z3 := Tryd.sizeOf3
  v3 := Tryd.zeroValue3
  t4 := Tryd.underlying4
  a4 := Tryd.isAgg4
  z4 := Tryd.sizeOf4
  v4 := Tryd.zeroValue4
  t5 := Tryd.underlying5
  a5 := Tryd.isAgg5
  z5 := Tryd.sizeOf5
  v5 := Tryd.zeroValue5
  t9 := Tryd.underlying9
  a9 := Tryd.isAgg9
  z9 := Tryd.sizeOf9
  v9 := Tryd.zeroValue9
  t20 := Tryd.underlying20
  a20 := Tryd.isAgg20
  z20 := Tryd.sizeOf20
  v20 := Tryd.zeroValue20
  t21 := Tryd.underlying21
  a21 := Tryd.isAgg21
  z21 := Tryd.sizeOf21
  v21 := Tryd.zeroValue21
  t37 := Tryd.underlying38
  a37 := Tryd.isAgg38
  z37 := Tryd.sizeOf38
  v37 := Tryd.zeroValue38
  t46 := Tryd.underlying158
  a46 := Tryd.isAgg158
  z46 := Tryd.sizeOf158
  v46 := Tryd.zeroValue158
  t51 := Tryd.underlying164
  a51 := Tryd.isAgg164
  z51 := Tryd.sizeOf164
  v51 := Tryd.zeroValue164
  t53 := Tryd.underlying148
  a53 := Tryd.isAgg148
  z53 := Tryd.sizeOf148
  v53 := Tryd.zeroValue148
  t75 := Tryd.underlying112
  a75 := Tryd.isAgg112
  z75 := Tryd.sizeOf112
  v75 := Tryd.zeroValue112
  t76 := Tryd.underlying113
  a76 := Tryd.isAgg113
  z76 := Tryd.sizeOf113
  v76 := Tryd.zeroValue113
  t85 := Tryd.underlying142
  a85 := Tryd.isAgg142
  z85 := Tryd.sizeOf142
  v85 := Tryd.zeroValue142
  t127 := Tryd.underlying139
  a127 := Tryd.isAgg139
  z127 := Tryd.sizeOf139
  v127 := Tryd.zeroValue139
  t143 := Tryd.underlying169
  a143 := Tryd.isAgg169
  z143 := Tryd.sizeOf169
  v143 := Tryd.zeroValue169
  t145 := Tryd.underlying171
  a145 := Tryd.isAgg171
  z145 := Tryd.sizeOf171
  v145 := Tryd.zeroValue171
  t167 := Tryd.underlying141
  a167 := Tryd.isAgg141
  z167 := Tryd.sizeOf141
  v167 := Tryd.zeroValue141
  t168 := Tryd.underlying144
  a168 := Tryd.isAgg144
  z168 := Tryd.sizeOf144
  v168 := Tryd.zeroValue144
  t171 := Tryd.underlying147
  a171 := Tryd.isAgg147
  z171 := Tryd.sizeOf147
  v171 := Tryd.zeroValue147
  t173 := Tryd.underlying151
  a173 := Tryd.isAgg151
  z173 := Tryd.sizeOf151
  v173 := Tryd.zeroValue151
  t175 := Tryd.underlying156
  a175 := Tryd.isAgg156
  z175 := Tryd.sizeOf156
  v175 := Tryd.zeroValue156
  t210 := Tryd.underlying161
  a210 := Tryd.isAgg161
  z210 := Tryd.sizeOf161
  v210 := Tryd.zeroValue161
  t212 := Tryd.underlying163
  a212 := Tryd.isAgg163
  z212 := Tryd.sizeOf163
  v212 := Tryd.zeroValue163
  t213 := Tryd.underlying165
  a213 := Tryd.isAgg165
  z213 := Tryd.sizeOf165
  t232 := Tryd.underlying173
  a232 := Tryd.isAgg173
  z232 := Tryd.sizeOf173
  v232 := Tryd.zeroValue173
  t233 := Tryd.underlying174
  a233 := Tryd.isAgg174
  z233 := Tryd.sizeOf174
  v233 := Tryd.zeroValue174
  g15 := by kernel_rfl
  g16 := by kernel_rfl
  g17 := by kernel_rfl
  g18 := by kernel_rfl
  g19 := by kernel_rfl
  t80 := Tryd.underlying120
  a80 := Tryd.isAgg120
  z80 := Tryd.sizeOf120
  v80 := Tryd.zeroValue120
  i0 := by kernel_rfl
  i2 := by kernel_rfl
  i3 := by kernel_rfl
  i4 := by kernel_rfl
  i5 := by kernel_rfl
  i9 := by kernel_rfl
  i20 := by kernel_rfl
  i21 := by kernel_rfl
  i37 := by kernel_rfl
  i46 := by kernel_rfl
  i51 := by kernel_rfl
  i53 := by kernel_rfl
  i75 := by kernel_rfl
  i76 := by kernel_rfl
  i80 := by kernel_rfl
  i85 := by kernel_rfl
  i127 := by kernel_rfl
  i143 := by kernel_rfl
  i145 := by kernel_rfl
  i167 := by kernel_rfl
  i168 := by kernel_rfl
  i171 := by kernel_rfl
  i173 := by kernel_rfl
  i175 := by kernel_rfl
  i210 := by kernel_rfl
  i212 := by kernel_rfl
  i232 := by kernel_rfl
  i233 := by kernel_rfl
  m15 := by kernel_rfl
  m16 := by kernel_rfl
  m17 := by kernel_rfl
  m18 := by kernel_rfl
  m19 := by kernel_rfl
  c0 := by kernel_rfl
  c2 := by kernel_rfl
  c3 := by kernel_rfl
  c4 := by kernel_rfl
  c5 := by kernel_rfl
  c9 := by kernel_rfl
  c20 := by kernel_rfl
  c21 := by kernel_rfl
  c37 := by kernel_rfl
  c46 := by kernel_rfl
  c51 := by kernel_rfl
  c53 := by kernel_rfl
  c75 := by kernel_rfl
  c76 := by kernel_rfl
  c80 := by kernel_rfl
  c85 := by kernel_rfl
  c127 := by kernel_rfl
  c143 := by kernel_rfl
  c145 := by kernel_rfl
  c167 := by kernel_rfl
  c168 := by kernel_rfl
  c171 := by kernel_rfl
  c173 := by kernel_rfl
  c175 := by kernel_rfl
  c210 := by kernel_rfl
  c212 := by kernel_rfl
  c213 := by kernel_rfl
  c232 := by kernel_rfl
  c233 := by kernel_rfl }
def Tryd.lays99_ren : Go.Shelf.Ren := ⟨fun | 99 => 71 | 206 => 94 | n => n, fun | 9 => 9 | 4 => 4 | 3 => 3 | n => n, fun | n => n⟩
theorem Tryd.lays99 : Go.Proofs.Lays.n99 Tryd.prog Tryd.lays99_ren := {
  mixed := by kernel_rfl
  f99 := Tryd.func71.trans (congrArg some (by kernel_rfl))
  f206 := Tryd.func94.trans (congrArg some (by kernel_rfl))
  t3 := Tryd.underlying3
  a3 := Tryd.isAgg3
  z3 := Tryd.sizeOf3
  v3 := Tryd.zeroValue3
  t4 := Tryd.underlying4
  a4 := Tryd.isAgg4
  z4 := Tryd.sizeOf4
  v4 := Tryd.zeroValue4
  t9 := Tryd.underlying9
  a9 := Tryd.isAgg9
  z9 := Tryd.sizeOf9
  v9 := Tryd.zeroValue9 }
def Tryd.lays108_ren : Go.Shelf.Ren := ⟨fun | 108 => 61 | n => n, fun | 28 => 42 | 3 => 3 | 0 => 0 | 4 => 4 | n => n, fun | n => n⟩
theorem Tryd.lays108 : Go.Proofs.Lays.n108 Tryd.prog Tryd.lays108_ren := {
  mixed := by kernel_rfl
  f108 := Tryd.func61.trans (congrArg some (by kernel_rfl))
  t0 := Tryd.underlying0
  a0 := Tryd.isAgg0
  z0 := Tryd.sizeOf0
  v0 := Tryd.zeroValue0
  t3 := Tryd.underlying3
  a3 := Tryd.isAgg3
  z3 := Tryd.sizeOf3
  v3 := Tryd.zeroValue3
  t4 := Tryd.underlying4
  a4 := Tryd.isAgg4
  z4 := Tryd.sizeOf4
  v4 := Tryd.zeroValue4
  t28 := Tryd.underlying42
  a28 := Tryd.isAgg42
  z28 := Tryd.sizeOf42
  v28 := Tryd.zeroValue42 }
def Tryd.lays107_ren : Go.Shelf.Ren := ⟨fun | 107 => 91 | 108 => 61 | n => n, fun | 28 => 42 | 3 => 3 | 4 => 4 | 0 => 0 | n => n, fun | n => n⟩
theorem Tryd.lays107 : Go.Proofs.Lays.n107 Tryd.prog Tryd.lays107_ren := {
  mixed := by kernel_rfl
  f107 := Tryd.func91.trans (congrArg some (by kernel_rfl))
  f108 := Tryd.func61.trans (congrArg some (by kernel_rfl))
  t0 := Tryd.underlying0
  a0 := Tryd.isAgg0
  z0 := Tryd.sizeOf0
  v0 := Tryd.zeroValue0
  t3 := Tryd.underlying3
  a3 := Tryd.isAgg3
  z3 := Tryd.sizeOf3
  v3 := Tryd.zeroValue3
  t4 := Tryd.underlying4
  a4 := Tryd.isAgg4
  z4 := Tryd.sizeOf4
  v4 := Tryd.zeroValue4
  t28 := Tryd.underlying42
  a28 := Tryd.isAgg42
  z28 := Tryd.sizeOf42
  v28 := Tryd.zeroValue42 }
def Tryd.lays109_ren : Go.Shelf.Ren := ⟨fun | 109 => 60 | n => n, fun | 31 => 39 | 9 => 9 | 3 => 3 | 0 => 0 | 4 => 4 | n => n, fun | n => n⟩
theorem Tryd.lays109 : Go.Proofs.Lays.n109 Tryd.prog Tryd.lays109_ren := {
  mixed := by kernel_rfl
  f109 := Tryd.func60.trans (congrArg some (by kernel_rfl))
  t0 := Tryd.underlying0
  a0 := Tryd.isAgg0
  z0 := Tryd.sizeOf0
  v0 := Tryd.zeroValue0
  t3 := Tryd.underlying3
  a3 := Tryd.isAgg3
  z3 := Tryd.sizeOf3
  v3 := Tryd.zeroValue3
  t4 := Tryd.underlying4
  a4 := Tryd.isAgg4
  z4 := Tryd.sizeOf4
  v4 := Tryd.zeroValue4
  t9 := Tryd.underlying9
  a9 := Tryd.isAgg9
  z9 := Tryd.sizeOf9
  v9 := Tryd.zeroValue9
  t31 := Tryd.underlying39
  a31 := Tryd.isAgg39
  z31 := Tryd.sizeOf39
  v31 := Tryd.zeroValue39 }
def Tryd.lays111_ren : Go.Shelf.Ren := ⟨fun | 111 => 78 | n => n, fun | 28 => 42 | 3 => 3 | 4 => 4 | 0 => 0 | n => n, fun | n => n⟩
theorem Tryd.lays111 : Go.Proofs.Lays.n111 Tryd.prog Tryd.lays111_ren := {
  mixed := by kernel_rfl
  f111 := Tryd.func78.trans (congrArg some (by kernel_rfl))
  t0 := Tryd.underlying0
  a0 := Tryd.isAgg0
  z0 := Tryd.sizeOf0
  v0 := Tryd.zeroValue0
  t3 := Tryd.underlying3
  a3 := Tryd.isAgg3
  z3 := Tryd.sizeOf3
  v3 := Tryd.zeroValue3
  t4 := Tryd.underlying4
  a4 := Tryd.isAgg4
  z4 := Tryd.sizeOf4
  v4 := Tryd.zeroValue4
  t28 := Tryd.underlying42
  a28 := Tryd.isAgg42
  z28 := Tryd.sizeOf42
  v28 := Tryd.zeroValue42 }
def Tryd.lays193_ren : Go.Shelf.Ren := ⟨fun | 193 => 77 | n => n, fun | 31 => 39 | 9 => 9 | 4 => 4 | 3 => 3 | 0 => 0 | n => n, fun | n => n⟩
theorem Tryd.lays193 : Go.Proofs.Lays.n193 Tryd.prog Tryd.lays193_ren := {
  mixed := by kernel_rfl
  f193 := Tryd.func77.trans (congrArg some (by kernel_rfl))
  t0 := Tryd.underlying0
  a0 := Tryd.isAgg0
  z0 := Tryd.sizeOf0
  v0 := Tryd.zeroValue0
  t3 := Tryd.underlying3
  a3 := Tryd.isAgg3
  z3 := Tryd.sizeOf3
  v3 := Tryd.zeroValue3
  t4 := Tryd.underlying4
  a4 := Tryd.isAgg4
  z4 := Tryd.sizeOf4
  v4 := Tryd.zeroValue4
  t9 := Tryd.underlying9
  a9 := Tryd.isAgg9
  z9 := Tryd.sizeOf9
  v9 := Tryd.zeroValue9
  t31 := Tryd.underlying39
  a31 := Tryd.isAgg39
  z31 := Tryd.sizeOf39
  v31 := Tryd.zeroValue39 }
end Go.Proofs

namespace Go.Proofs.YtocelmjncjompaaDoor.Lx

structure Tok where
  kind : Int
  text : List UInt8
  n : Int
  pos : Int
  deriving DecidableEq

def Tok.cells (t : Tok) : List Value := [.int .i64 t.kind, .string ⟨t.text.toArray⟩, .int .i64 t.n, .int .i64 t.pos]

def decVal (acc : Nat) (l : List UInt8) : Nat := l.foldl (fun a c => 10 * a + (c.toNat - 48)) acc
def big : Nat := 1099511627776
def number (t : List UInt8) : Option Nat := if decVal 0 t ≤ big ∧ (t.length = 1 ∨ t.head? ≠ some 48) then some (decVal 0 t) else none

inductive Step where
  | skip (k : Nat)
  | tok (t : Tok) (k : Nat)
  | err

/-- What begins at the head of a rest of the source that is not empty; the token's place is left 0. -/
def step (c : UInt8) (r : List UInt8) : Step :=
  if space c then .skip 1
  else if c == 47 && r.head? == some 47 then .skip ((c :: r).takeWhile (· != 10)).length
  else if letter c then
    let t := (c :: r).takeWhile part
    if isName t then .tok ⟨1, t, 0, 0⟩ t.length else .err
  else if figure c then
    let t := (c :: r).takeWhile figure
    match number t with
    | some n => .tok ⟨2, [], n, 0⟩ t.length
    | none => .err
  else if sign c then .tok ⟨3, [c], 0, 0⟩ 1
  else .err

inductive Res where
  | ok (l : List Tok)
  | err (pos : Nat)
  deriving DecidableEq
def Res.cons (t : Tok) : Res → Res
  | .ok l => .ok (t :: l)
  | .err p => .err p
def Res.app (a : List Tok) : Res → Res
  | .ok l => .ok (a ++ l)
  | .err p => .err p

def lexN : Nat → List UInt8 → Nat → Res
  | _, [], _ => .ok []
  | 0, _ :: _, _ => .ok []
  | f + 1, c :: r, p => match step c r with
    | .skip k => lexN f ((c :: r).drop k) (p + k)
    | .tok t k => (lexN f ((c :: r).drop k) (p + k)).cons { t with pos := p }
    | .err => .err p

def lexAt (l : List UInt8) (p : Nat) : Res := lexN l.length l p
def lex (l : List UInt8) : Res := lexAt l 0

theorem takeWhile_pos {p : UInt8 → Bool} {c : UInt8} {r : List UInt8} (h : p c = true) : 1 ≤ ((c :: r).takeWhile p).length := by
  simp [h]
theorem part_of_letter {c : UInt8} (h : letter c = true) : part c = true := by simp [part, h]

theorem step_skip_pos {c : UInt8} {r : List UInt8} {k : Nat} (h : step c r = .skip k) : 1 ≤ k := by
  unfold step at h
  split at h
  · injection h with h; omega
  · split at h
    · rename_i h2
      injection h with h
      subst h
      refine takeWhile_pos ?_
      simp only [Bool.and_eq_true, beq_iff_eq] at h2
      rw [h2.1]; rfl
    · split at h
      · simp only at h; split at h <;> cases h
      · split at h
        · simp only at h; split at h <;> cases h
        · split at h <;> cases h
theorem step_tok_pos {c : UInt8} {r : List UInt8} {t : Tok} {k : Nat} (h : step c r = .tok t k) : 1 ≤ k := by
  unfold step at h
  split at h
  · cases h
  · split at h
    · cases h
    · split at h
      · rename_i h3
        simp only at h
        split at h
        · injection h with _ h
          subst h
          exact takeWhile_pos (part_of_letter h3)
        · cases h
      · split at h
        · rename_i h4
          simp only at h
          split at h
          · injection h with _ h
            subst h
            exact takeWhile_pos h4
          · cases h
        · split at h
          · injection h with _ h; omega
          · cases h

theorem lexN_fuel : ∀ (f g : Nat) (l : List UInt8) (p : Nat), l.length ≤ f → l.length ≤ g → lexN f l p = lexN g l p := by
  intro f
  induction f with
  | zero =>
    intro g l p hf _
    have : l = [] := List.eq_nil_of_length_eq_zero (by omega)
    subst this
    cases g <;> rfl
  | succ f ih =>
    intro g l p hf hg
    match l, g with
    | [], 0 => rfl
    | [], _ + 1 => rfl
    | c :: r, 0 => simp at hg
    | c :: r, g + 1 =>
      simp only [lexN]
      simp only [List.length_cons] at hf hg
      cases hs : step c r with
      | skip k =>
        have := step_skip_pos hs
        exact ih g _ _ (by simp only [List.length_drop, List.length_cons]; omega) (by simp only [List.length_drop, List.length_cons]; omega)
      | tok t k =>
        have := step_tok_pos hs
        simp only
        rw [ih g _ _ (by simp only [List.length_drop, List.length_cons]; omega) (by simp only [List.length_drop, List.length_cons]; omega)]
      | err => rfl

theorem lexAt_nil (p : Nat) : lexAt [] p = .ok [] := rfl
theorem lexAt_cons (c : UInt8) (r : List UInt8) (p : Nat) : lexAt (c :: r) p = match step c r with
    | .skip k => lexAt ((c :: r).drop k) (p + k)
    | .tok t k => (lexAt ((c :: r).drop k) (p + k)).cons { t with pos := p }
    | .err => .err p := by
  unfold lexAt
  simp only [List.length_cons, lexN]
  cases hs : step c r with
  | skip k =>
    have := step_skip_pos hs
    exact lexN_fuel _ _ _ _ (by simp only [List.length_drop, List.length_cons]; omega) (Nat.le_refl _)
  | tok t k =>
    have := step_tok_pos hs
    simp only
    rw [lexN_fuel _ _ _ _ (by simp only [List.length_drop, List.length_cons]; omega) (Nat.le_refl _)]
  | err => rfl

theorem Res.app_cons (a : List Tok) (t : Tok) (r : Res) : (r.cons t).app a = r.app (a ++ [t]) := by cases r <;> simp [Res.cons, Res.app]
theorem Res.app_nil (r : Res) : r.app [] = r := by cases r <;> simp [Res.app]

/-- A token is valid. -/
def valid (t : Tok) : Bool :=
  if t.kind = 1 then isName t.text && decide (t.n = 0)
  else if t.kind = 2 then t.text.isEmpty && decide (0 ≤ t.n) && decide (t.n ≤ 1099511627776)
  else if t.kind = 3 then (match t.text with | [c] => sign c | _ => false) && decide (t.n = 0)
  else false

/-- The text of a token. -/
def Tok.out (t : Tok) : List UInt8 := if t.kind = 2 then Lib.decDigits t.n.toNat else t.text
def joinSp : List (List UInt8) → List UInt8
  | [] => []
  | [x] => x
  | x :: y :: r => x ++ 32 :: joinSp (y :: r)
def text (l : List Tok) : Option (List UInt8) := if l.all valid then some (joinSp (l.map Tok.out)) else none
def same1 (a b : Tok) : Bool := a.kind == b.kind && a.text == b.text && a.n == b.n
def same : List Tok → List Tok → Bool
  | [], [] => true
  | a :: r, b :: s => same1 a b && same r s
  | _, _ => false
end Go.Proofs.YtocelmjncjompaaDoor.Lx

namespace Go.Proofs.YtocelmjncjompaaDoor
open Go.RowKit

/-- The variables of the library that the program reads. -/
structure Env (w : World) : Prop where
  pow : ∃ t fz, w.heap[(4 : Nat)]? = some (.cells ((Lib.pow10Tab.map (Value.int .u64)).toArray) t fz)
  rng : ∃ te pe, w.cell? ⟨2, 0, none⟩ = some (.iface te pe)
  size : 7 ≤ w.heap.size

theorem Env.below {B : Nat} {w w' : World} (h : Env w) (hb : Below B w w') (hB : 7 ≤ B) : Env w' := by
  obtain ⟨⟨t, fz, hp⟩, ⟨te, pe, hr⟩, hs⟩ := h
  refine ⟨⟨t, fz, (hb.block _ (by omega)).trans hp⟩, ⟨te, pe, (hb.cell (p := ⟨2, 0, none⟩) (show (2 : Nat) < B by omega)).trans hr⟩, Nat.le_trans hs hb.size⟩
theorem Env.next {w w' : World} (h : Env w) (hb : Below w.heap.size w w') : Env w' := h.below hb h.size

theorem Env.tab {w : World} (h : Env w) (name : String) (hn : Tryd.prog.globalNamed name = some 4) : Lib.TabIs Tryd.prog w name .u64 Lib.pow10Tab := by
  obtain ⟨t, fz, hp⟩ := h.pow
  unfold Lib.TabIs World.var?
  rw [hn]
  simp only [Option.bind_some, hp]

theorem bcell {W w1 : World} (hb : Below W.heap.size W w1) : (∀ b o, b < W.heap.size → w1.cell? ⟨b, o, none⟩ = W.cell? ⟨b, o, none⟩) ∧ (∀ b o, b < W.heap.size → w1.frozen? ⟨b, o, none⟩ = W.frozen? ⟨b, o, none⟩) :=
  ⟨fun b o h => hb.cell (p := ⟨b, o, none⟩) h, fun b o h => hb.frozen (p := ⟨b, o, none⟩) h⟩

theorem below_grow (w : World) (k : Nat) (os : Array Obj) : Below w.heap.size w (Go.Sort.grow (w.drewN k) os) :=
  ⟨rfl, rfl, rfl, by simp [Go.Sort.grow, World.drewN], fun i hi => by
    show (w.heap ++ os)[i]? = _
    rw [Array.getElem?_append, if_pos hi]⟩

theorem cItoa (n : Int) (h0 : -9223372036854775808 ≤ n) (h1 : n ≤ 9223372036854775807) (w : World) (he : Env w) :
    Calls Tryd.prog 47 #[.int .i64 n] w fun e w' => e = .returned (.string ⟨(Lib.itoa n).toArray⟩) ∧ Below w.heap.size w w' :=
  (Any.strconv_Itoa Tryd.laysM171 n h0 h1 w (he.tab _ (by kernel_rfl))).mono fun e w' ⟨h, k, os, hw⟩ => ⟨h, by subst hw; exact below_grow _ _ _⟩

theorem cIndexByte (s : ByteArray) (c : Int) (w : World) :
    Calls Tryd.prog 72 #[.string s, .int .u8 c] w fun e w' => e = .returned (.int .i64 (Lib.indexByte s.data.toList c.toNat.toUInt8)) ∧ w = w' :=
  (Any.strings_IndexByte Tryd.lays137 s c w).mono fun _e _w' ⟨h, k⟩ => ⟨h, k.symm⟩
theorem cHasPrefix (s p : ByteArray) (w : World) :
    Calls Tryd.prog 71 #[.string s, .string p] w fun e w' => e = .returned (.bool (Lib.hasPrefix s.data.toList p.data.toList)) ∧ w = w' :=
  (Any.strings_HasPrefix Tryd.lays99 s p w).mono fun _e _w' ⟨h, k⟩ => ⟨h, k.symm⟩
theorem cContainsInt (b off n c : Nat) (zs : List Int) (x : Int) (w : World) (hz : n ≤ zs.length) (hbig : n ≤ 9223372036854775807) (hc : ∀ j, j < zs.length → w.cell? ⟨b, off + j, none⟩ = some (.int .i64 (zs.getD j 0))) :
    Calls Tryd.prog 91 #[.slice (some ⟨b, off, none⟩) n c, .int .i64 x] w fun e w' => e = .returned (.bool ((zs.take n).contains x)) ∧ w = w' :=
  (Any.slices_Contains_int Tryd.lays107 b off n c zs x w hz hbig hc).mono fun _e _w' ⟨h, k⟩ => ⟨h, k.symm⟩

/-- strconv.Atoi at a row of digits: the number and no error, or an error where no int holds it. -/
theorem cAtoi (s : ByteArray) (hs : s.size ≤ 281474976710656) (w : World) (he : Env w) (hd : (∃ v, Lib.atoiAll s.data.toList = .ok v) ∨ Lib.atoiAll s.data.toList = .range) :
    Calls Tryd.prog 70 #[.string s] w fun e w' => (match Lib.atoiAll s.data.toList with
      | .ok v => e = .returned (.tuple #[.int .i64 v, .nilIface])
      | _ => ∃ n N T, e = .returned (.tuple #[.int .i64 n, .iface T (.pointer (some ⟨N, 0, none⟩))])) ∧ Below w.heap.size w w' := by
  obtain ⟨te, pe, hr⟩ := he.rng
  rcases hd with ⟨v, hv⟩ | hv
  · refine (Any.strconv_Atoi_ok Tryd.laysC172 s (by omega) v hv w).mono fun e w' ⟨h, k⟩ => ?_
    rw [hv]
    refine ⟨h, ?_⟩
    rcases k with rfl | ⟨t, rfl⟩
    · exact Below.refl _ _
    · exact Lib.bytesWorld_below _ _ _
  · refine (Any.strconv_Atoi_range Tryd.laysC172 s hs hv _ w hr (.inr ⟨te, pe, rfl⟩)).mono fun e w' ⟨N, h, _, _, k⟩ => ?_
    rw [hv]
    exact ⟨⟨_, N, _, h⟩, k⟩
end Go.Proofs.YtocelmjncjompaaDoor
