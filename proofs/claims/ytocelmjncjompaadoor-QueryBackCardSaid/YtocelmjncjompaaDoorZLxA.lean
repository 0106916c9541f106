/- Parts of the proof, joined into one text: LxA, Shelf, LxLib, LxB, LxC. -/
import Derived.Test.YtocelmjncjompaaDoorRows
import Derived.Test.YtocelmjncjompaaDoorZLxPlain
import Derived.WalkKit
import Derived.WalkSpells
import Derived.WalkLawsBesides
import Derived.Shelf.Strings.Builder1
import Derived.Shelf.Strings.Builder2
import Derived.Shelf.Strings.OnBuilder
import Derived.Shelf.Small.Strs
import Derived.Shelf.Strconv.Atoi
import Derived.Shelf.Strconv.Itoa0
import Derived.Shelf.Strconv.Itoa1
import Derived.Shelf.LaysM
import Derived.Shelf.Strconv.Itoa2
import Derived.Shelf.Strconv.Itoa3
import Derived.Shelf.Strconv.AtoiErrFast
import Derived.Shelf.Strconv.ParseIntEmpty
import Derived.Shelf.Strconv.AtoiFail
import Derived.Shelf.Strconv.Clone
import Derived.Shelf.Strconv.SyntaxError
import Derived.Shelf.LaysC
import Derived.Shelf.Strconv.ToError
import Derived.Shelf.Strconv.Lower
import Derived.Shelf.Strconv.ParseUint10
import Derived.Shelf.Strconv.ParseUint10Empty
import Derived.Shelf.Strconv.ParseUint10Any
import Derived.Shelf.Strconv.ParseInt10
import Derived.Shelf.Strconv.AtoiLong
import Derived.Shelf.Strconv.AtoiInnerAll
import Derived.Shelf.Strconv.RangeError
import Derived.Shelf.Strconv.ToErrorRange
import Derived.Shelf.Strconv.AtoiAll
import Derived.Shelf.Strconv.ErrVarAll
import Derived.Shelf.Strings.Search1
import Derived.Shelf.Strings.Prefix
import Derived.Shelf.Slices.Turned
import Derived.Shelf.Slices.Equal
import Derived.Shelf.Slices.Empties2
import Derived.Test.YtocelmjncjompaaDoorProg
import Derived.Lib.LaidTab

namespace Go.Proofs.YtocelmjncjompaaDoor
open Go.RowKit

set_option maxHeartbeats 400000 in
theorem rLetter (c : UInt8) (w : World) :
    Calls Tryd.prog 41 #[.int .u8 c.toNat] w fun e w' => e = .returned (.bool (Lx.letter c)) ∧ w = w' := by
  go_enter Tryd.func41, Tryd.ntmps41
  go_wp2
  all_goals (go_ret; refine ⟨ret_bool ?_, rfl⟩; rw [Lx.letter_iff, Bool.eq_iff_iff]; simp [*] <;> omega)
set_option maxHeartbeats 400000 in
theorem rFigure (c : UInt8) (w : World) :
    Calls Tryd.prog 43 #[.int .u8 c.toNat] w fun e w' => e = .returned (.bool (Lx.figure c)) ∧ w = w' := by
  go_enter Tryd.func43, Tryd.ntmps43
  go_wp2
  all_goals (go_ret; refine ⟨ret_bool ?_, rfl⟩; rw [Lx.figure_iff, Bool.eq_iff_iff]; simp [*] <;> omega)
set_option maxHeartbeats 400000 in
theorem rSpace (c : UInt8) (w : World) :
    Calls Tryd.prog 25 #[.int .u8 c.toNat] w fun e w' => e = .returned (.bool (Lx.space c)) ∧ w = w' := by
  go_enter Tryd.func25, Tryd.ntmps25
  go_wp2
  all_goals (go_ret; refine ⟨ret_bool ?_, rfl⟩; rw [Lx.space_iff, Bool.eq_iff_iff]; simp [*] <;> omega)
set_option maxHeartbeats 400000 in
theorem rPart (c : UInt8) (w : World) :
    Calls Tryd.prog 42 #[.int .u8 c.toNat] w fun e w' => e = .returned (.bool (Lx.part c)) ∧ w = w' := by
  go_enter Tryd.func42, Tryd.ntmps42
  go_wp2_with (first | (go_at_call 41; refine (rLetter c _).mono ?_; rintro e w' ⟨rfl, rfl⟩) | (go_at_call 43; refine (rFigure c _).mono ?_; rintro e w' ⟨rfl, rfl⟩))
  all_goals (go_ret; refine ⟨ret_bool ?_, rfl⟩; rw [Lx.part_iff, Bool.eq_iff_iff]; simp [*])
end Go.Proofs.YtocelmjncjompaaDoor

namespace Go.Proofs
open Go.Shelf
def Tryd.lays156_ren : Go.Shelf.Ren := ⟨fun | 156 => 48 | 165 => 74 | 166 => 75 | 169 => 76 | 240 => 97 | 241 => 98 | 276 => 111 | 277 => 112 | n => n, fun | 31 => 39 | 9 => 9 | 3 => 3 | 4 => 4 | 0 => 0 | 20 => 20 | 72 => 118 | 76 => 113 | 70 => 116 | 37 => 38 | 75 => 112 | 127 => 139 | 164 => 153 | 5 => 5 | 80 => 120 | n => n, fun | n => n⟩
theorem Tryd.lays156 : Go.Proofs.Lays.n156 Tryd.prog Tryd.lays156_ren := {
  mixed := by kernel_rfl
  f156 := Tryd.func48.trans (congrArg some (by kernel_rfl))
  f165 := Tryd.func74.trans (congrArg some (by kernel_rfl))
  f166 := Tryd.func75.trans (congrArg some (by kernel_rfl))
  f169 := Tryd.func76.trans (congrArg some (by kernel_rfl))
  f240 := Tryd.func97.trans (congrArg some (by kernel_rfl))
  f241 := Tryd.func98.trans (congrArg some (by kernel_rfl))
  f276 := Tryd.func111.trans (congrArg some (by kernel_rfl))
  f277 := Tryd.func112.trans (congrArg some (by kernel_rfl))
  t0 := Tryd.underlying0
  a0 := Tryd.isAgg0
  z0 := Tryd.sizeOf0
  v0 := Tryd.zeroValue0
  t3 := Tryd.underlying3
  a3 := Tryd.isAgg3
  z3 := Tryd.sizeOf3
  v3 := Tryd.zeroValue3
  t4 := Tryd.underlying4
  a4 := Tryd.isAgg4
  z4 := Tryd.sizeOf4
  v4 := Tryd.zeroValue4
  t9 := Tryd.underlying9
  a9 := Tryd.isAgg9
  z9 := Tryd.sizeOf9
  v9 := Tryd.zeroValue9
  t20 := Tryd.underlying20
  a20 := Tryd.isAgg20
  z20 := Tryd.sizeOf20
  v20 := Tryd.zeroValue20
  t31 := Tryd.underlying39
  a31 := Tryd.isAgg39
  z31 := Tryd.sizeOf39
  v31 := Tryd.zeroValue39
  t37 := Tryd.underlying38
  a37 := Tryd.isAgg38
  z37 := Tryd.sizeOf38
  v37 := Tryd.zeroValue38
  t70 := Tryd.underlying116
  a70 := Tryd.isAgg116
  z70 := Tryd.sizeOf116
  v70 := Tryd.zeroValue116
  t72 := Tryd.underlying118
  a72 := Tryd.isAgg118
  z72 := Tryd.sizeOf118
  v72 := Tryd.zeroValue118
  t75 := Tryd.underlying112
  a75 := Tryd.isAgg112
  z75 := Tryd.sizeOf112
  v75 := Tryd.zeroValue112
  t76 := Tryd.underlying113
  a76 := Tryd.isAgg113
  z76 := Tryd.sizeOf113
  v76 := Tryd.zeroValue113
  t127 := Tryd.underlying139
  a127 := Tryd.isAgg139
  z127 := Tryd.sizeOf139
  v127 := Tryd.zeroValue139
  t164 := Tryd.underlying153
  a164 := Tryd.isAgg153
  z164 := Tryd.sizeOf153
  v164 := Tryd.zeroValue153 }
theorem Tryd.Builder_Extra_156 : Builder.Extra Tryd.prog Tryd.lays156_ren := {
  sizeBuilder := by kernel_rfl
  liesBuilder := by kernel_rfl
  t5 := Tryd.underlying5
  a5 := Tryd.isAgg5
  z5 := Tryd.sizeOf5
  v5 := Tryd.zeroValue5
  infoByte := by kernel_rfl
  cellsByte := by kernel_rfl
  sizeByte := by kernel_rfl
  neB5 := by decide }
def Tryd.lays137_ren : Go.Shelf.Ren := ⟨fun | 137 => 72 | 217 => 95 | 266 => 106 | n => n, fun | 9 => 9 | 5 => 5 | 3 => 3 | n => n, fun | n => n⟩
theorem Tryd.lays137 : Go.Proofs.Lays.n137 Tryd.prog Tryd.lays137_ren := {
  mixed := by kernel_rfl
  f137 := Tryd.func72.trans (congrArg some (by kernel_rfl))
  f217 := Tryd.func95.trans (congrArg some (by kernel_rfl))
  f266 := Tryd.func106.trans (congrArg some (by kernel_rfl))
  t3 := Tryd.underlying3
  a3 := Tryd.isAgg3
  z3 := Tryd.sizeOf3
  v3 := Tryd.zeroValue3
  t5 := Tryd.underlying5
  a5 := Tryd.isAgg5
  z5 := Tryd.sizeOf5
  v5 := Tryd.zeroValue5
  t9 := Tryd.underlying9
  a9 := Tryd.isAgg9
  z9 := Tryd.sizeOf9
  v9 := Tryd.zeroValue9 }
def Tryd.laysM171_ren : Go.Shelf.Ren := ⟨fun | 171 => 47 | 243 => 73 | 246 => 96 | 283 => 107 | 284 => 108 | 285 => 109 | 286 => 110 | 129 => 117 | 317 => 116 | 318 => 118 | 319 => 119 | 320 => 120 | 337 => 123 | 338 => 124 | n => n, fun | 3 => 3 | 9 => 9 | 2 => 2 | 4 => 4 | 171 => 147 | 0 => 0 | 53 => 148 | 37 => 38 | 5 => 5 | 173 => 151 | 212 => 163 | 51 => 164 | 20 => 20 | 213 => 165 | 46 => 158 | 232 => 173 | 233 => 174 | n => n, fun | 17 => 4 | 18 => 5 | 19 => 6 | n => n⟩
theorem Tryd.laysM171 : Go.Proofs.LaysM.n171 Tryd.prog Tryd.laysM171_ren := {
  mixed := by kernel_rfl
  f129 := Tryd.func117.trans (congrArg some (by kernel_rfl))
  f171 := Tryd.func47.trans (congrArg some (by kernel_rfl))
  f243 := Tryd.func73.trans (congrArg some (by kernel_rfl))
  f246 := Tryd.func96.trans (congrArg some (by kernel_rfl))
  f283 := Tryd.func107.trans (congrArg some (by kernel_rfl))
  f284 := Tryd.func108.trans (congrArg some (by kernel_rfl))
  f285 := Tryd.func109.trans (congrArg some (by kernel_rfl))
  f286 := Tryd.func110.trans (congrArg some (by kernel_rfl))
  f317 := Tryd.func116.trans (congrArg some (by kernel_rfl))
  f318 := Tryd.func118.trans (congrArg some (by kernel_rfl))
  f319 := Tryd.func119.trans (congrArg some (by kernel_rfl))
  f320 := Tryd.func120.trans (congrArg some (by kernel_rfl))
  f337 := Tryd.func123.trans (congrArg some (by kernel_rfl))
  f338 := Tryd.func124.trans (congrArg some (by kernel_rfl))
  t0 := Tryd.underlying0
  a0 := Tryd.isAgg0
  z0 := Tryd.sizeOf0
  v0 := Tryd.zeroValue0
  t2 := Tryd.underlying2
  a2 := Tryd.isAgg2
  z2 := Tryd.sizeOf2
  v2 := Tryd.zeroValue2
  t3 := Tryd.underlying3
  a3 := Tryd.isAgg3
  z3 := Tryd.sizeOf3
  v3 := Tryd.zeroValue3
  t4 := Tryd.underlying4
  a4 := Tryd.isAgg4
  z4 := Tryd.sizeOf4
  v4 := Tryd.zeroValue4
  t5 := Tryd.underlying5
  a5 := Tryd.isAgg5
  z5 := Tryd.sizeOf5
  v5 := Tryd.zeroValue5
  t9 := Tryd.underlying9
  a9 := Tryd.isAgg9
  z9 := Tryd.sizeOf9
  v9 := Tryd.zeroValue9
  t20 := Tryd.underlying20
  a20 := Tryd.isAgg20
  z20 := Tryd.sizeOf20
  v20 := Tryd.zeroValue20
  t37 := Tryd.underlying38
  a37 := Tryd.isAgg38
  z37 := Tryd.sizeOf38
  v37 := Tryd.zeroValue38
  t46 := Tryd.underlying158
  a46 := Tryd.isAgg158
  z46 := Tryd.sizeOf158
  v46 := Tryd.zeroValue158
  t51 := Tryd.underlying164
  a51 := Tryd.isAgg164
  z51 := Tryd.sizeOf164
  v51 := Tryd.zeroValue164
  t53 := Tryd.underlying148
  a53 := Tryd.isAgg148
  z53 := Tryd.sizeOf148
  v53 := Tryd.zeroValue148
  t171 := Tryd.underlying147
  a171 := Tryd.isAgg147
  z171 := Tryd.sizeOf147
  v171 := Tryd.zeroValue147
  t173 := Tryd.underlying151
  a173 := Tryd.isAgg151
  z173 := Tryd.sizeOf151
  v173 := Tryd.zeroValue151
  t212 := Tryd.underlying163
  a212 := Tryd.isAgg163
  z212 := Tryd.sizeOf163
  v212 := Tryd.zeroValue163
  t213 := Tryd.underlying165
  a213 := Tryd.isAgg165
  z213 := Tryd.sizeOf165
  t232 := Tryd.underlying173
  a232 := Tryd.isAgg173
  z232 := Tryd.sizeOf173
  v232 := Tryd.zeroValue173
  t233 := Tryd.underlying174
  a233 := Tryd.isAgg174
  z233 := Tryd.sizeOf174
  v233 := Tryd.zeroValue174
  g17 := by kernel_rfl
  g18 := by kernel_rfl
  g19 := by kernel_rfl
  i0 := by kernel_rfl
  i2 := by kernel_rfl
  i3 := by kernel_rfl
  i4 := by kernel_rfl
  i5 := by kernel_rfl
  i9 := by kernel_rfl
  i20 := by kernel_rfl
  i37 := by kernel_rfl
  i46 := by kernel_rfl
  i51 := by kernel_rfl
  i53 := by kernel_rfl
  i171 := by kernel_rfl
  i173 := by kernel_rfl
  i212 := by kernel_rfl
  i232 := by kernel_rfl
  i233 := by kernel_rfl
  m17 := by kernel_rfl
  m18 := by kernel_rfl
  m19 := by kernel_rfl }
def Tryd.laysC172_ren : Go.Shelf.Ren := ⟨fun | 172 => 70 | 244 => 92 | 245 => 93 | 247 => 101 | 279 => 102 | 280 => 103 | 281 => 104 | 282 => 105 | 287 => 113 | 316 => 114 | 171 => 47 | 205 => 115 | 321 => 121 | 322 => 122 | 243 => 73 | 246 => 96 | 283 => 107 | 284 => 108 | 285 => 109 | 286 => 110 | 129 => 117 | 317 => 116 | 318 => 118 | 319 => 119 | 320 => 120 | 337 => 123 | 338 => 124 | n => n, fun | 9 => 9 | 3 => 3 | 75 => 112 | 76 => 113 | 4 => 4 | 5 => 5 | 167 => 141 | 37 => 38 | 0 => 0 | 85 => 142 | 2 => 2 | 168 => 144 | 53 => 148 | 175 => 156 | 46 => 158 | 210 => 161 | 127 => 139 | 145 => 171 | 143 => 169 | 21 => 21 | 171 => 147 | 173 => 151 | 212 => 163 | 51 => 164 | 20 => 20 | 213 => 165 | 232 => 173 | 233 => 174 | 80 => 120 | n => n, fun | 15 => 1 | 16 => 2 | 17 => 4 | 18 => 5 | 19 => 6 | n => n⟩
theorem Tryd.laysC172 : Go.Proofs.LaysC.n172 Tryd.prog Tryd.laysC172_ren := {
  mixed := by kernel_rfl
  f129 := Tryd.func117.trans (congrArg some (by kernel_rfl))
  f171 := Tryd.func47.trans (congrArg some (by kernel_rfl))
  f172 := Tryd.func70.trans (congrArg some (by kernel_rfl))
  f205 := Tryd.func115.trans (congrArg some (by kernel_rfl))
  f243 := Tryd.func73.trans (congrArg some (by kernel_rfl))
  f244 := Tryd.func92.trans (congrArg some (by kernel_rfl))
  f245 := Tryd.func93.trans (congrArg some (by kernel_rfl))
  f246 := Tryd.func96.trans (congrArg some (by kernel_rfl))
  f247 := Tryd.func101.trans (congrArg some (by kernel_rfl))
  f279 := Tryd.func102.trans (congrArg some (by kernel_rfl))
  f280 := Tryd.func103.trans (congrArg some (by kernel_rfl))
  f281 := Tryd.func104.trans (congrArg some (by kernel_rfl))
  f282 := Tryd.func105.trans (congrArg some (by kernel_rfl))
  f283 := Tryd.func107.trans (congrArg some (by kernel_rfl))
  f284 := Tryd.func108.trans (congrArg some (by kernel_rfl))
  f285 := Tryd.func109.trans (congrArg some (by kernel_rfl))
  f286 := Tryd.func110.trans (congrArg some (by kernel_rfl))
  f287 := Tryd.func113.trans (congrArg some (by kernel_rfl))
  f316 := Tryd.func114.trans (congrArg some (by kernel_rfl))
  f317 := Tryd.func116.trans (congrArg some (by kernel_rfl))
  f318 := Tryd.func118.trans (congrArg some (by kernel_rfl))
  f319 := Tryd.func119.trans (congrArg some (by kernel_rfl))
  f320 := Tryd.func120.trans (congrArg some (by kernel_rfl))
  f321 := Tryd.func121.trans (congrArg some (by kernel_rfl))
  f322 := Tryd.func122.trans (congrArg some (by kernel_rfl))
  f337 := Tryd.func123.trans (congrArg some (by kernel_rfl))
  f338 := Tryd.func124.trans (congrArg some (by kernel_rfl))
  t0 := Tryd.underlying0
  a0 := Tryd.isAgg0
  z0 := Tryd.sizeOf0
  v0 := Tryd.zeroValue0
  t2 := Tryd.underlying2
  a2 := Tryd.isAgg2
  z2 := Tryd.sizeOf2
  v2 := Tryd.zeroValue2
  t3 := Tryd.underlying3
  a3 := Tryd.isAgg3
  z3 := Tryd.sizeOf3
  v3 := Tryd.zeroValue3
  t4 := Tryd.underlying4
  a4 := Tryd.isAgg4
  z4 := Tryd.sizeOf4
  v4 := Tryd.zeroValue4
  t5 := Tryd.underlying5
  a5 := Tryd.isAgg5
  z5 := Tryd.sizeOf5
  v5 := Tryd.zeroValue5
  t9 := Tryd.underlying9
  a9 := Tryd.isAgg9
  z9 := Tryd.sizeOf9
  v9 := Tryd.zeroValue9
  t20 := Tryd.underlying20
  a20 := Tryd.isAgg20
  z20 := Tryd.sizeOf20
  v20 := Tryd.zeroValue20
  t21 := Tryd.underlying21
  a21 := Tryd.isAgg21
  z21 := Tryd.sizeOf21
  v21 := Tryd.zeroValue21
  t37 := Tryd.underlying38
  a37 := Tryd.isAgg38
  z37 := Tryd.sizeOf38
  v37 := Tryd.zeroValue38
  t46 := Tryd.underlying158
  a46 := Tryd.isAgg158
  z46 := Tryd.sizeOf158
  v46 := Tryd.zeroValue158
  t51 := Tryd.underlying164
  a51 := Tryd.isAgg164
  z51 := Tryd.sizeOf164
  v51 := Tryd.zeroValue164
  t53 := Tryd.underlying148
  a53 := Tryd.isAgg148
  z53 := Tryd.sizeOf148
  v53 := Tryd.zeroValue148
  t75 := Tryd.underlying112
  a75 := Tryd.isAgg112
  z75 := Tryd.sizeOf112
  v75 := Tryd.zeroValue112
  t76 := Tryd.underlying113
  a76 := Tryd.isAgg113
  z76 := Tryd.sizeOf113
  v76 := Tryd.zeroValue113
  t85 := Tryd.underlying142
  a85 := Tryd.isAgg142
  z85 := Tryd.sizeOf142
  v85 := Tryd.zeroValue142
  t127 := Tryd.underlying139
  a127 := Tryd.isAgg139
  z127 := Tryd.sizeOf139
  v127 := Tryd.zeroValue139
  t143 := Tryd.underlying169
  a143 := Tryd.isAgg169
  z143 := Tryd.sizeOf169
  v143 := Tryd.zeroValue169
  t145 := Tryd.underlying171
  a145 := Tryd.isAgg171
  z145 := Tryd.sizeOf171
  v145 := Tryd.zeroValue171
  t167 := Tryd.underlying141
  a167 := Tryd.isAgg141
  z167 := Tryd.sizeOf141
  v167 := Tryd.zeroValue141
  t168 := Tryd.underlying144
  a168 := Tryd.isAgg144
  z168 := Tryd.sizeOf144
  v168 := Tryd.zeroValue144
  t171 := Tryd.underlying147
  a171 := Tryd.isAgg147
  z171 := Tryd.sizeOf147
  v171 := Tryd.zeroValue147
  t173 := Tryd.underlying151
  a173 := Tryd.isAgg151
  z173 := Tryd.sizeOf151
  v173 := Tryd.zeroValue151
  t175 := Tryd.underlying156
  a175 := Tryd.isAgg156
  z175 := Tryd.sizeOf156
  v175 := Tryd.zeroValue156
  t210 := Tryd.underlying161
  a210 := Tryd.isAgg161
  z210 := Tryd.sizeOf161
  v210 := Tryd.zeroValue161
  t212 := Tryd.underlying163
  a212 := Tryd.isAgg163
  z212 := Tryd.sizeOf163
  v212 := Tryd.zeroValue163
  t213 := Tryd.underlying165
  a213 := Tryd.isAgg165
  z213 := Tryd.sizeOf165
  t232 := Tryd.underlying173
  a232 := Tryd.isAgg173
  z232 := Tryd.sizeOf173
  v232 := Tryd.zeroValue173
  t233 := Tryd.underlying174
  a233 := Tryd.isAgg174
  z233 := Tryd.sizeOf174
  v233 := Tryd.zeroValue174
  g15 := by kernel_rfl
  g16 := by kernel_rfl
  g17 := by kernel_rfl
  g18 := by kernel_rfl
  g19 := by kernel_rfl
  t80 := Tryd.underlying120
  a80 := Tryd.isAgg120
  z80 := Tryd.sizeOf120
  v80 := Tryd.zeroValue120
  i0 := by kernel_rfl
  i2 := by kernel_rfl
  i3 := by kernel_rfl
  i4 := by kernel_rfl
  i5 := by kernel_rfl
  i9 := by kernel_rfl
  i20 := by kernel_rfl
  i21 := by kernel_rfl
  i37 := by kernel_rfl
  i46 := by kernel_rfl
  i51 := by kernel_rfl
  i53 := by kernel_rfl
  i75 := by kernel_rfl
  i76 := by kernel_rfl
  i80 := by kernel_rfl
  i85 := by kernel_rfl
  i127 := by kernel_rfl
  i143 := by kernel_rfl
  i145 := by kernel_rfl
  i167 := by kernel_rfl
  i168 := by kernel_rfl
  i171 := by kernel_rfl
  i173 := by kernel_rfl
  i175 := by kernel_rfl
  i210 := by kernel_rfl
  i212 := by kernel_rfl
  i232 := by kernel_rfl
  i233 := by kernel_rfl
  m15 := by kernel_rfl
  m16 := by kernel_rfl
  m17 := by kernel_rfl
  m18 := by kernel_rfl
  m19 := by kernel_rfl
  c0 := by kernel_rfl
  c2 := by kernel_rfl
  c3 := by kernel_rfl
  c4 := by kernel_rfl
  c5 := by kernel_rfl
  c9 := by kernel_rfl
  c20 := by kernel_rfl
  c21 := by kernel_rfl
  c37 := by kernel_rfl
  c46 := by kernel_rfl
  c51 := by kernel_rfl
  c53 := by kernel_rfl
  c75 := by kernel_rfl
  c76 := by kernel_rfl
  c80 := by kernel_rfl
  c85 := by kernel_rfl
  c127 := by kernel_rfl
  c143 := by kernel_rfl
  c145 := by kernel_rfl
  c167 := by kernel_rfl
  c168 := by kernel_rfl
  c171 := by kernel_rfl
  c173 := by kernel_rfl
  c175 := by kernel_rfl
  c210 := by kernel_rfl
  c212 := by kernel_rfl
  c213 := by kernel_rfl
  c232 := by kernel_rfl
  c233 := by kernel_rfl }
def Tryd.lays99_ren : Go.Shelf.Ren := ⟨fun | 99 => 71 | 206 => 94 | n => n, fun | 9 => 9 | 4 => 4 | 3 => 3 | n => n, fun | n => n⟩
theorem Tryd.lays99 : Go.Proofs.Lays.n99 Tryd.prog Tryd.lays99_ren := {
  mixed := by kernel_rfl
  f99 := Tryd.func71.trans (congrArg some (by kernel_rfl))
  f206 := Tryd.func94.trans (congrArg some (by kernel_rfl))
  t3 := Tryd.underlying3
  a3 := Tryd.isAgg3
  z3 := Tryd.sizeOf3
  v3 := Tryd.zeroValue3
  t4 := Tryd.underlying4
  a4 := Tryd.isAgg4
  z4 := Tryd.sizeOf4
  v4 := Tryd.zeroValue4
  t9 := Tryd.underlying9
  a9 := Tryd.isAgg9
  z9 := Tryd.sizeOf9
  v9 := Tryd.zeroValue9 }
def Tryd.lays108_ren : Go.Shelf.Ren := ⟨fun | 108 => 61 | n => n, fun | 28 => 42 | 3 => 3 | 0 => 0 | 4 => 4 | n => n, fun | n => n⟩
theorem Tryd.lays108 : Go.Proofs.Lays.n108 Tryd.prog Tryd.lays108_ren := {
  mixed := by kernel_rfl
  f108 := Tryd.func61.trans (congrArg some (by kernel_rfl))
  t0 := Tryd.underlying0
  a0 := Tryd.isAgg0
  z0 := Tryd.sizeOf0
  v0 := Tryd.zeroValue0
  t3 := Tryd.underlying3
  a3 := Tryd.isAgg3
  z3 := Tryd.sizeOf3
  v3 := Tryd.zeroValue3
  t4 := Tryd.underlying4
  a4 := Tryd.isAgg4
  z4 := Tryd.sizeOf4
  v4 := Tryd.zeroValue4
  t28 := Tryd.underlying42
  a28 := Tryd.isAgg42
  z28 := Tryd.sizeOf42
  v28 := Tryd.zeroValue42 }
def Tryd.lays107_ren : Go.Shelf.Ren := ⟨fun | 107 => 91 | 108 => 61 | n => n, fun | 28 => 42 | 3 => 3 | 4 => 4 | 0 => 0 | n => n, fun | n => n⟩
theorem Tryd.lays107 : Go.Proofs.Lays.n107 Tryd.prog Tryd.lays107_ren := {
  mixed := by kernel_rfl
  f107 := Tryd.func91.trans (congrArg some (by kernel_rfl))
  f108 := Tryd.func61.trans (congrArg some (by kernel_rfl))
  t0 := Tryd.underlying0
  a0 := Tryd.isAgg0
  z0 := Tryd.sizeOf0
  v0 := Tryd.zeroValue0
  t3 := Tryd.underlying3
  a3 := Tryd.isAgg3
  z3 := Tryd.sizeOf3
  v3 := Tryd.zeroValue3
  t4 := Tryd.underlying4
  a4 := Tryd.isAgg4
  z4 := Tryd.sizeOf4
  v4 := Tryd.zeroValue4
  t28 := Tryd.underlying42
  a28 := Tryd.isAgg42
  z28 := Tryd.sizeOf42
  v28 := Tryd.zeroValue42 }
def Tryd.lays109_ren : Go.Shelf.Ren := ⟨fun | 109 => 60 | n => n, fun | 31 => 39 | 9 => 9 | 3 => 3 | 0 => 0 | 4 => 4 | n => n, fun | n => n⟩
theorem Tryd.lays109 : Go.Proofs.Lays.n109 Tryd.prog Tryd.lays109_ren := {
  mixed := by kernel_rfl
  f109 := Tryd.func60.trans (congrArg some (by kernel_rfl))
  t0 := Tryd.underlying0
  a0 := Tryd.isAgg0
  z0 := Tryd.sizeOf0
  v0 := Tryd.zeroValue0
  t3 := Tryd.underlying3
  a3 := Tryd.isAgg3
  z3 := Tryd.sizeOf3
  v3 := Tryd.zeroValue3
  t4 := Tryd.underlying4
  a4 := Tryd.isAgg4
  z4 := Tryd.sizeOf4
  v4 := Tryd.zeroValue4
  t9 := Tryd.underlying9
  a9 := Tryd.isAgg9
  z9 := Tryd.sizeOf9
  v9 := Tryd.zeroValue9
  t31 := Tryd.underlying39
  a31 := Tryd.isAgg39
  z31 := Tryd.sizeOf39
  v31 := Tryd.zeroValue39 }
def Tryd.lays111_ren : Go.Shelf.Ren := ⟨fun | 111 => 78 | n => n, fun | 28 => 42 | 3 => 3 | 4 => 4 | 0 => 0 | n => n, fun | n => n⟩
theorem Tryd.lays111 : Go.Proofs.Lays.n111 Tryd.prog Tryd.lays111_ren := {
  mixed := by kernel_rfl
  f111 := Tryd.func78.trans (congrArg some (by kernel_rfl))
  t0 := Tryd.underlying0
  a0 := Tryd.isAgg0
  z0 := Tryd.sizeOf0
  v0 := Tryd.zeroValue0
  t3 := Tryd.underlying3
  a3 := Tryd.isAgg3
  z3 := Tryd.sizeOf3
  v3 := Tryd.zeroValue3
  t4 := Tryd.underlying4
  a4 := Tryd.isAgg4
  z4 := Tryd.sizeOf4
  v4 := Tryd.zeroValue4
  t28 := Tryd.underlying42
  a28 := Tryd.isAgg42
  z28 := Tryd.sizeOf42
  v28 := Tryd.zeroValue42 }
def Tryd.lays193_ren : Go.Shelf.Ren := ⟨fun | 193 => 77 | n => n, fun | 31 => 39 | 9 => 9 | 4 => 4 | 3 => 3 | 0 => 0 | n => n, fun | n => n⟩
theorem Tryd.lays193 : Go.Proofs.Lays.n193 Tryd.prog Tryd.lays193_ren := {
  mixed := by kernel_rfl
  f193 := Tryd.func77.trans (congrArg some (by kernel_rfl))
  t0 := Tryd.underlying0
  a0 := Tryd.isAgg0
  z0 := Tryd.sizeOf0
  v0 := Tryd.zeroValue0
  t3 := Tryd.underlying3
  a3 := Tryd.isAgg3
  z3 := Tryd.sizeOf3
  v3 := Tryd.zeroValue3
  t4 := Tryd.underlying4
  a4 := Tryd.isAgg4
  z4 := Tryd.sizeOf4
  v4 := Tryd.zeroValue4
  t9 := Tryd.underlying9
  a9 := Tryd.isAgg9
  z9 := Tryd.sizeOf9
  v9 := Tryd.zeroValue9
  t31 := Tryd.underlying39
  a31 := Tryd.isAgg39
  z31 := Tryd.sizeOf39
  v31 := Tryd.zeroValue39 }
end Go.Proofs

namespace Go.Proofs.YtocelmjncjompaaDoor
open Go.RowKit

/-- The variables of the library that the program reads. -/
structure Env (w : World) : Prop where
  pow : ∃ t fz, w.heap[(4 : Nat)]? = some (.cells ((Lib.pow10Tab.map (Value.int .u64)).toArray) t fz)
  rng : ∃ te pe, w.cell? ⟨2, 0, none⟩ = some (.iface te pe)
  size : 7 ≤ w.heap.size

theorem Env.below {B : Nat} {w w' : World} (h : Env w) (hb : Below B w w') (hB : 7 ≤ B) : Env w' := by
  obtain ⟨⟨t, fz, hp⟩, ⟨te, pe, hr⟩, hs⟩ := h
  refine ⟨⟨t, fz, (hb.block _ (by omega)).trans hp⟩, ⟨te, pe, (hb.cell (p := ⟨2, 0, none⟩) (show (2 : Nat) < B by omega)).trans hr⟩, Nat.le_trans hs hb.size⟩
theorem Env.next {w w' : World} (h : Env w) (hb : Below w.heap.size w w') : Env w' := h.below hb h.size

theorem Env.tab {w : World} (h : Env w) (name : String) (hn : Tryd.prog.globalNamed name = some 4) : Lib.TabIs Tryd.prog w name .u64 Lib.pow10Tab := by
  obtain ⟨t, fz, hp⟩ := h.pow
  unfold Lib.TabIs World.var?
  rw [hn]
  simp only [Option.bind_some, hp]

theorem bcell {W w1 : World} (hb : Below W.heap.size W w1) : (∀ b o, b < W.heap.size → w1.cell? ⟨b, o, none⟩ = W.cell? ⟨b, o, none⟩) ∧ (∀ b o, b < W.heap.size → w1.frozen? ⟨b, o, none⟩ = W.frozen? ⟨b, o, none⟩) :=
  ⟨fun b o h => hb.cell (p := ⟨b, o, none⟩) h, fun b o h => hb.frozen (p := ⟨b, o, none⟩) h⟩

theorem below_grow (w : World) (k : Nat) (os : Array Obj) : Below w.heap.size w (Go.Sort.grow (w.drewN k) os) :=
  ⟨rfl, rfl, rfl, by simp [Go.Sort.grow, World.drewN], fun i hi => by
    show (w.heap ++ os)[i]? = _
    rw [Array.getElem?_append, if_pos hi]⟩

theorem cItoa (n : Int) (h0 : -9223372036854775808 ≤ n) (h1 : n ≤ 9223372036854775807) (w : World) (he : Env w) :
    Calls Tryd.prog 47 #[.int .i64 n] w fun e w' => e = .returned (.string ⟨(Lib.itoa n).toArray⟩) ∧ Below w.heap.size w w' :=
  (Any.strconv_Itoa Tryd.laysM171 n h0 h1 w (he.tab _ (by kernel_rfl))).mono fun e w' ⟨h, k, os, hw⟩ => ⟨h, by subst hw; exact below_grow _ _ _⟩

theorem cIndexByte (s : ByteArray) (c : Int) (w : World) :
    Calls Tryd.prog 72 #[.string s, .int .u8 c] w fun e w' => e = .returned (.int .i64 (Lib.indexByte s.data.toList c.toNat.toUInt8)) ∧ w = w' :=
  (Any.strings_IndexByte Tryd.lays137 s c w).mono fun _e _w' ⟨h, k⟩ => ⟨h, k.symm⟩
theorem cHasPrefix (s p : ByteArray) (w : World) :
    Calls Tryd.prog 71 #[.string s, .string p] w fun e w' => e = .returned (.bool (Lib.hasPrefix s.data.toList p.data.toList)) ∧ w = w' :=
  (Any.strings_HasPrefix Tryd.lays99 s p w).mono fun _e _w' ⟨h, k⟩ => ⟨h, k.symm⟩
theorem cContainsInt (b off n c : Nat) (zs : List Int) (x : Int) (w : World) (hz : n ≤ zs.length) (hbig : n ≤ 9223372036854775807) (hc : ∀ j, j < zs.length → w.cell? ⟨b, off + j, none⟩ = some (.int .i64 (zs.getD j 0))) :
    Calls Tryd.prog 91 #[.slice (some ⟨b, off, none⟩) n c, .int .i64 x] w fun e w' => e = .returned (.bool ((zs.take n).contains x)) ∧ w = w' :=
  (Any.slices_Contains_int Tryd.lays107 b off n c zs x w hz hbig hc).mono fun _e _w' ⟨h, k⟩ => ⟨h, k.symm⟩

/-- strconv.Atoi at a row of digits: the number and no error, or an error where no int holds it. -/
theorem cAtoi (s : ByteArray) (hs : s.size ≤ 281474976710656) (w : World) (he : Env w) (hd : (∃ v, Lib.atoiAll s.data.toList = .ok v) ∨ Lib.atoiAll s.data.toList = .range) :
    Calls Tryd.prog 70 #[.string s] w fun e w' => (match Lib.atoiAll s.data.toList with
      | .ok v => e = .returned (.tuple #[.int .i64 v, .nilIface])
      | _ => ∃ n N T, e = .returned (.tuple #[.int .i64 n, .iface T (.pointer (some ⟨N, 0, none⟩))])) ∧ Below w.heap.size w w' := by
  obtain ⟨te, pe, hr⟩ := he.rng
  rcases hd with ⟨v, hv⟩ | hv
  · refine (Any.strconv_Atoi_ok Tryd.laysC172 s (by omega) v hv w).mono fun e w' ⟨h, k⟩ => ?_
    rw [hv]
    refine ⟨h, ?_⟩
    rcases k with rfl | ⟨t, rfl⟩
    · exact Below.refl _ _
    · exact Lib.bytesWorld_below _ _ _
  · refine (Any.strconv_Atoi_range Tryd.laysC172 s hs hv _ w hr (.inr ⟨te, pe, rfl⟩)).mono fun e w' ⟨N, h, _, _, k⟩ => ?_
    rw [hv]
    exact ⟨⟨_, N, _, h⟩, k⟩
end Go.Proofs.YtocelmjncjompaaDoor

namespace Go.Proofs.YtocelmjncjompaaDoor
open Go.RowKit

set_option maxHeartbeats 400000 in
theorem rSign (c : UInt8) (w : World) :
    Calls Tryd.prog 45 #[.int .u8 c.toNat] w fun e w' => e = .returned (.bool (Lx.sign c)) ∧ w = w' := by
  go_enter Tryd.func45, Tryd.ntmps45
  go_wp2
  go_loop [4] (fun i => ∃ k : Nat, k ≤ 13 ∧ i = .int .i64 k ∧ (Lx.signs.take k).contains c = false) (fun i => 13 - (intOf i).toNat)
  case atStart => exact ⟨0, by omega, rfl, rfl⟩
  case round =>
    obtain ⟨k, hk, rfl, hh⟩ := hrel
    have Hh := Lib.hid hh; clear hh
    by_cases hlt : k < 13
    · go_wp2
      · go_ret
        exact ⟨ret_bool (Lx.sign_hit k c (by exact hlt) (by assumption)).symm, rfl⟩
      · go_round
        case rel => exact ⟨k + 1, by omega, by go_num, Lx.sign_miss k c (by exact hlt) Hh.out (by assumption)⟩
        case measure => simp [intOf]; omega
    · go_wp2
      go_ret
      obtain rfl : k = 13 := by omega
      exact ⟨ret_bool Hh.out.symm, rfl⟩
set_option maxHeartbeats 400000 in
theorem lClass (c : UInt8) (w : World) :
    Calls Tryd.prog 40 #[.int .u8 c.toNat] w fun e w' => e = .returned (.int .i64 (Lx.cls c)) ∧ w = w' := by
  go_enter Tryd.func40, Tryd.ntmps40
  go_wp2_with (go_at_call 72; refine (cIndexByte _ _ _).mono ?_; rintro e w' ⟨rfl, rfl⟩)
  all_goals (go_ret; refine ⟨ret_int ?_, rfl⟩; rw [Lx.cls_eq]; (try simp only [beq_iff_eq, beq_eq_false_iff_ne] at *); (repeat' split) <;> first | rfl | omega)
set_option maxHeartbeats 400000 in
theorem rName (s : ByteArray) (w : World) (hs : s.size ≤ maxLen) :
    Calls Tryd.prog 24 #[.string s] w fun e w' => e = .returned (.bool (Lx.isName s.data.toList)) ∧ w = w' := by
  unfold maxLen at hs
  by_cases h0 : s.size < 1
  · go_enter Tryd.func24, Tryd.ntmps24
    go_wp2_with fail
    go_ret
    exact ⟨ret_bool (Lx.isName_none s (by omega)).symm, rfl⟩
  have h0' : 0 < s.size := by omega
  clear h0
  by_cases h1 : 32 < s.size
  · go_enter Tryd.func24, Tryd.ntmps24
    go_wp2_with fail
    go_ret
    exact ⟨ret_bool (Lx.isName_long s (by omega)).symm, rfl⟩
  have h1' : s.size ≤ 32 := by omega
  clear h1
  cases hl : Lx.letter s[0]
  · go_enter Tryd.func24, Tryd.ntmps24
    go_wp2_with (go_at_call 41; refine (rLetter _ _).mono ?_; rintro e w' ⟨rfl, rfl⟩)
    go_ret
    exact ⟨ret_bool (Lx.isName_head s (by assumption) hl).symm, rfl⟩
  · go_enter Tryd.func24, Tryd.ntmps24
    go_wp2_with (go_at_call 41; refine (rLetter _ _).mono ?_; rintro e w' ⟨rfl, rfl⟩)
    have Hl := Lib.hid hl; clear hl
    go_loop [3] (fun i => ∃ k : Nat, k ≤ s.size ∧ i = .int .i64 k ∧ (s.data.toList.take k).all Lx.part = true) (fun i => s.size - (intOf i).toNat)
    case atStart => exact ⟨0, by omega, rfl, rfl⟩
    case round =>
      obtain ⟨k, hk, rfl, hh⟩ := hrel
      have Hh := Lib.hid hh; clear hh
      by_cases hlt : k < s.size
      · cases hp : Lx.part s[k]
        · go_wp2_with (go_at_call 42; refine (rPart _ _).mono ?_; rintro e w' ⟨rfl, rfl⟩)
          go_ret
          exact ⟨ret_bool (Lx.isName_bad s k hlt hp).symm, rfl⟩
        · go_wp2_with (go_at_call 42; refine (rPart _ _).mono ?_; rintro e w' ⟨rfl, rfl⟩)
          go_round
          case rel => exact ⟨k + 1, by omega, by go_num, Lx.all_step s k hlt Hh.out hp⟩
          case measure => simp [intOf]; omega
      · go_wp2_with fail
        go_ret
        obtain rfl : k = s.size := by omega
        exact ⟨ret_bool (Lx.isName_ok s h0' h1' Hl.out (Lx.all_end s Hh.out)).symm, rfl⟩
set_option maxHeartbeats 400000 in
theorem lName (s : ByteArray) (w : World) (hs : s.size ≤ maxLen) :
    Calls Tryd.prog 23 #[.string s] w fun e w' => e = .returned (.bool (Lx.isName s.data.toList)) ∧ w = w' := by
  unfold maxLen at hs
  by_cases h0 : s.size < 1
  · have h0e : s.toList.isEmpty = true := by rw [List.isEmpty_iff]; exact List.eq_nil_of_length_eq_zero (by rw [ByteArray.toList_eq, Lx.ba_len]; omega)
    go_enter Tryd.func23, Tryd.ntmps23
    go_wp2_with fail
    go_ret
    exact ⟨ret_bool (Lx.isName_none s (by omega)).symm, rfl⟩
  have h0' : 0 < s.size := by omega
  clear h0
  have h0f : ¬ s.toList = [] := fun h => by
    have h2 : s.data.toList.length = 0 := by rw [← ByteArray.toList_eq, h]; rfl
    rw [Lx.ba_len] at h2; omega
  have h0e : s.toList.isEmpty = false := by rw [List.isEmpty_eq_false_iff]; exact h0f
  by_cases h1 : 32 < s.size
  · go_enter Tryd.func23, Tryd.ntmps23
    go_wp2_with fail
    go_ret
    exact ⟨ret_bool (Lx.isName_long s (by omega)).symm, rfl⟩
  have h1' : s.size ≤ 32 := by omega
  have h1d : decide ((32 : Int) < (s.size : Int)) = false := decide_eq_false (by omega)
  clear h1
  cases hl : Lx.letter s[0]
  · have hq : (Lx.cls s[0] != 2) = true := by rw [Lx.letter_cls] at hl; simpa using hl
    go_enter Tryd.func23, Tryd.ntmps23
    go_wp2_with (go_at_call 40; refine (lClass _ _).mono ?_; rintro e w' ⟨rfl, rfl⟩)
    go_ret
    exact ⟨ret_bool (Lx.isName_head s (by assumption) hl).symm, rfl⟩
  · have hq : (Lx.cls s[0] != 2) = false := by rw [Lx.letter_cls] at hl; simpa using hl
    have Hl := Lib.hid hl; clear hl
    go_enter Tryd.func23, Tryd.ntmps23
    go_wp2_with (go_at_call 40; refine (lClass _ _).mono ?_; rintro e w' ⟨rfl, rfl⟩)
    go_loop [20] (fun i => ∃ k : Nat, k ≤ s.size ∧ i = .int .i64 k ∧ (s.data.toList.take k).all Lx.part = true) (fun i => s.size - (intOf i).toNat)
    case atStart => exact ⟨0, by omega, rfl, rfl⟩
    case round =>
      obtain ⟨k, hk, rfl, hh⟩ := hrel
      have Hh := Lib.hid hh; clear hh
      by_cases hlt : k < s.size
      · cases hp : Lx.part s[k]
        · have hp' := hp
          rw [Lx.part_cls] at hp'
          have q2 : (Lx.cls s[k] != 2) = true := by simp at hp' ⊢; exact hp'.1.1
          have q3 : (Lx.cls s[k] != 3) = true := by simp at hp' ⊢; exact hp'.1.2
          have q5 : (Lx.cls s[k] != 5) = true := by simp at hp' ⊢; exact hp'.2
          clear hp'
          have Hp := Lib.hid hp; clear hp
          go_wp2_with (go_at_call 40; refine (lClass _ _).mono ?_; rintro e w' ⟨rfl, rfl⟩)
          go_ret
          exact ⟨ret_bool (Lx.isName_bad s k hlt Hp.out).symm, rfl⟩
        · have Hp := Lib.hid hp
          rw [Lx.part_cls] at hp
          by_cases c2 : (Lx.cls s[k] != 2) = true
          · by_cases c3 : (Lx.cls s[k] != 3) = true
            · have c5 : (Lx.cls s[k] != 5) = false := by simp at hp c2 c3 ⊢; omega
              clear hp
              go_wp2_with (go_at_call 40; refine (lClass _ _).mono ?_; rintro e w' ⟨rfl, rfl⟩)
              go_round
              case rel => exact ⟨k + 1, by omega, by go_num, Lx.all_step s k hlt Hh.out Hp.out⟩
              case measure => simp [intOf]; omega
            · have c3' : (Lx.cls s[k] != 3) = false := by simpa using c3
              clear hp c3
              go_wp2_with (go_at_call 40; refine (lClass _ _).mono ?_; rintro e w' ⟨rfl, rfl⟩)
              go_round
              case rel => exact ⟨k + 1, by omega, by go_num, Lx.all_step s k hlt Hh.out Hp.out⟩
              case measure => simp [intOf]; omega
          · have c2' : (Lx.cls s[k] != 2) = false := by simpa using c2
            clear hp c2
            go_wp2_with (go_at_call 40; refine (lClass _ _).mono ?_; rintro e w' ⟨rfl, rfl⟩)
            go_round
            case rel => exact ⟨k + 1, by omega, by go_num, Lx.all_step s k hlt Hh.out Hp.out⟩
            case measure => simp [intOf]; omega
      · go_wp2_with fail
        go_ret
        obtain rfl : k = s.size := by omega
        exact ⟨ret_bool (Lx.isName_ok s h0' h1' Hl.out (Lx.all_end s Hh.out)).symm, rfl⟩
end Go.Proofs.YtocelmjncjompaaDoor

namespace Go.Proofs.YtocelmjncjompaaDoor
open Go.RowKit

theorem Lx.one_of (s : ByteArray) (h : s.size = 1) : s.data.toList = [s[0]] := by
  have h1 := Lx.ba_len s
  have h0 := Lx.ba_get s 0 (by omega)
  match hs : s.data.toList, h1 with
  | [c], _ => rw [← h0]; simp [hs]
  | [], h1 => simp at h1; omega
  | _ :: _ :: _, h1 => simp at h1; omega
theorem Lx.sign_cls (c : UInt8) (h : Lx.cls c = 4) : Lx.sign c = true := by
  unfold Lx.cls at h
  repeat' (split at h)
  all_goals first | assumption | (exfalso; omega)
theorem Lx.sign_not : ∀ c ∈ Lx.signs, Lx.cls c = 4 := by decide
theorem Lx.cls_sign (c : UInt8) : decide (Lx.cls c = 4) = Lx.sign c := by
  cases hs : Lx.sign c
  · exact decide_eq_false fun h => by rw [Lx.sign_cls c h] at hs; cases hs
  · exact decide_eq_true (Lx.sign_not c (by simpa [Lx.sign] using hs))

theorem Lx.valid_one (s : ByteArray) (n p : Int) : Lx.valid ⟨1, s.data.toList, n, p⟩ = (Lx.isName s.data.toList && (n == 0)) := rfl
theorem Lx.valid_two (s : ByteArray) (n p : Int) : Lx.valid ⟨2, s.data.toList, n, p⟩ = (s.data.toList.isEmpty && decide (0 ≤ n) && decide (n ≤ 1099511627776)) := rfl
theorem Lx.valid_three (s : ByteArray) (n p : Int) (h : s.size = 1) : Lx.valid ⟨3, s.data.toList, n, p⟩ = (Lx.sign s[0] && (n == 0)) := by
  rw [Lx.one_of s h]; rfl
theorem Lx.valid_three' (s : ByteArray) (n p : Int) (h : s.size ≠ 1) : Lx.valid ⟨3, s.data.toList, n, p⟩ = false := by
  have h1 := Lx.ba_len s
  match hs : s.data.toList, h1 with
  | [c], h1 => simp at h1; omega
  | [], h1 => rfl
  | _ :: _ :: _, h1 => rfl
theorem Lx.valid_other (k : Int) (s : List UInt8) (n p : Int) (h1 : k ≠ 1) (h2 : k ≠ 2) (h3 : k ≠ 3) : Lx.valid ⟨k, s, n, p⟩ = false := by
  simp [Lx.valid, h1, h2, h3]

set_option maxHeartbeats 800000 in
theorem lValid (k n p : Int) (s : ByteArray) (w : World) (hs : s.size ≤ maxLen) :
    Calls Tryd.prog 46 #[.agg #[.int .i64 k, .string s, .int .i64 n, .int .i64 p]] w fun e w' => e = .returned (.bool (Lx.valid ⟨k, s.data.toList, n, p⟩)) ∧ Below w.heap.size w w' := by
  by_cases k1 : k = 1
  · subst k1
    rw [Lx.valid_one]
    cases hn : Lx.isName s.data.toList
    all_goals
      go_enter Tryd.func46, Tryd.ntmps46
      go_wp2_with (go_at_call 23; refine (lName _ _ hs).mono ?_; rintro e w' ⟨rfl, rfl⟩)
      go_ret
      exact ⟨ret_bool (by simp), (Below.refl _ _).alloc (Nat.le_refl _) _⟩
  by_cases k2 : k = 2
  · subst k2
    rw [Lx.valid_two, ← ByteArray.toList_eq]
    cases hn : s.toList.isEmpty
    · go_enter Tryd.func46, Tryd.ntmps46
      go_wp2_with fail
      go_ret
      exact ⟨ret_bool (by simp), (Below.refl _ _).alloc (Nat.le_refl _) _⟩
    · have hn' : s.toList = [] := by simpa using hn
      by_cases n0 : 0 ≤ n
      all_goals
        go_enter Tryd.func46, Tryd.ntmps46
        go_wp2_with fail
        go_ret
        exact ⟨ret_bool (by simp <;> omega), (Below.refl _ _).alloc (Nat.le_refl _) _⟩
  by_cases k3 : k = 3
  · subst k3
    by_cases h1 : s.size = 1
    · rw [Lx.valid_three s n p h1, ← Lx.cls_sign]
      have h1' : (s.size : Int) = 1 := by omega
      have h0 : 0 < s.size := by omega
      by_cases hc : Lx.cls s[0] = 4
      all_goals
        go_enter Tryd.func46, Tryd.ntmps46
        go_wp2_with (go_at_call 40; refine (lClass _ _).mono ?_; rintro e w' ⟨rfl, rfl⟩)
        go_ret
        exact ⟨ret_bool (by simp [hc]), (Below.refl _ _).alloc (Nat.le_refl _) _⟩
    · rw [Lx.valid_three' s n p h1]
      have h1' : ((s.size : Int) == 1) = false := beq_eq_false_iff_ne.2 (by omega)
      go_enter Tryd.func46, Tryd.ntmps46
      go_wp2_with fail
      go_ret
      exact ⟨ret_bool (by simp), (Below.refl _ _).alloc (Nat.le_refl _) _⟩
  rw [Lx.valid_other k _ n p k1 k2 k3]
  have k1' : (k == 1) = false := beq_eq_false_iff_ne.2 k1
  have k2' : (k == 2) = false := beq_eq_false_iff_ne.2 k2
  have k3' : (k == 3) = false := beq_eq_false_iff_ne.2 k3
  go_enter Tryd.func46, Tryd.ntmps46
  go_wp2_with fail
  go_ret
  exact ⟨rfl, (Below.refl _ _).alloc (Nat.le_refl _) _⟩
set_option maxHeartbeats 800000 in
theorem rValid (k n p : Int) (s : ByteArray) (w : World) (hs : s.size ≤ maxLen) :
    Calls Tryd.prog 49 #[.agg #[.int .i64 k, .string s, .int .i64 n, .int .i64 p]] w fun e w' => e = .returned (.bool (Lx.valid ⟨k, s.data.toList, n, p⟩)) ∧ Below w.heap.size w w' := by
  by_cases k1 : k = 1
  · subst k1
    rw [Lx.valid_one]
    cases hn : Lx.isName s.data.toList
    all_goals
      go_enter Tryd.func49, Tryd.ntmps49
      go_wp2_with (go_at_call 24; refine (rName _ _ hs).mono ?_; rintro e w' ⟨rfl, rfl⟩)
      go_ret
      exact ⟨ret_bool (by simp), (Below.refl _ _).alloc (Nat.le_refl _) _⟩
  by_cases k2 : k = 2
  · subst k2
    rw [Lx.valid_two, ← ByteArray.toList_eq]
    cases hn : s.toList.isEmpty
    · go_enter Tryd.func49, Tryd.ntmps49
      go_wp2_with fail
      go_ret
      exact ⟨ret_bool (by simp), (Below.refl _ _).alloc (Nat.le_refl _) _⟩
    · have hn' : s.toList = [] := by simpa using hn
      by_cases n0 : 0 ≤ n
      all_goals
        go_enter Tryd.func49, Tryd.ntmps49
        go_wp2_with fail
        go_ret
        exact ⟨ret_bool (by simp <;> omega), (Below.refl _ _).alloc (Nat.le_refl _) _⟩
  by_cases k3 : k = 3
  · subst k3
    by_cases h1 : s.size = 1
    · rw [Lx.valid_three s n p h1]
      have h1' : (s.size : Int) = 1 := by omega
      have h0 : 0 < s.size := by omega
      cases hc : Lx.sign s[0]
      all_goals
        go_enter Tryd.func49, Tryd.ntmps49
        go_wp2_with (go_at_call 45; refine (rSign _ _).mono ?_; rintro e w' ⟨rfl, rfl⟩)
        go_ret
        exact ⟨ret_bool (by simp), (Below.refl _ _).alloc (Nat.le_refl _) _⟩
    · rw [Lx.valid_three' s n p h1]
      have h1' : ((s.size : Int) == 1) = false := beq_eq_false_iff_ne.2 (by omega)
      go_enter Tryd.func49, Tryd.ntmps49
      go_wp2_with fail
      go_ret
      exact ⟨ret_bool (by simp), (Below.refl _ _).alloc (Nat.le_refl _) _⟩
  rw [Lx.valid_other k _ n p k1 k2 k3]
  have k1' : (k == 1) = false := beq_eq_false_iff_ne.2 k1
  have k2' : (k == 2) = false := beq_eq_false_iff_ne.2 k2
  have k3' : (k == 3) = false := beq_eq_false_iff_ne.2 k3
  go_enter Tryd.func49, Tryd.ntmps49
  go_wp2_with fail
  go_ret
  exact ⟨rfl, (Below.refl _ _).alloc (Nat.le_refl _) _⟩
end Go.Proofs.YtocelmjncjompaaDoor
