/- Parts of the proof, joined into one text: LxA, Shelf, LxLib, LxB, LxC, LxMem, LxD. -/
import Derived.Test.YtjonaidancomgaaDoorRows
import Derived.Test.YtjonaidancomgaaDoorZLxPlain
import Derived.WalkKit
import Derived.WalkSpells
import Derived.WalkLawsBesides
import Derived.Shelf.Strings.Builder1
import Derived.Shelf.Strings.Builder2
import Derived.Shelf.Strings.OnBuilder
import Derived.Shelf.Small.Strs
import Derived.Shelf.Strconv.Atoi
import Derived.Shelf.Strconv.Itoa0
import Derived.Shelf.Strconv.Itoa1
import Derived.Shelf.LaysM
import Derived.Shelf.Strconv.Itoa2
import Derived.Shelf.Strconv.Itoa3
import Derived.Shelf.Strconv.AtoiErrFast
import Derived.Shelf.Strconv.ParseIntEmpty
import Derived.Shelf.Strconv.AtoiFail
import Derived.Shelf.Strconv.Clone
import Derived.Shelf.Strconv.SyntaxError
import Derived.Shelf.LaysC
import Derived.Shelf.Strconv.ToError
import Derived.Shelf.Strconv.Lower
import Derived.Shelf.Strconv.ParseUint10
import Derived.Shelf.Strconv.ParseUint10Empty
import Derived.Shelf.Strconv.ParseUint10Any
import Derived.Shelf.Strconv.ParseInt10
import Derived.Shelf.Strconv.AtoiLong
import Derived.Shelf.Strconv.AtoiInnerAll
import Derived.Shelf.Strconv.RangeError
import Derived.Shelf.Strconv.ToErrorRange
import Derived.Shelf.Strconv.AtoiAll
import Derived.Shelf.Strconv.ErrVarAll
import Derived.Shelf.Strings.Search1
import Derived.Shelf.Strings.Prefix
import Derived.Shelf.Slices.Turned
import Derived.Shelf.Slices.Equal
import Derived.Shelf.Slices.Empties2
import Derived.Test.YtjonaidancomgaaDoorProg
import Derived.Lib.LaidTab
import Derived.BigQuiet
import Derived.Deep.QuietTactic

namespace Go.Proofs.YtjonaidancomgaaDoor
open Go.RowKit

end Go.Proofs.YtjonaidancomgaaDoor

namespace Go.Proofs
open Go.Shelf
def Tryd.lays156_ren : Go.Shelf.Ren := ⟨fun | 156 => 52 | 165 => 61 | 166 => 62 | 169 => 63 | 240 => 70 | 241 => 71 | 276 => 82 | 277 => 83 | n => n, fun | 31 => 22 | 9 => 9 | 3 => 3 | 4 => 4 | 0 => 0 | 20 => 20 | 72 => 125 | 76 => 119 | 70 => 123 | 37 => 28 | 75 => 118 | 127 => 130 | 164 => 143 | 5 => 5 | 80 => 126 | n => n, fun | n => n⟩
theorem Tryd.lays156 : Go.Proofs.Lays.n156 Tryd.prog Tryd.lays156_ren := {
  mixed := by kernel_rfl
  f156 := Tryd.func52.trans (congrArg some (by kernel_rfl))
  f165 := Tryd.func61.trans (congrArg some (by kernel_rfl))
  f166 := Tryd.func62.trans (congrArg some (by kernel_rfl))
  f169 := Tryd.func63.trans (congrArg some (by kernel_rfl))
  f240 := Tryd.func70.trans (congrArg some (by kernel_rfl))
  f241 := Tryd.func71.trans (congrArg some (by kernel_rfl))
  f276 := Tryd.func82.trans (congrArg some (by kernel_rfl))
  f277 := Tryd.func83.trans (congrArg some (by kernel_rfl))
  t0 := Tryd.underlying0
  a0 := Tryd.isAgg0
  z0 := Tryd.sizeOf0
  v0 := Tryd.zeroValue0
  t3 := Tryd.underlying3
  a3 := Tryd.isAgg3
  z3 := Tryd.sizeOf3
  v3 := Tryd.zeroValue3
  t4 := Tryd.underlying4
  a4 := Tryd.isAgg4
  z4 := Tryd.sizeOf4
  v4 := Tryd.zeroValue4
  t9 := Tryd.underlying9
  a9 := Tryd.isAgg9
  z9 := Tryd.sizeOf9
  v9 := Tryd.zeroValue9
  t20 := Tryd.underlying20
  a20 := Tryd.isAgg20
  z20 := Tryd.sizeOf20
  v20 := Tryd.zeroValue20
  t31 := Tryd.underlying22
  a31 := Tryd.isAgg22
  z31 := Tryd.sizeOf22
  v31 := Tryd.zeroValue22
  t37 := Tryd.underlying28
  a37 := Tryd.isAgg28
  z37 := Tryd.sizeOf28
  v37 := Tryd.zeroValue28
  t70 := Tryd.underlying123
  a70 := Tryd.isAgg123
  z70 := Tryd.sizeOf123
  v70 := Tryd.zeroValue123
  t72 := Tryd.underlying125
  a72 := Tryd.isAgg125
  z72 := Tryd.sizeOf125
  v72 := Tryd.zeroValue125
  t75 := Tryd.underlying118
  a75 := Tryd.isAgg118
  z75 := Tryd.sizeOf118
  v75 := Tryd.zeroValue118
  t76 := Tryd.underlying119
  a76 := Tryd.isAgg119
  z76 := Tryd.sizeOf119
  v76 := Tryd.zeroValue119
  t127 := Tryd.underlying130
  a127 := Tryd.isAgg130
  z127 := Tryd.sizeOf130
  v127 := Tryd.zeroValue130
  t164 := Tryd.underlying143
  a164 := Tryd.isAgg143
  z164 := Tryd.sizeOf143
  v164 := Tryd.zeroValue143 }
theorem Tryd.Builder_Extra_156 : Builder.Extra Tryd.prog Tryd.lays156_ren := {
  sizeBuilder := by kernel_rfl
  liesBuilder := by kernel_rfl
  t5 := Tryd.underlying5
  a5 := Tryd.isAgg5
  z5 := Tryd.sizeOf5
  v5 := Tryd.zeroValue5
  infoByte := by kernel_rfl
  cellsByte := by kernel_rfl
  sizeByte := by kernel_rfl
  neB5 := by decide }
def Tryd.lays137_ren : Go.Shelf.Ren := ⟨fun | 137 => 53 | 217 => 64 | 266 => 72 | n => n, fun | 9 => 9 | 5 => 5 | 3 => 3 | n => n, fun | n => n⟩
theorem Tryd.lays137 : Go.Proofs.Lays.n137 Tryd.prog Tryd.lays137_ren := {
  mixed := by kernel_rfl
  f137 := Tryd.func53.trans (congrArg some (by kernel_rfl))
  f217 := Tryd.func64.trans (congrArg some (by kernel_rfl))
  f266 := Tryd.func72.trans (congrArg some (by kernel_rfl))
  t3 := Tryd.underlying3
  a3 := Tryd.isAgg3
  z3 := Tryd.sizeOf3
  v3 := Tryd.zeroValue3
  t5 := Tryd.underlying5
  a5 := Tryd.isAgg5
  z5 := Tryd.sizeOf5
  v5 := Tryd.zeroValue5
  t9 := Tryd.underlying9
  a9 := Tryd.isAgg9
  z9 := Tryd.sizeOf9
  v9 := Tryd.zeroValue9 }
def Tryd.laysM171_ren : Go.Shelf.Ren := ⟨fun | 171 => 51 | 243 => 60 | 246 => 69 | 283 => 78 | 284 => 79 | 285 => 80 | 286 => 81 | 129 => 88 | 317 => 87 | 318 => 89 | 319 => 90 | 320 => 91 | 337 => 94 | 338 => 95 | n => n, fun | 3 => 3 | 9 => 9 | 2 => 2 | 4 => 4 | 171 => 137 | 0 => 0 | 53 => 138 | 37 => 28 | 5 => 5 | 173 => 141 | 212 => 153 | 51 => 154 | 20 => 20 | 213 => 155 | 46 => 148 | 232 => 163 | 233 => 164 | n => n, fun | 17 => 4 | 18 => 5 | 19 => 6 | n => n⟩
theorem Tryd.laysM171 : Go.Proofs.LaysM.n171 Tryd.prog Tryd.laysM171_ren := {
  mixed := by kernel_rfl
  f129 := Tryd.func88.trans (congrArg some (by kernel_rfl))
  f171 := Tryd.func51.trans (congrArg some (by kernel_rfl))
  f243 := Tryd.func60.trans (congrArg some (by kernel_rfl))
  f246 := Tryd.func69.trans (congrArg some (by kernel_rfl))
  f283 := Tryd.func78.trans (congrArg some (by kernel_rfl))
  f284 := Tryd.func79.trans (congrArg some (by kernel_rfl))
  f285 := Tryd.func80.trans (congrArg some (by kernel_rfl))
  f286 := Tryd.func81.trans (congrArg some (by kernel_rfl))
  f317 := Tryd.func87.trans (congrArg some (by kernel_rfl))
  f318 := Tryd.func89.trans (congrArg some (by kernel_rfl))
  f319 := Tryd.func90.trans (congrArg some (by kernel_rfl))
  f320 := Tryd.func91.trans (congrArg some (by kernel_rfl))
  f337 := Tryd.func94.trans (congrArg some (by kernel_rfl))
  f338 := Tryd.func95.trans (congrArg some (by kernel_rfl))
  t0 := Tryd.underlying0
  a0 := Tryd.isAgg0
  z0 := Tryd.sizeOf0
  v0 := Tryd.zeroValue0
  t2 := Tryd.underlying2
  a2 := Tryd.isAgg2
  z2 := Tryd.sizeOf2
  v2 := Tryd.zeroValue2
  t3 := Tryd.underlying3
  a3 := Tryd.isAgg3
  z3 := Tryd.sizeOf3
  v3 := Tryd.zeroValue3
  t4 := Tryd.underlying4
  a4 := Tryd.isAgg4
  z4 := Tryd.sizeOf4
  v4 := Tryd.zeroValue4
  t5 := Tryd.underlying5
  a5 := Tryd.isAgg5
  z5 := Tryd.sizeOf5
  v5 := Tryd.zeroValue5
  t9 := Tryd.underlying9
  a9 := Tryd.isAgg9
  z9 := Tryd.sizeOf9
  v9 := Tryd.zeroValue9
  t20 := Tryd.underlying20
  a20 := Tryd.isAgg20
  z20 := Tryd.sizeOf20
  v20 := Tryd.zeroValue20
  t37 := Tryd.underlying28
  a37 := Tryd.isAgg28
  z37 := Tryd.sizeOf28
  v37 := Tryd.zeroValue28
  t46 := Tryd.underlying148
  a46 := Tryd.isAgg148
  z46 := Tryd.sizeOf148
  v46 := Tryd.zeroValue148
  t51 := Tryd.underlying154
  a51 := Tryd.isAgg154
  z51 := Tryd.sizeOf154
  v51 := Tryd.zeroValue154
  t53 := Tryd.underlying138
  a53 := Tryd.isAgg138
  z53 := Tryd.sizeOf138
  v53 := Tryd.zeroValue138
  t171 := Tryd.underlying137
  a171 := Tryd.isAgg137
  z171 := Tryd.sizeOf137
  v171 := Tryd.zeroValue137
  t173 := Tryd.underlying141
  a173 := Tryd.isAgg141
  z173 := Tryd.sizeOf141
  v173 := Tryd.zeroValue141
  t212 := Tryd.underlying153
  a212 := Tryd.isAgg153
  z212 := Tryd.sizeOf153
  v212 := Tryd.zeroValue153
  t213 := Tryd.underlying155
  a213 := Tryd.isAgg155
  z213 := Tryd.sizeOf155
  t232 := Tryd.underlying163
  a232 := Tryd.isAgg163
  z232 := Tryd.sizeOf163
  v232 := Tryd.zeroValue163
  t233 := Tryd.underlying164
  a233 := Tryd.isAgg164
  z233 := Tryd.sizeOf164
  v233 := Tryd.zeroValue164
  g17 := by kernel_rfl
  g18 := by kernel_rfl
  g19 := by kernel_rfl
  i0 := by kernel_rfl
  i2 := by kernel_rfl
  i3 := by kernel_rfl
  i4 := by kernel_rfl
  i5 := by kernel_rfl
  i9 := by kernel_rfl
  i20 := by kernel_rfl
  i37 := by kernel_rfl
  i46 := by kernel_rfl
  i51 := by kernel_rfl
  i53 := by kernel_rfl
  i171 := by kernel_rfl
  i173 := by kernel_rfl
  i212 := by kernel_rfl
  i232 := by kernel_rfl
  i233 := by kernel_rfl
  m17 := by kernel_rfl
  m18 := by kernel_rfl
  m19 := by kernel_rfl }
def Tryd.laysC172_ren : Go.Shelf.Ren := ⟨fun | 172 => 56 | 244 => 66 | 245 => 67 | 247 => 73 | 279 => 74 | 280 => 75 | 281 => 76 | 282 => 77 | 287 => 84 | 316 => 85 | 171 => 51 | 205 => 86 | 321 => 92 | 322 => 93 | 243 => 60 | 246 => 69 | 283 => 78 | 284 => 79 | 285 => 80 | 286 => 81 | 129 => 88 | 317 => 87 | 318 => 89 | 319 => 90 | 320 => 91 | 337 => 94 | 338 => 95 | n => n, fun | 9 => 9 | 3 => 3 | 75 => 118 | 76 => 119 | 4 => 4 | 5 => 5 | 167 => 131 | 37 => 28 | 0 => 0 | 85 => 132 | 2 => 2 | 168 => 134 | 53 => 138 | 175 => 146 | 46 => 148 | 210 => 151 | 127 => 130 | 145 => 161 | 143 => 159 | 21 => 21 | 171 => 137 | 173 => 141 | 212 => 153 | 51 => 154 | 20 => 20 | 213 => 155 | 232 => 163 | 233 => 164 | 80 => 126 | n => n, fun | 15 => 2 | 16 => 3 | 17 => 4 | 18 => 5 | 19 => 6 | n => n⟩
theorem Tryd.laysC172 : Go.Proofs.LaysC.n172 Tryd.prog Tryd.laysC172_ren := {
  mixed := by kernel_rfl
  f129 := Tryd.func88.trans (congrArg some (by kernel_rfl))
  f171 := Tryd.func51.trans (congrArg some (by kernel_rfl))
  f172 := Tryd.func56.trans (congrArg some (by kernel_rfl))
  f205 := Tryd.func86.trans (congrArg some (by kernel_rfl))
  f243 := Tryd.func60.trans (congrArg some (by kernel_rfl))
  f244 := Tryd.func66.trans (congrArg some (by kernel_rfl))
  f245 := Tryd.func67.trans (congrArg some (by kernel_rfl))
  f246 := Tryd.func69.trans (congrArg some (by kernel_rfl))
  f247 := Tryd.func73.trans (congrArg some (by kernel_rfl))
  f279 := Tryd.func74.trans (congrArg some (by kernel_rfl))
  f280 := Tryd.func75.trans (congrArg some (by kernel_rfl))
  f281 := Tryd.func76.trans (congrArg some (by kernel_rfl))
  f282 := Tryd.func77.trans (congrArg some (by kernel_rfl))
  f283 := Tryd.func78.trans (congrArg some (by kernel_rfl))
  f284 := Tryd.func79.trans (congrArg some (by kernel_rfl))
  f285 := Tryd.func80.trans (congrArg some (by kernel_rfl))
  f286 := Tryd.func81.trans (congrArg some (by kernel_rfl))
  f287 := Tryd.func84.trans (congrArg some (by kernel_rfl))
  f316 := Tryd.func85.trans (congrArg some (by kernel_rfl))
  f317 := Tryd.func87.trans (congrArg some (by kernel_rfl))
  f318 := Tryd.func89.trans (congrArg some (by kernel_rfl))
  f319 := Tryd.func90.trans (congrArg some (by kernel_rfl))
  f320 := Tryd.func91.trans (congrArg some (by kernel_rfl))
  f321 := Tryd.func92.trans (congrArg some (by kernel_rfl))
  f322 := Tryd.func93.trans (congrArg some (by kernel_rfl))
  f337 := Tryd.func94.trans (congrArg some (by kernel_rfl))
  f338 := Tryd.func95.trans (congrArg some (by kernel_rfl))
  t0 := Tryd.underlying0
  a0 := Tryd.isAgg0
  z0 := Tryd.sizeOf0
  v0 := Tryd.zeroValue0
  t2 := Tryd.underlying2
  a2 := Tryd.isAgg2
  z2 := Tryd.sizeOf2
  v2 := Tryd.zeroValue2
  t3 := Tryd.underlying3
  a3 := Tryd.isAgg3
  z3 := Tryd.sizeOf3
  v3 := Tryd.zeroValue3
  t4 := Tryd.underlying4
  a4 := Tryd.isAgg4
  z4 := Tryd.sizeOf4
  v4 := Tryd.zeroValue4
  t5 := Tryd.underlying5
  a5 := Tryd.isAgg5
  z5 := Tryd.sizeOf5
  v5 := Tryd.zeroValue5
  t9 := Tryd.underlying9
  a9 := Tryd.isAgg9
  z9 := Tryd.sizeOf9
  v9 := Tryd.zeroValue9
  t20 := Tryd.underlying20
  a20 := Tryd.isAgg20
  z20 := Tryd.sizeOf20
  v20 := Tryd.zeroValue20
  t21 := Tryd.underlying21
  a21 := Tryd.isAgg21
  z21 := Tryd.sizeOf21
  v21 := Tryd.zeroValue21
  t37 := Tryd.underlying28
  a37 := Tryd.isAgg28
  z37 := Tryd.sizeOf28
  v37 := Tryd.zeroValue28
  t46 := Tryd.underlying148
  a46 := Tryd.isAgg148
  z46 := Tryd.sizeOf148
  v46 := Tryd.zeroValue148
  t51 := Tryd.underlying154
  a51 := Tryd.isAgg154
  z51 := Tryd.sizeOf154
  v51 := Tryd.zeroValue154
  t53 := Tryd.underlying138
  a53 := Tryd.isAgg138
  z53 := Tryd.sizeOf138
  v53 := Tryd.zeroValue138
  t75 := Tryd.underlying118
  a75 := Tryd.isAgg118
  z75 := Tryd.sizeOf118
  v75 := Tryd.zeroValue118
  t76 := Tryd.underlying119
  a76 := Tryd.isAgg119
  z76 := Tryd.sizeOf119
  v76 := Tryd.zeroValue119
  t85 := Tryd.underlying132
  a85 := Tryd.isAgg132
  z85 := Tryd.sizeOf132
  v85 := Tryd.zeroValue132
  t127 := Tryd.underlying130
  a127 := Tryd.isAgg130
  z127 := Tryd.sizeOf130
  v127 := Tryd.zeroValue130
  t143 := Tryd.underlying159
  a143 := Tryd.isAgg159
  z143 := Tryd.sizeOf159
  v143 := Tryd.zeroValue159
  t145 := Tryd.underlying161
  a145 := Tryd.isAgg161
  z145 := Tryd.sizeOf161
  v145 := Tryd.zeroValue161
  t167 := Tryd.underlying131
  a167 := Tryd.isAgg131
  z167 := Tryd.sizeOf131
  v167 := Tryd.zeroValue131
  t168 := Tryd.underlying134
  a168 := Tryd.isAgg134
  z168 := Tryd.sizeOf134
  v168 := Tryd.zeroValue134
  t171 := Tryd.underlying137
  a171 := Tryd.isAgg137
  z171 := Tryd.sizeOf137
  v171 := Tryd.zeroValue137
  t173 := Tryd.underlying141
  a173 := Tryd.isAgg141
  z173 := Tryd.sizeOf141
  v173 := Tryd.zeroValue141
  t175 := Tryd.underlying146
  a175 := Tryd.isAgg146
  z175 := Tryd.sizeOf146
  v175 := Tryd.zeroValue146
  t210 := Tryd.underlying151
  a210 := Tryd.isAgg151
  z210 := Tryd.sizeOf151
  v210 := Tryd.zeroValue151
  t212 := Tryd.underlying153
  a212 := Tryd.isAgg153
  z212 := Tryd.sizeOf153
  v212 := Tryd.zeroValue153
  t213 := Tryd.underlying155
  a213 := Tryd.isAgg155
  z213 := Tryd.sizeOf155
  t232 := Tryd.underlying163
  a232 := Tryd.isAgg163
  z232 := Tryd.sizeOf163
  v232 := Tryd.zeroValue163
  t233 := Tryd.underlying164
  a233 := Tryd.isAgg164
  z233 := Tryd.sizeOf164
  v233 := Tryd.zeroValue164
  g15 := by kernel_rfl
  g16 := by kernel_rfl
  g17 := by kernel_rfl
  g18 := by kernel_rfl
  g19 := by kernel_rfl
  t80 := Tryd.underlying126
  a80 := Tryd.isAgg126
  z80 := Tryd.sizeOf126
  v80 := Tryd.zeroValue126
  i0 := by kernel_rfl
  i2 := by kernel_rfl
  i3 := by kernel_rfl
  i4 := by kernel_rfl
  i5 := by kernel_rfl
  i9 := by kernel_rfl
  i20 := by kernel_rfl
  i21 := by kernel_rfl
  i37 := by kernel_rfl
  i46 := by kernel_rfl
  i51 := by kernel_rfl
  i53 := by kernel_rfl
  i75 := by kernel_rfl
  i76 := by kernel_rfl
  i80 := by kernel_rfl
  i85 := by kernel_rfl
  i127 := by kernel_rfl
  i143 := by kernel_rfl
  i145 := by kernel_rfl
  i167 := by kernel_rfl
  i168 := by kernel_rfl
  i171 := by kernel_rfl
  i173 := by kernel_rfl
  i175 := by kernel_rfl
  i210 := by kernel_rfl
  i212 := by kernel_rfl
  i232 := by kernel_rfl
  i233 := by kernel_rfl
  m15 := by kernel_rfl
  m16 := by kernel_rfl
  m17 := by kernel_rfl
  m18 := by kernel_rfl
  m19 := by kernel_rfl
  c0 := by kernel_rfl
  c2 := by kernel_rfl
  c3 := by kernel_rfl
  c4 := by kernel_rfl
  c5 := by kernel_rfl
  c9 := by kernel_rfl
  c20 := by kernel_rfl
  c21 := by kernel_rfl
  c37 := by kernel_rfl
  c46 := by kernel_rfl
  c51 := by kernel_rfl
  c53 := by kernel_rfl
  c75 := by kernel_rfl
  c76 := by kernel_rfl
  c80 := by kernel_rfl
  c85 := by kernel_rfl
  c127 := by kernel_rfl
  c143 := by kernel_rfl
  c145 := by kernel_rfl
  c167 := by kernel_rfl
  c168 := by kernel_rfl
  c171 := by kernel_rfl
  c173 := by kernel_rfl
  c175 := by kernel_rfl
  c210 := by kernel_rfl
  c212 := by kernel_rfl
  c213 := by kernel_rfl
  c232 := by kernel_rfl
  c233 := by kernel_rfl }
def Tryd.lays99_ren : Go.Shelf.Ren := ⟨fun | 99 => 57 | 206 => 68 | n => n, fun | 9 => 9 | 4 => 4 | 3 => 3 | n => n, fun | n => n⟩
theorem Tryd.lays99 : Go.Proofs.Lays.n99 Tryd.prog Tryd.lays99_ren := {
  mixed := by kernel_rfl
  f99 := Tryd.func57.trans (congrArg some (by kernel_rfl))
  f206 := Tryd.func68.trans (congrArg some (by kernel_rfl))
  t3 := Tryd.underlying3
  a3 := Tryd.isAgg3
  z3 := Tryd.sizeOf3
  v3 := Tryd.zeroValue3
  t4 := Tryd.underlying4
  a4 := Tryd.isAgg4
  z4 := Tryd.sizeOf4
  v4 := Tryd.zeroValue4
  t9 := Tryd.underlying9
  a9 := Tryd.isAgg9
  z9 := Tryd.sizeOf9
  v9 := Tryd.zeroValue9 }
def Tryd.lays108_ren : Go.Shelf.Ren := ⟨fun | 108 => 18 | n => n, fun | 28 => 23 | 3 => 3 | 0 => 0 | 4 => 4 | n => n, fun | n => n⟩
theorem Tryd.lays108 : Go.Proofs.Lays.n108 Tryd.prog Tryd.lays108_ren := {
  mixed := by kernel_rfl
  f108 := Tryd.func18.trans (congrArg some (by kernel_rfl))
  t0 := Tryd.underlying0
  a0 := Tryd.isAgg0
  z0 := Tryd.sizeOf0
  v0 := Tryd.zeroValue0
  t3 := Tryd.underlying3
  a3 := Tryd.isAgg3
  z3 := Tryd.sizeOf3
  v3 := Tryd.zeroValue3
  t4 := Tryd.underlying4
  a4 := Tryd.isAgg4
  z4 := Tryd.sizeOf4
  v4 := Tryd.zeroValue4
  t28 := Tryd.underlying23
  a28 := Tryd.isAgg23
  z28 := Tryd.sizeOf23
  v28 := Tryd.zeroValue23 }
def Tryd.lays107_ren : Go.Shelf.Ren := ⟨fun | 107 => 65 | 108 => 18 | n => n, fun | 28 => 23 | 3 => 3 | 4 => 4 | 0 => 0 | n => n, fun | n => n⟩
theorem Tryd.lays107 : Go.Proofs.Lays.n107 Tryd.prog Tryd.lays107_ren := {
  mixed := by kernel_rfl
  f107 := Tryd.func65.trans (congrArg some (by kernel_rfl))
  f108 := Tryd.func18.trans (congrArg some (by kernel_rfl))
  t0 := Tryd.underlying0
  a0 := Tryd.isAgg0
  z0 := Tryd.sizeOf0
  v0 := Tryd.zeroValue0
  t3 := Tryd.underlying3
  a3 := Tryd.isAgg3
  z3 := Tryd.sizeOf3
  v3 := Tryd.zeroValue3
  t4 := Tryd.underlying4
  a4 := Tryd.isAgg4
  z4 := Tryd.sizeOf4
  v4 := Tryd.zeroValue4
  t28 := Tryd.underlying23
  a28 := Tryd.isAgg23
  z28 := Tryd.sizeOf23
  v28 := Tryd.zeroValue23 }
def Tryd.lays109_ren : Go.Shelf.Ren := ⟨fun | 109 => 17 | n => n, fun | 31 => 22 | 9 => 9 | 3 => 3 | 0 => 0 | 4 => 4 | n => n, fun | n => n⟩
theorem Tryd.lays109 : Go.Proofs.Lays.n109 Tryd.prog Tryd.lays109_ren := {
  mixed := by kernel_rfl
  f109 := Tryd.func17.trans (congrArg some (by kernel_rfl))
  t0 := Tryd.underlying0
  a0 := Tryd.isAgg0
  z0 := Tryd.sizeOf0
  v0 := Tryd.zeroValue0
  t3 := Tryd.underlying3
  a3 := Tryd.isAgg3
  z3 := Tryd.sizeOf3
  v3 := Tryd.zeroValue3
  t4 := Tryd.underlying4
  a4 := Tryd.isAgg4
  z4 := Tryd.sizeOf4
  v4 := Tryd.zeroValue4
  t9 := Tryd.underlying9
  a9 := Tryd.isAgg9
  z9 := Tryd.sizeOf9
  v9 := Tryd.zeroValue9
  t31 := Tryd.underlying22
  a31 := Tryd.isAgg22
  z31 := Tryd.sizeOf22
  v31 := Tryd.zeroValue22 }
def Tryd.lays111_ren : Go.Shelf.Ren := ⟨fun | 111 => 30 | n => n, fun | 28 => 23 | 3 => 3 | 4 => 4 | 0 => 0 | n => n, fun | n => n⟩
theorem Tryd.lays111 : Go.Proofs.Lays.n111 Tryd.prog Tryd.lays111_ren := {
  mixed := by kernel_rfl
  f111 := Tryd.func30.trans (congrArg some (by kernel_rfl))
  t0 := Tryd.underlying0
  a0 := Tryd.isAgg0
  z0 := Tryd.sizeOf0
  v0 := Tryd.zeroValue0
  t3 := Tryd.underlying3
  a3 := Tryd.isAgg3
  z3 := Tryd.sizeOf3
  v3 := Tryd.zeroValue3
  t4 := Tryd.underlying4
  a4 := Tryd.isAgg4
  z4 := Tryd.sizeOf4
  v4 := Tryd.zeroValue4
  t28 := Tryd.underlying23
  a28 := Tryd.isAgg23
  z28 := Tryd.sizeOf23
  v28 := Tryd.zeroValue23 }
def Tryd.lays193_ren : Go.Shelf.Ren := ⟨fun | 193 => 29 | n => n, fun | 31 => 22 | 9 => 9 | 4 => 4 | 3 => 3 | 0 => 0 | n => n, fun | n => n⟩
theorem Tryd.lays193 : Go.Proofs.Lays.n193 Tryd.prog Tryd.lays193_ren := {
  mixed := by kernel_rfl
  f193 := Tryd.func29.trans (congrArg some (by kernel_rfl))
  t0 := Tryd.underlying0
  a0 := Tryd.isAgg0
  z0 := Tryd.sizeOf0
  v0 := Tryd.zeroValue0
  t3 := Tryd.underlying3
  a3 := Tryd.isAgg3
  z3 := Tryd.sizeOf3
  v3 := Tryd.zeroValue3
  t4 := Tryd.underlying4
  a4 := Tryd.isAgg4
  z4 := Tryd.sizeOf4
  v4 := Tryd.zeroValue4
  t9 := Tryd.underlying9
  a9 := Tryd.isAgg9
  z9 := Tryd.sizeOf9
  v9 := Tryd.zeroValue9
  t31 := Tryd.underlying22
  a31 := Tryd.isAgg22
  z31 := Tryd.sizeOf22
  v31 := Tryd.zeroValue22 }
end Go.Proofs

namespace Go.Proofs.YtjonaidancomgaaDoor
open Go.RowKit

/-- The variables of the library that the program reads. -/
structure Env (w : World) : Prop where
  pow : ∃ t fz, w.heap[(4 : Nat)]? = some (.cells ((Lib.pow10Tab.map (Value.int .u64)).toArray) t fz)
  rng : ∃ te pe, w.cell? ⟨3, 0, none⟩ = some (.iface te pe)
  size : 6 + 1 ≤ w.heap.size

theorem Env.below {B : Nat} {w w' : World} (h : Env w) (hb : Below B w w') (hB : 6 + 1 ≤ B) : Env w' := by
  obtain ⟨⟨t, fz, hp⟩, ⟨te, pe, hr⟩, hs⟩ := h
  refine ⟨⟨t, fz, (hb.block _ (by omega)).trans hp⟩, ⟨te, pe, (hb.cell (p := ⟨3, 0, none⟩) (show (3 : Nat) < B by omega)).trans hr⟩, Nat.le_trans hs hb.size⟩
theorem Env.next {w w' : World} (h : Env w) (hb : Below w.heap.size w w') : Env w' := h.below hb h.size

theorem Env.tab {w : World} (h : Env w) (name : String) (hn : Tryd.prog.globalNamed name = some 4) : Lib.TabIs Tryd.prog w name .u64 Lib.pow10Tab := by
  obtain ⟨t, fz, hp⟩ := h.pow
  unfold Lib.TabIs World.var?
  rw [hn]
  simp only [Option.bind_some, hp]

theorem bcell {W w1 : World} (hb : Below W.heap.size W w1) : (∀ b o, b < W.heap.size → w1.cell? ⟨b, o, none⟩ = W.cell? ⟨b, o, none⟩) ∧ (∀ b o, b < W.heap.size → w1.frozen? ⟨b, o, none⟩ = W.frozen? ⟨b, o, none⟩) :=
  ⟨fun b o h => hb.cell (p := ⟨b, o, none⟩) h, fun b o h => hb.frozen (p := ⟨b, o, none⟩) h⟩

theorem below_grow (w : World) (k : Nat) (os : Array Obj) : Below w.heap.size w (Go.Sort.grow (w.drewN k) os) :=
  ⟨rfl, rfl, rfl, by simp [Go.Sort.grow, World.drewN], fun i hi => by
    show (w.heap ++ os)[i]? = _
    rw [Array.getElem?_append, if_pos hi]⟩

theorem cItoa (n : Int) (h0 : -9223372036854775808 ≤ n) (h1 : n ≤ 9223372036854775807) (w : World) (he : Env w) :
    Calls Tryd.prog 51 #[.int .i64 n] w fun e w' => e = .returned (.string ⟨(Lib.itoa n).toArray⟩) ∧ Below w.heap.size w w' :=
  (Any.strconv_Itoa Tryd.laysM171 n h0 h1 w (he.tab _ (by kernel_rfl))).mono fun e w' ⟨h, k, os, hw⟩ => ⟨h, by subst hw; exact below_grow _ _ _⟩

theorem cIndexByte (s : ByteArray) (c : Int) (w : World) :
    Calls Tryd.prog 53 #[.string s, .int .u8 c] w fun e w' => e = .returned (.int .i64 (Lib.indexByte s.data.toList c.toNat.toUInt8)) ∧ w = w' :=
  (Any.strings_IndexByte Tryd.lays137 s c w).mono fun _e _w' ⟨h, k⟩ => ⟨h, k.symm⟩
theorem cHasPrefix (s p : ByteArray) (w : World) :
    Calls Tryd.prog 57 #[.string s, .string p] w fun e w' => e = .returned (.bool (Lib.hasPrefix s.data.toList p.data.toList)) ∧ w = w' :=
  (Any.strings_HasPrefix Tryd.lays99 s p w).mono fun _e _w' ⟨h, k⟩ => ⟨h, k.symm⟩
theorem cContainsInt (b off n c : Nat) (zs : List Int) (x : Int) (w : World) (hz : n ≤ zs.length) (hbig : n ≤ 9223372036854775807) (hc : ∀ j, j < zs.length → w.cell? ⟨b, off + j, none⟩ = some (.int .i64 (zs.getD j 0))) :
    Calls Tryd.prog 65 #[.slice (some ⟨b, off, none⟩) n c, .int .i64 x] w fun e w' => e = .returned (.bool ((zs.take n).contains x)) ∧ w = w' :=
  (Any.slices_Contains_int Tryd.lays107 b off n c zs x w hz hbig hc).mono fun _e _w' ⟨h, k⟩ => ⟨h, k.symm⟩

/-- strconv.Atoi at a row of digits: the number and no error, or an error where no int holds it. -/
theorem cAtoi (s : ByteArray) (hs : s.size ≤ 281474976710656) (w : World) (he : Env w) (hd : (∃ v, Lib.atoiAll s.data.toList = .ok v) ∨ Lib.atoiAll s.data.toList = .range) :
    Calls Tryd.prog 56 #[.string s] w fun e w' => (match Lib.atoiAll s.data.toList with
      | .ok v => e = .returned (.tuple #[.int .i64 v, .nilIface])
      | _ => ∃ n N T, e = .returned (.tuple #[.int .i64 n, .iface T (.pointer (some ⟨N, 0, none⟩))])) ∧ Below w.heap.size w w' := by
  obtain ⟨te, pe, hr⟩ := he.rng
  rcases hd with ⟨v, hv⟩ | hv
  · refine (Any.strconv_Atoi_ok Tryd.laysC172 s (by omega) v hv w).mono fun e w' ⟨h, k⟩ => ?_
    rw [hv]
    refine ⟨h, ?_⟩
    rcases k with rfl | ⟨t, rfl⟩
    · exact Below.refl _ _
    · exact Lib.bytesWorld_below _ _ _
  · refine (Any.strconv_Atoi_range Tryd.laysC172 s hs hv _ w hr (.inr ⟨te, pe, rfl⟩)).mono fun e w' ⟨N, h, _, _, k⟩ => ?_
    rw [hv]
    exact ⟨⟨_, N, _, h⟩, k⟩
end Go.Proofs.YtjonaidancomgaaDoor

namespace Go.Proofs.YtjonaidancomgaaDoor
open Go.RowKit

set_option maxHeartbeats 400000 in
theorem lClass (c : UInt8) (w : World) :
    Calls Tryd.prog 33 #[.int .u8 c.toNat] w fun e w' => e = .returned (.int .i64 (Lx.cls c)) ∧ w = w' := by
  go_enter Tryd.func33, Tryd.ntmps33
  go_wp2_with (go_at_call 53; refine (cIndexByte _ _ _).mono ?_; rintro e w' ⟨rfl, rfl⟩)
  all_goals (go_ret; refine ⟨ret_int ?_, rfl⟩; rw [Lx.cls_eq]; (try simp only [beq_iff_eq, beq_eq_false_iff_ne] at *); (repeat' split) <;> first | rfl | omega)
set_option maxHeartbeats 400000 in
theorem lName (s : ByteArray) (w : World) (hs : s.size ≤ maxLen) :
    Calls Tryd.prog 16 #[.string s] w fun e w' => e = .returned (.bool (Lx.isName s.data.toList)) ∧ w = w' := by
  unfold maxLen at hs
  by_cases h0 : s.size < 1
  · have h0e : s.toList.isEmpty = true := by rw [List.isEmpty_iff]; exact List.eq_nil_of_length_eq_zero (by rw [ByteArray.toList_eq, Lx.ba_len]; omega)
    go_enter Tryd.func16, Tryd.ntmps16
    go_wp2_with fail
    go_ret
    exact ⟨ret_bool (Lx.isName_none s (by omega)).symm, rfl⟩
  have h0' : 0 < s.size := by omega
  clear h0
  have h0f : ¬ s.toList = [] := fun h => by
    have h2 : s.data.toList.length = 0 := by rw [← ByteArray.toList_eq, h]; rfl
    rw [Lx.ba_len] at h2; omega
  have h0e : s.toList.isEmpty = false := by rw [List.isEmpty_eq_false_iff]; exact h0f
  by_cases h1 : 32 < s.size
  · go_enter Tryd.func16, Tryd.ntmps16
    go_wp2_with fail
    go_ret
    exact ⟨ret_bool (Lx.isName_long s (by omega)).symm, rfl⟩
  have h1' : s.size ≤ 32 := by omega
  have h1d : decide ((32 : Int) < (s.size : Int)) = false := decide_eq_false (by omega)
  clear h1
  cases hl : Lx.letter s[0]
  · have hq : (Lx.cls s[0] != 2) = true := by rw [Lx.letter_cls] at hl; simpa using hl
    go_enter Tryd.func16, Tryd.ntmps16
    go_wp2_with (go_at_call 33; refine (lClass _ _).mono ?_; rintro e w' ⟨rfl, rfl⟩)
    go_ret
    exact ⟨ret_bool (Lx.isName_head s (by assumption) hl).symm, rfl⟩
  · have hq : (Lx.cls s[0] != 2) = false := by rw [Lx.letter_cls] at hl; simpa using hl
    have Hl := Lib.hid hl; clear hl
    go_enter Tryd.func16, Tryd.ntmps16
    go_wp2_with (go_at_call 33; refine (lClass _ _).mono ?_; rintro e w' ⟨rfl, rfl⟩)
    go_loop [20] (fun i => ∃ k : Nat, k ≤ s.size ∧ i = .int .i64 k ∧ (s.data.toList.take k).all Lx.part = true) (fun i => s.size - (intOf i).toNat)
    case atStart => exact ⟨0, by omega, rfl, rfl⟩
    case round =>
      obtain ⟨k, hk, rfl, hh⟩ := hrel
      have Hh := Lib.hid hh; clear hh
      by_cases hlt : k < s.size
      · cases hp : Lx.part s[k]
        · have hp' := hp
          rw [Lx.part_cls] at hp'
          have q2 : (Lx.cls s[k] != 2) = true := by simp at hp' ⊢; exact hp'.1.1
          have q3 : (Lx.cls s[k] != 3) = true := by simp at hp' ⊢; exact hp'.1.2
          have q5 : (Lx.cls s[k] != 5) = true := by simp at hp' ⊢; exact hp'.2
          clear hp'
          have Hp := Lib.hid hp; clear hp
          go_wp2_with (go_at_call 33; refine (lClass _ _).mono ?_; rintro e w' ⟨rfl, rfl⟩)
          go_ret
          exact ⟨ret_bool (Lx.isName_bad s k hlt Hp.out).symm, rfl⟩
        · have Hp := Lib.hid hp
          rw [Lx.part_cls] at hp
          by_cases c2 : (Lx.cls s[k] != 2) = true
          · by_cases c3 : (Lx.cls s[k] != 3) = true
            · have c5 : (Lx.cls s[k] != 5) = false := by simp at hp c2 c3 ⊢; omega
              clear hp
              go_wp2_with (go_at_call 33; refine (lClass _ _).mono ?_; rintro e w' ⟨rfl, rfl⟩)
              go_round
              case rel => exact ⟨k + 1, by omega, by go_num, Lx.all_step s k hlt Hh.out Hp.out⟩
              case measure => simp [intOf]; omega
            · have c3' : (Lx.cls s[k] != 3) = false := by simpa using c3
              clear hp c3
              go_wp2_with (go_at_call 33; refine (lClass _ _).mono ?_; rintro e w' ⟨rfl, rfl⟩)
              go_round
              case rel => exact ⟨k + 1, by omega, by go_num, Lx.all_step s k hlt Hh.out Hp.out⟩
              case measure => simp [intOf]; omega
          · have c2' : (Lx.cls s[k] != 2) = false := by simpa using c2
            clear hp c2
            go_wp2_with (go_at_call 33; refine (lClass _ _).mono ?_; rintro e w' ⟨rfl, rfl⟩)
            go_round
            case rel => exact ⟨k + 1, by omega, by go_num, Lx.all_step s k hlt Hh.out Hp.out⟩
            case measure => simp [intOf]; omega
      · go_wp2_with fail
        go_ret
        obtain rfl : k = s.size := by omega
        exact ⟨ret_bool (Lx.isName_ok s h0' h1' Hl.out (Lx.all_end s Hh.out)).symm, rfl⟩
end Go.Proofs.YtjonaidancomgaaDoor

namespace Go.Proofs.YtjonaidancomgaaDoor
open Go.RowKit

theorem Lx.one_of (s : ByteArray) (h : s.size = 1) : s.data.toList = [s[0]] := by
  have h1 := Lx.ba_len s
  have h0 := Lx.ba_get s 0 (by omega)
  match hs : s.data.toList, h1 with
  | [c], _ => rw [← h0]; simp [hs]
  | [], h1 => simp at h1; omega
  | _ :: _ :: _, h1 => simp at h1; omega
theorem Lx.sign_cls (c : UInt8) (h : Lx.cls c = 4) : Lx.sign c = true := by
  unfold Lx.cls at h
  repeat' (split at h)
  all_goals first | assumption | (exfalso; omega)
theorem Lx.sign_not : ∀ c ∈ Lx.signs, Lx.cls c = 4 := by decide
theorem Lx.cls_sign (c : UInt8) : decide (Lx.cls c = 4) = Lx.sign c := by
  cases hs : Lx.sign c
  · exact decide_eq_false fun h => by rw [Lx.sign_cls c h] at hs; cases hs
  · exact decide_eq_true (Lx.sign_not c (by simpa [Lx.sign] using hs))

theorem Lx.valid_one (s : ByteArray) (n p : Int) : Lx.valid ⟨1, s.data.toList, n, p⟩ = (Lx.isName s.data.toList && (n == 0)) := rfl
theorem Lx.valid_two (s : ByteArray) (n p : Int) : Lx.valid ⟨2, s.data.toList, n, p⟩ = (s.data.toList.isEmpty && decide (0 ≤ n) && decide (n ≤ 1099511627776)) := rfl
theorem Lx.valid_three (s : ByteArray) (n p : Int) (h : s.size = 1) : Lx.valid ⟨3, s.data.toList, n, p⟩ = (Lx.sign s[0] && (n == 0)) := by
  rw [Lx.one_of s h]; rfl
theorem Lx.valid_three' (s : ByteArray) (n p : Int) (h : s.size ≠ 1) : Lx.valid ⟨3, s.data.toList, n, p⟩ = false := by
  have h1 := Lx.ba_len s
  match hs : s.data.toList, h1 with
  | [c], h1 => simp at h1; omega
  | [], h1 => rfl
  | _ :: _ :: _, h1 => rfl
theorem Lx.valid_other (k : Int) (s : List UInt8) (n p : Int) (h1 : k ≠ 1) (h2 : k ≠ 2) (h3 : k ≠ 3) : Lx.valid ⟨k, s, n, p⟩ = false := by
  simp [Lx.valid, h1, h2, h3]

set_option maxHeartbeats 800000 in
theorem lValid (k n p : Int) (s : ByteArray) (w : World) (hs : s.size ≤ maxLen) :
    Calls Tryd.prog 50 #[.agg #[.int .i64 k, .string s, .int .i64 n, .int .i64 p]] w fun e w' => e = .returned (.bool (Lx.valid ⟨k, s.data.toList, n, p⟩)) ∧ Below w.heap.size w w' := by
  by_cases k1 : k = 1
  · subst k1
    rw [Lx.valid_one]
    cases hn : Lx.isName s.data.toList
    all_goals
      go_enter Tryd.func50, Tryd.ntmps50
      go_wp2_with (go_at_call 16; refine (lName _ _ hs).mono ?_; rintro e w' ⟨rfl, rfl⟩)
      go_ret
      exact ⟨ret_bool (by simp), (Below.refl _ _).alloc (Nat.le_refl _) _⟩
  by_cases k2 : k = 2
  · subst k2
    rw [Lx.valid_two, ← ByteArray.toList_eq]
    cases hn : s.toList.isEmpty
    · go_enter Tryd.func50, Tryd.ntmps50
      go_wp2_with fail
      go_ret
      exact ⟨ret_bool (by simp), (Below.refl _ _).alloc (Nat.le_refl _) _⟩
    · have hn' : s.toList = [] := by simpa using hn
      by_cases n0 : 0 ≤ n
      all_goals
        go_enter Tryd.func50, Tryd.ntmps50
        go_wp2_with fail
        go_ret
        exact ⟨ret_bool (by simp <;> omega), (Below.refl _ _).alloc (Nat.le_refl _) _⟩
  by_cases k3 : k = 3
  · subst k3
    by_cases h1 : s.size = 1
    · rw [Lx.valid_three s n p h1, ← Lx.cls_sign]
      have h1' : (s.size : Int) = 1 := by omega
      have h0 : 0 < s.size := by omega
      by_cases hc : Lx.cls s[0] = 4
      all_goals
        go_enter Tryd.func50, Tryd.ntmps50
        go_wp2_with (go_at_call 33; refine (lClass _ _).mono ?_; rintro e w' ⟨rfl, rfl⟩)
        go_ret
        exact ⟨ret_bool (by simp [hc]), (Below.refl _ _).alloc (Nat.le_refl _) _⟩
    · rw [Lx.valid_three' s n p h1]
      have h1' : ((s.size : Int) == 1) = false := beq_eq_false_iff_ne.2 (by omega)
      go_enter Tryd.func50, Tryd.ntmps50
      go_wp2_with fail
      go_ret
      exact ⟨ret_bool (by simp), (Below.refl _ _).alloc (Nat.le_refl _) _⟩
  rw [Lx.valid_other k _ n p k1 k2 k3]
  have k1' : (k == 1) = false := beq_eq_false_iff_ne.2 k1
  have k2' : (k == 2) = false := beq_eq_false_iff_ne.2 k2
  have k3' : (k == 3) = false := beq_eq_false_iff_ne.2 k3
  go_enter Tryd.func50, Tryd.ntmps50
  go_wp2_with fail
  go_ret
  exact ⟨rfl, (Below.refl _ _).alloc (Nat.le_refl _) _⟩
end Go.Proofs.YtjonaidancomgaaDoor

namespace Go.Proofs.YtjonaidancomgaaDoor
open Go.RowKit
open Lx (Tok)

/-- Byte strings as the model has them. -/
def Lx.bs (l : List UInt8) : ByteArray := ⟨l.toArray⟩
theorem Lx.bs_size (l : List UInt8) : (Lx.bs l).size = l.length := by rw [← Lx.ba_len]; simp [Lx.bs]
theorem Lx.bs_list (l : List UInt8) : (Lx.bs l).data.toList = l := by simp [Lx.bs]
theorem Lx.bs_of (s : ByteArray) : Lx.bs s.data.toList = s := by cases s; simp [Lx.bs]
theorem Lx.bs_of' {s : ByteArray} {l : List UInt8} (h : s.data.toList = l) : s = Lx.bs l := by rw [← h, Lx.bs_of]

/-- Cell b, o and the three behind it hold a token. -/
structure TokAt (w : World) (b o : Nat) (t : Tok) : Prop where
  kind : w.cell? ⟨b, o, none⟩ = some (.int .i64 t.kind)
  text : w.cell? ⟨b, o + 1, none⟩ = some (.string (Lx.bs t.text))
  n : w.cell? ⟨b, o + 2, none⟩ = some (.int .i64 t.n)
  pos : w.cell? ⟨b, o + 3, none⟩ = some (.int .i64 t.pos)

/-- A slice's address, below block B, from which on the tokens of l lie. -/
structure Toks (w : World) (B : Nat) (A : Option Addr) (l : List Tok) : Prop where
  at_ : ∀ k t, l[k]? = some t → ∃ b o, A = some ⟨b, o, none⟩ ∧ b < B ∧ TokAt w b (o + k * 4) t
  len : l.length ≤ 3518437208883
  texts : ∀ t ∈ l, t.text.length ≤ 140737488351232

theorem TokAt.cells {w w' : World} {b o : Nat} {t : Tok} (h : TokAt w b o t) (hc : ∀ i, w'.cell? ⟨b, i, none⟩ = w.cell? ⟨b, i, none⟩) : TokAt w' b o t :=
  ⟨(hc _).trans h.kind, (hc _).trans h.text, (hc _).trans h.n, (hc _).trans h.pos⟩
theorem Toks.below {w w' : World} {B B' : Nat} {A : Option Addr} {l : List Tok} (h : Toks w B A l) (hb : Below B' w w') (hB : B ≤ B') : Toks w' B A l :=
  ⟨fun k t ht => by
    obtain ⟨b, o, e, hlt, h4⟩ := h.at_ k t ht
    exact ⟨b, o, e, hlt, h4.cells fun i => hb.cell (p := ⟨b, i, none⟩) (show b < B' by omega)⟩, h.len, h.texts⟩
theorem Toks.mono {w : World} {B B' : Nat} {A : Option Addr} {l : List Tok} (h : Toks w B A l) (hB : B ≤ B') : Toks w B' A l :=
  ⟨fun k t ht => by
    obtain ⟨b, o, e, hlt, h4⟩ := h.at_ k t ht
    exact ⟨b, o, e, by omega, h4⟩, h.len, h.texts⟩
theorem Toks.drewN {w : World} {B : Nat} {A : Option Addr} {l : List Tok} (h : Toks w B A l) (n : Nat) : Toks (w.drewN n) B A l := ⟨fun k t ht => by
    obtain ⟨b, o, e, hlt, h4⟩ := h.at_ k t ht
    exact ⟨b, o, e, by omega, ⟨h4.kind, h4.text, h4.n, h4.pos⟩⟩, h.len, h.texts⟩
theorem Toks.nil (w : World) (B : Nat) (A : Option Addr) : Toks w B A [] := ⟨fun k t h => by simp at h, by simp, fun t h => by simp at h⟩

/-- Few tokens, as the reference counts (its sum may wrap). -/
def Lx.fs (l : List Tok) : Int := l.foldl (fun n t => wrap64 (n + (t.text.length : Int))) 0
def Lx.few (l : List Tok) : Bool := decide ((l.length : Int) ≤ 200) && decide (Lx.fs l ≤ 2000)
theorem Lx.fs_snoc (l : List Tok) (k : Nat) (t : Tok) (h : l[k]? = some t) : Lx.fs (l.take (k + 1)) = wrap64 (Lx.fs (l.take k) + (t.text.length : Int)) := by
  unfold Lx.fs
  rw [List.take_add_one, h]
  simp [List.foldl_append]

theorem Lx.same1_iff (a b : Tok) : Lx.same1 a b = (a.kind == b.kind && a.text == b.text && a.n == b.n) := rfl
theorem Lx.same_len (a b : List Tok) (h : Lx.same a b = true) : a.length = b.length := by
  induction a generalizing b with
  | nil => cases b <;> simp_all [Lx.same]
  | cons x r ih =>
    cases b with
    | nil => simp [Lx.same] at h
    | cons y s => simp only [Lx.same, Bool.and_eq_true] at h; simp [ih s h.2]
theorem Lx.same_ne (a b : List Tok) (h : a.length ≠ b.length) : Lx.same a b = false := by
  cases hs : Lx.same a b
  · rfl
  · exact absurd (Lx.same_len a b hs) h
theorem Lx.same_bad (a b : List Tok) (k : Nat) (x y : Tok) (hx : a[k]? = some x) (hy : b[k]? = some y) (h : Lx.same1 x y = false) : Lx.same a b = false := by
  induction a generalizing b k with
  | nil => simp at hx
  | cons u r ih =>
    cases b with
    | nil => simp at hy
    | cons v s =>
      cases k with
      | zero => simp at hx hy; subst hx; subst hy; simp [Lx.same, h]
      | succ k => simp only [List.getElem?_cons_succ] at hx hy; simp [Lx.same, ih s k hx hy]
theorem Lx.same_all (a b : List Tok) (hl : a.length = b.length) (h : ∀ (k : Nat) (x y : Tok), a[k]? = some x → b[k]? = some y → Lx.same1 x y = true) : Lx.same a b = true := by
  induction a generalizing b with
  | nil => cases b <;> simp_all [Lx.same]
  | cons u r ih =>
    cases b with
    | nil => simp at hl
    | cons v s =>
      simp only [Lx.same, Bool.and_eq_true]
      exact ⟨h 0 u v rfl rfl, ih s (by simpa using hl) fun k x y hx hy => h (k + 1) x y (by simpa using hx) (by simpa using hy)⟩
theorem Lx.bs_beq (a b : List UInt8) : ((Lx.bs a).toList == (Lx.bs b).toList) = (a == b) := by
  rw [ByteArray.toList_eq, ByteArray.toList_eq, Lx.bs_list, Lx.bs_list]

theorem Lx.eq_not_same (a b : List Tok) (h : Lx.same a b = false) : decide (a = b) = false := by
  refine decide_eq_false fun e => ?_
  subst e
  have : Lx.same a a = true := Lx.same_all a a rfl fun k x y hx hy => by
    rw [hx] at hy; obtain rfl := Option.some.inj hy; simp [Lx.same1]
  rw [this] at h; cases h

theorem Lx.eq_of_same : ∀ (a b : List Tok), Lx.same a b = true → (∀ (j : Nat) (x y : Tok), a[j]? = some x → b[j]? = some y → x.pos = y.pos) → a = b
  | [], [], _, _ => rfl
  | [], _ :: _, h, _ => by simp [Lx.same] at h
  | _ :: _, [], h, _ => by simp [Lx.same] at h
  | x :: r, y :: s, h, hp => by
    simp only [Lx.same, Bool.and_eq_true, Lx.same1, beq_iff_eq] at h
    have h0 := hp 0 x y rfl rfl
    have hr := Lx.eq_of_same r s h.2 fun j u v hu hv => hp (j + 1) u v (by simpa using hu) (by simpa using hv)
    obtain ⟨⟨⟨h1, h2⟩, h3⟩, _⟩ := h
    subst hr
    cases x; cases y; simp_all

end Go.Proofs.YtjonaidancomgaaDoor

namespace Go.Proofs.YtjonaidancomgaaDoor
open Go.RowKit
open Lx (Tok)

/-- How many bytes at the head of a list are of some classes. -/
def Lx.runLen (zs : List Int) (l : List UInt8) : Nat := (l.takeWhile fun c => zs.contains (Lx.cls c)).length
theorem Lx.tw_len (p : UInt8 → Bool) : ∀ (l : List UInt8) (k : Nat), k ≤ l.length → (∀ j (h : j < l.length), j < k → p l[j] = true) → (∀ h : k < l.length, p l[k] = false) → (l.takeWhile p).length = k
  | [], k, hk, _, _ => by simp at hk; simp [hk]
  | c :: r, 0, _, _, h => by
    have h0 : p c = false := h (by simp)
    simp [h0]
  | c :: r, k + 1, hk, ha, h => by
    have h0 : p c = true := ha 0 (by simp) (by omega)
    simp only [List.takeWhile_cons, h0, if_true, List.length_cons]
    rw [Lx.tw_len p r k (by simpa using hk) (fun j hj hjk => ha (j + 1) (by simpa using hj) (by omega)) (fun hh => h (by simpa using hh))]
theorem Lx.run_end (zs : List Int) (s : ByteArray) (a n : Nat) (han : a ≤ n) (hn : n ≤ s.size) (h1 : ∀ j (h : j < s.size), a ≤ j → j < n → zs.contains (Lx.cls s[j]) = true) (h2 : ∀ h : n < s.size, zs.contains (Lx.cls s[n]) = false) :
    a + Lx.runLen zs (s.data.toList.drop a) = n := by
  unfold Lx.runLen
  have hl := Lx.ba_len s
  rw [Lx.tw_len _ _ (n - a) (by rw [List.length_drop]; omega)]
  · omega
  · intro j hj hjn
    rw [List.length_drop] at hj
    rw [List.getElem_drop]
    exact h1 (a + j) (by omega) (by omega) (by omega)
  · intro hj
    rw [List.length_drop] at hj
    rw [List.getElem_drop]
    have := h2 (by omega)
    simp only [show a + (n - a) = n by omega]
    exact this

set_option maxHeartbeats 800000 in
theorem lRun (g bz a c : Nat) (src : ByteArray) (zs : List Int) (w : World) (hg0 : w.cell? ⟨g, 0, none⟩ = some (.string src)) (hg1 : w.cell? ⟨g, 1, none⟩ = some (.int .i64 a))
    (hz : ∀ j, j < zs.length → w.cell? ⟨bz, 0 + j, none⟩ = some (.int .i64 (zs.getD j 0))) (hzl : zs.length ≤ 100) (ha : a ≤ src.size) (hs : src.size ≤ 65536) :
    Calls Tryd.prog 54 #[.pointer (some ⟨g, 0, none⟩), .slice (some ⟨bz, 0, none⟩) zs.length c] w fun e w' =>
      e = .returned (.string (src.extract a (a + Lx.runLen zs (src.data.toList.drop a)))) ∧ ∃ n, w' = w.drewN n := by
  have Hz := Lib.hid hz; clear hz
  go_enter Tryd.func54, Tryd.ntmps54
  go_wp2
  go_loop [5] (fun i => ∃ n : Nat, n ≤ src.size ∧ i = .int .i64 n ∧ a ≤ n ∧ ∀ j (h : j < src.size), a ≤ j → j < n → zs.contains (Lx.cls src[j]) = true) (fun i => src.size - (intOf i).toNat)
  case atStart => exact ⟨a, by omega, rfl, by omega, fun j h1 h2 h3 => absurd h2 (by omega)⟩
  case round =>
    obtain ⟨n, hn, rfl, han, hh⟩ := hrel
    have Hh := Lib.hid hh; clear hh
    by_cases hlt : n < src.size
    · have hcon := cContainsInt bz 0 zs.length c zs (Lx.cls src[n]) w (Nat.le_refl _) (by omega) Hz.out
      rw [List.take_length] at hcon
      have Hcon := Lib.hid hcon; clear hcon
      cases hc : zs.contains (Lx.cls src[n])
      · rw [hc] at Hcon
        go_wp2_with (first | (go_at_call 33; refine (lClass _ _).mono ?_; rintro e w' ⟨rfl, rfl⟩) | (go_at_call 65; refine (Hcon.out).mono ?_; rintro e w' ⟨rfl, rfl⟩))
        go_quiet (fail)
        go_wp2
        go_ret
        exact ⟨congrArg Ending.returned (congrArg Value.string (by rw [Lx.run_end zs src a n han hn Hh.out fun _ => hc])), _, rfl⟩
      · rw [hc] at Hcon
        go_wp2_with (first | (go_at_call 33; refine (lClass _ _).mono ?_; rintro e w' ⟨rfl, rfl⟩) | (go_at_call 65; refine (Hcon.out).mono ?_; rintro e w' ⟨rfl, rfl⟩))
        go_round
        case rel =>
          refine ⟨n + 1, by omega, by go_num, by omega, fun j hj haj hjn => ?_⟩
          rcases Nat.lt_or_ge j n with h | h
          · exact Hh.out j hj haj h
          · obtain rfl : j = n := by omega
            exact hc
        case measure => simp [intOf]; omega
    · go_wp2
      go_quiet (fail)
      go_wp2
      go_ret
      exact ⟨congrArg Ending.returned (congrArg Value.string (by rw [Lx.run_end zs src a n han hn Hh.out fun h => absurd h hlt])), _, rfl⟩
end Go.Proofs.YtjonaidancomgaaDoor
