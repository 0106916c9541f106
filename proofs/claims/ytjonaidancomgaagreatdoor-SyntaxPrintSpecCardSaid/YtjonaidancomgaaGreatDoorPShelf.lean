/- Parts of the proof, joined into one text: Shelf, q1d, q1e, LxA, LxB, LxC, LxD. -/
import Derived.Shelf.Strings.Builder1
import Derived.Shelf.Strings.Builder2
import Derived.Shelf.Strings.OnBuilder
import Derived.Shelf.Small.Strs
import Derived.Shelf.Strconv.Atoi
import Derived.Shelf.Strconv.Itoa0
import Derived.Shelf.Strconv.Itoa1
import Derived.Shelf.LaysM
import Derived.Shelf.Strconv.Itoa2
import Derived.Shelf.Strconv.Itoa3
import Derived.Shelf.Strconv.AtoiErrFast
import Derived.Shelf.Strconv.ParseIntEmpty
import Derived.Shelf.Strconv.AtoiFail
import Derived.Shelf.Strconv.Clone
import Derived.Shelf.Strconv.SyntaxError
import Derived.Shelf.LaysC
import Derived.Shelf.Strconv.ToError
import Derived.Shelf.Strconv.Lower
import Derived.Shelf.Strconv.ParseUint10
import Derived.Shelf.Strconv.ParseUint10Empty
import Derived.Shelf.Strconv.ParseUint10Any
import Derived.Shelf.Strconv.ParseInt10
import Derived.Shelf.Strconv.AtoiLong
import Derived.Shelf.Strconv.AtoiInnerAll
import Derived.Shelf.Strconv.RangeError
import Derived.Shelf.Strconv.ToErrorRange
import Derived.Shelf.Strconv.AtoiAll
import Derived.Shelf.Strconv.ErrVarAll
import Derived.Shelf.Strings.Search1
import Derived.Shelf.Strings.Prefix
import Derived.Shelf.Slices.Turned
import Derived.Shelf.Slices.Equal
import Derived.Shelf.Slices.Empties2
import Derived.Test.YtjonaidancomgaaGreatDoorProg
import Derived.Test.YtjonaidancomgaaGreatDoorRows
import Derived.Test.YtjonaidancomgaaGreatDoorPLxPlain
import Derived.WalkKit
import Derived.WalkSpells
import Derived.WalkLawsBesides
import Derived.Lib.LaidTab
import Derived.BigQuiet
import Derived.Deep.QuietTactic
set_option maxHeartbeats 800000
namespace Go.Proofs
open Go.Shelf
def Tryz.lays156_ren:Go.Shelf.Ren:=⟨fun | 156=>133 | 165=>189 | 166=>190 | 169=>191 | 240=>213 | 241=>214 | 276=>228 | 277=>229 | n=>n,fun | 31=>105 | 9=>9 | 3=>3 | 4=>4 | 0=>0 | 20=>20 | 72=>223 | 76=>205 | 70=>220 | 37=>221 | 75=>204 | 127=>240 | 164=>254 | 5=>5 | 80=>208 | n=>n,fun | n=>n⟩
theorem Tryz.lays156:Go.Proofs.Lays.n156 Tryz.prog Tryz.lays156_ren:={
 mixed:=by kernel_rfl
 f156:=Tryz.func133.trans (congrArg some (by kernel_rfl))
 f165:=Tryz.func189.trans (congrArg some (by kernel_rfl))
 f166:=Tryz.func190.trans (congrArg some (by kernel_rfl))
 f169:=Tryz.func191.trans (congrArg some (by kernel_rfl))
 f240:=Tryz.func213.trans (congrArg some (by kernel_rfl))
 f241:=Tryz.func214.trans (congrArg some (by kernel_rfl))
 f276:=Tryz.func228.trans (congrArg some (by kernel_rfl))
 f277:=Tryz.func229.trans (congrArg some (by kernel_rfl))
 t0:=Tryz.underlying0
 a0:=Tryz.isAgg0
 z0:=Tryz.sizeOf0
 v0:=Tryz.zeroValue0
 t3:=Tryz.underlying3
 a3:=Tryz.isAgg3
 z3:=Tryz.sizeOf3
 v3:=Tryz.zeroValue3
 t4:=Tryz.underlying4
 a4:=Tryz.isAgg4
 z4:=Tryz.sizeOf4
 v4:=Tryz.zeroValue4
 t9:=Tryz.underlying9
 a9:=Tryz.isAgg9
 z9:=Tryz.sizeOf9
 v9:=Tryz.zeroValue9
 t20:=Tryz.underlying20
 a20:=Tryz.isAgg20
 z20:=Tryz.sizeOf20
 v20:=Tryz.zeroValue20
 t31:=Tryz.underlying105
 a31:=Tryz.isAgg105
 z31:=Tryz.sizeOf105
 v31:=Tryz.zeroValue105
 t37:=Tryz.underlying221
 a37:=Tryz.isAgg221
 z37:=Tryz.sizeOf221
 v37:=Tryz.zeroValue221
 t70:=Tryz.underlying220
 a70:=Tryz.isAgg220
 z70:=Tryz.sizeOf220
 v70:=Tryz.zeroValue220
 t72:=Tryz.underlying223
 a72:=Tryz.isAgg223
 z72:=Tryz.sizeOf223
 v72:=Tryz.zeroValue223
 t75:=Tryz.underlying204
 a75:=Tryz.isAgg204
 z75:=Tryz.sizeOf204
 v75:=Tryz.zeroValue204
 t76:=Tryz.underlying205
 a76:=Tryz.isAgg205
 z76:=Tryz.sizeOf205
 v76:=Tryz.zeroValue205
 t127:=Tryz.underlying240
 a127:=Tryz.isAgg240
 z127:=Tryz.sizeOf240
 v127:=Tryz.zeroValue240
 t164:=Tryz.underlying254
 a164:=Tryz.isAgg254
 z164:=Tryz.sizeOf254
 v164:=Tryz.zeroValue254 }
theorem Tryz.Builder_Extra_156:Builder.Extra Tryz.prog Tryz.lays156_ren:={
 sizeBuilder:=by kernel_rfl
 liesBuilder:=by kernel_rfl
 t5:=Tryz.underlying5
 a5:=Tryz.isAgg5
 z5:=Tryz.sizeOf5
 v5:=Tryz.zeroValue5
 infoByte:=by kernel_rfl
 cellsByte:=by kernel_rfl
 sizeByte:=by kernel_rfl
 neB5:=by decide }
def Tryz.lays137_ren:Go.Shelf.Ren:=⟨fun | 137=>156 | 217=>199 | 266=>221 | n=>n,fun | 9=>9 | 5=>5 | 3=>3 | n=>n,fun | n=>n⟩
theorem Tryz.lays137:Go.Proofs.Lays.n137 Tryz.prog Tryz.lays137_ren:={
 mixed:=by kernel_rfl
 f137:=Tryz.func156.trans (congrArg some (by kernel_rfl))
 f217:=Tryz.func199.trans (congrArg some (by kernel_rfl))
 f266:=Tryz.func221.trans (congrArg some (by kernel_rfl))
 t3:=Tryz.underlying3
 a3:=Tryz.isAgg3
 z3:=Tryz.sizeOf3
 v3:=Tryz.zeroValue3
 t5:=Tryz.underlying5
 a5:=Tryz.isAgg5
 z5:=Tryz.sizeOf5
 v5:=Tryz.zeroValue5
 t9:=Tryz.underlying9
 a9:=Tryz.isAgg9
 z9:=Tryz.sizeOf9
 v9:=Tryz.zeroValue9 }
def Tryz.laysM171_ren:Go.Shelf.Ren:=⟨fun | 171=>132 | 243=>188 | 246=>212 | 283=>224 | 284=>225 | 285=>226 | 286=>227 | 129=>234 | 317=>233 | 318=>235 | 319=>236 | 320=>237 | 337=>240 | 338=>241 | n=>n,fun | 3=>3 | 9=>9 | 2=>2 | 4=>4 | 171=>249 | 0=>0 | 53=>229 | 37=>221 | 5=>5 | 173=>252 | 212=>266 | 51=>267 | 20=>20 | 213=>268 | 46=>259 | 232=>276 | 233=>277 | n=>n,fun | 17=>8 | 18=>9 | 19=>10 | n=>n⟩
theorem Tryz.laysM171:Go.Proofs.LaysM.n171 Tryz.prog Tryz.laysM171_ren:={
 mixed:=by kernel_rfl
 f129:=Tryz.func234.trans (congrArg some (by kernel_rfl))
 f171:=Tryz.func132.trans (congrArg some (by kernel_rfl))
 f243:=Tryz.func188.trans (congrArg some (by kernel_rfl))
 f246:=Tryz.func212.trans (congrArg some (by kernel_rfl))
 f283:=Tryz.func224.trans (congrArg some (by kernel_rfl))
 f284:=Tryz.func225.trans (congrArg some (by kernel_rfl))
 f285:=Tryz.func226.trans (congrArg some (by kernel_rfl))
 f286:=Tryz.func227.trans (congrArg some (by kernel_rfl))
 f317:=Tryz.func233.trans (congrArg some (by kernel_rfl))
 f318:=Tryz.func235.trans (congrArg some (by kernel_rfl))
 f319:=Tryz.func236.trans (congrArg some (by kernel_rfl))
 f320:=Tryz.func237.trans (congrArg some (by kernel_rfl))
 f337:=Tryz.func240.trans (congrArg some (by kernel_rfl))
 f338:=Tryz.func241.trans (congrArg some (by kernel_rfl))
 t0:=Tryz.underlying0
 a0:=Tryz.isAgg0
 z0:=Tryz.sizeOf0
 v0:=Tryz.zeroValue0
 t2:=Tryz.underlying2
 a2:=Tryz.isAgg2
 z2:=Tryz.sizeOf2
 v2:=Tryz.zeroValue2
 t3:=Tryz.underlying3
 a3:=Tryz.isAgg3
 z3:=Tryz.sizeOf3
 v3:=Tryz.zeroValue3
 t4:=Tryz.underlying4
 a4:=Tryz.isAgg4
 z4:=Tryz.sizeOf4
 v4:=Tryz.zeroValue4
 t5:=Tryz.underlying5
 a5:=Tryz.isAgg5
 z5:=Tryz.sizeOf5
 v5:=Tryz.zeroValue5
 t9:=Tryz.underlying9
 a9:=Tryz.isAgg9
 z9:=Tryz.sizeOf9
 v9:=Tryz.zeroValue9
 t20:=Tryz.underlying20
 a20:=Tryz.isAgg20
 z20:=Tryz.sizeOf20
 v20:=Tryz.zeroValue20
 t37:=Tryz.underlying221
 a37:=Tryz.isAgg221
 z37:=Tryz.sizeOf221
 v37:=Tryz.zeroValue221
 t46:=Tryz.underlying259
 a46:=Tryz.isAgg259
 z46:=Tryz.sizeOf259
 v46:=Tryz.zeroValue259
 t51:=Tryz.underlying267
 a51:=Tryz.isAgg267
 z51:=Tryz.sizeOf267
 v51:=Tryz.zeroValue267
 t53:=Tryz.underlying229
 a53:=Tryz.isAgg229
 z53:=Tryz.sizeOf229
 v53:=Tryz.zeroValue229
 t171:=Tryz.underlying249
 a171:=Tryz.isAgg249
 z171:=Tryz.sizeOf249
 v171:=Tryz.zeroValue249
 t173:=Tryz.underlying252
 a173:=Tryz.isAgg252
 z173:=Tryz.sizeOf252
 v173:=Tryz.zeroValue252
 t212:=Tryz.underlying266
 a212:=Tryz.isAgg266
 z212:=Tryz.sizeOf266
 v212:=Tryz.zeroValue266
 t213:=Tryz.underlying268
 a213:=Tryz.isAgg268
 z213:=Tryz.sizeOf268
 t232:=Tryz.underlying276
 a232:=Tryz.isAgg276
 z232:=Tryz.sizeOf276
 v232:=Tryz.zeroValue276
 t233:=Tryz.underlying277
 a233:=Tryz.isAgg277
 z233:=Tryz.sizeOf277
 v233:=Tryz.zeroValue277
 g17:=by kernel_rfl
 g18:=by kernel_rfl
 g19:=by kernel_rfl
 i0:=by kernel_rfl
 i2:=by kernel_rfl
 i3:=by kernel_rfl
 i4:=by kernel_rfl
 i5:=by kernel_rfl
 i9:=by kernel_rfl
 i20:=by kernel_rfl
 i37:=by kernel_rfl
 i46:=by kernel_rfl
 i51:=by kernel_rfl
 i53:=by kernel_rfl
 i171:=by kernel_rfl
 i173:=by kernel_rfl
 i212:=by kernel_rfl
 i232:=by kernel_rfl
 i233:=by kernel_rfl
 m17:=by kernel_rfl
 m18:=by kernel_rfl
 m19:=by kernel_rfl }
def Tryz.laysC172_ren:Go.Shelf.Ren:=⟨fun | 172=>154 | 244=>196 | 245=>197 | 247=>216 | 279=>217 | 280=>218 | 281=>219 | 282=>220 | 287=>230 | 316=>231 | 171=>132 | 205=>232 | 321=>238 | 322=>239 | 243=>188 | 246=>212 | 283=>224 | 284=>225 | 285=>226 | 286=>227 | 129=>234 | 317=>233 | 318=>235 | 319=>236 | 320=>237 | 337=>240 | 338=>241 | n=>n,fun | 9=>9 | 3=>3 | 75=>204 | 76=>205 | 4=>4 | 5=>5 | 167=>242 | 37=>221 | 0=>0 | 85=>243 | 2=>2 | 168=>245 | 53=>229 | 175=>257 | 46=>259 | 210=>262 | 127=>240 | 145=>274 | 143=>272 | 21=>21 | 171=>249 | 173=>252 | 212=>266 | 51=>267 | 20=>20 | 213=>268 | 232=>276 | 233=>277 | 80=>208 | n=>n,fun | 15=>5 | 16=>6 | 17=>8 | 18=>9 | 19=>10 | n=>n⟩
theorem Tryz.laysC172:Go.Proofs.LaysC.n172 Tryz.prog Tryz.laysC172_ren:={
 mixed:=by kernel_rfl
 f129:=Tryz.func234.trans (congrArg some (by kernel_rfl))
 f171:=Tryz.func132.trans (congrArg some (by kernel_rfl))
 f172:=Tryz.func154.trans (congrArg some (by kernel_rfl))
 f205:=Tryz.func232.trans (congrArg some (by kernel_rfl))
 f243:=Tryz.func188.trans (congrArg some (by kernel_rfl))
 f244:=Tryz.func196.trans (congrArg some (by kernel_rfl))
 f245:=Tryz.func197.trans (congrArg some (by kernel_rfl))
 f246:=Tryz.func212.trans (congrArg some (by kernel_rfl))
 f247:=Tryz.func216.trans (congrArg some (by kernel_rfl))
 f279:=Tryz.func217.trans (congrArg some (by kernel_rfl))
 f280:=Tryz.func218.trans (congrArg some (by kernel_rfl))
 f281:=Tryz.func219.trans (congrArg some (by kernel_rfl))
 f282:=Tryz.func220.trans (congrArg some (by kernel_rfl))
 f283:=Tryz.func224.trans (congrArg some (by kernel_rfl))
 f284:=Tryz.func225.trans (congrArg some (by kernel_rfl))
 f285:=Tryz.func226.trans (congrArg some (by kernel_rfl))
 f286:=Tryz.func227.trans (congrArg some (by kernel_rfl))
 f287:=Tryz.func230.trans (congrArg some (by kernel_rfl))
 f316:=Tryz.func231.trans (congrArg some (by kernel_rfl))
 f317:=Tryz.func233.trans (congrArg some (by kernel_rfl))
 f318:=Tryz.func235.trans (congrArg some (by kernel_rfl))
 f319:=Tryz.func236.trans (congrArg some (by kernel_rfl))
 f320:=Tryz.func237.trans (congrArg some (by kernel_rfl))
 f321:=Tryz.func238.trans (congrArg some (by kernel_rfl))
 f322:=Tryz.func239.trans (congrArg some (by kernel_rfl))
 f337:=Tryz.func240.trans (congrArg some (by kernel_rfl))
 f338:=Tryz.func241.trans (congrArg some (by kernel_rfl))
 t0:=Tryz.underlying0
 a0:=Tryz.isAgg0
 z0:=Tryz.sizeOf0
 v0:=Tryz.zeroValue0
 t2:=Tryz.underlying2
 a2:=Tryz.isAgg2
 z2:=Tryz.sizeOf2
 v2:=Tryz.zeroValue2
 t3:=Tryz.underlying3
 a3:=Tryz.isAgg3
 z3:=Tryz.sizeOf3
 v3:=Tryz.zeroValue3
 t4:=Tryz.underlying4
 a4:=Tryz.isAgg4
 z4:=Tryz.sizeOf4
 v4:=Tryz.zeroValue4
 t5:=Tryz.underlying5
 a5:=Tryz.isAgg5
 z5:=Tryz.sizeOf5
 v5:=Tryz.zeroValue5
 t9:=Tryz.underlying9
 a9:=Tryz.isAgg9
 z9:=Tryz.sizeOf9
 v9:=Tryz.zeroValue9
 t20:=Tryz.underlying20
 a20:=Tryz.isAgg20
 z20:=Tryz.sizeOf20
 v20:=Tryz.zeroValue20
 t21:=Tryz.underlying21
 a21:=Tryz.isAgg21
 z21:=Tryz.sizeOf21
 v21:=Tryz.zeroValue21
 t37:=Tryz.underlying221
 a37:=Tryz.isAgg221
 z37:=Tryz.sizeOf221
 v37:=Tryz.zeroValue221
 t46:=Tryz.underlying259
 a46:=Tryz.isAgg259
 z46:=Tryz.sizeOf259
 v46:=Tryz.zeroValue259
 t51:=Tryz.underlying267
 a51:=Tryz.isAgg267
 z51:=Tryz.sizeOf267
 v51:=Tryz.zeroValue267
 t53:=Tryz.underlying229
 a53:=Tryz.isAgg229
 z53:=Tryz.sizeOf229
 v53:=Tryz.zeroValue229
 t75:=Tryz.underlying204
 a75:=Tryz.isAgg204
 z75:=Tryz.sizeOf204
 v75:=Tryz.zeroValue204
 t76:=Tryz.underlying205
 a76:=Tryz.isAgg205
 z76:=Tryz.sizeOf205
 v76:=Tryz.zeroValue205
 t85:=Tryz.underlying243
 a85:=Tryz.isAgg243
 z85:=Tryz.sizeOf243
 v85:=Tryz.zeroValue243
 t127:=Tryz.underlying240
 a127:=Tryz.isAgg240
 z127:=Tryz.sizeOf240
 v127:=Tryz.zeroValue240
 t143:=Tryz.underlying272
 a143:=Tryz.isAgg272
 z143:=Tryz.sizeOf272
 v143:=Tryz.zeroValue272
 t145:=Tryz.underlying274
 a145:=Tryz.isAgg274
 z145:=Tryz.sizeOf274
 v145:=Tryz.zeroValue274
 t167:=Tryz.underlying242
 a167:=Tryz.isAgg242
 z167:=Tryz.sizeOf242
 v167:=Tryz.zeroValue242
 t168:=Tryz.underlying245
 a168:=Tryz.isAgg245
 z168:=Tryz.sizeOf245
 v168:=Tryz.zeroValue245
 t171:=Tryz.underlying249
 a171:=Tryz.isAgg249
 z171:=Tryz.sizeOf249
 v171:=Tryz.zeroValue249
 t173:=Tryz.underlying252
 a173:=Tryz.isAgg252
 z173:=Tryz.sizeOf252
 v173:=Tryz.zeroValue252
 t175:=Tryz.underlying257
 a175:=Tryz.isAgg257
 z175:=Tryz.sizeOf257
 v175:=Tryz.zeroValue257
 t210:=Tryz.underlying262
 a210:=Tryz.isAgg262
 z210:=Tryz.sizeOf262
 v210:=Tryz.zeroValue262
 t212:=Tryz.underlying266
 a212:=Tryz.isAgg266
 z212:=Tryz.sizeOf266
 v212:=Tryz.zeroValue266
 t213:=Tryz.underlying268
 a213:=Tryz.isAgg268
 z213:=Tryz.sizeOf268
 t232:=Tryz.underlying276
 a232:=Tryz.isAgg276
 z232:=Tryz.sizeOf276
 v232:=Tryz.zeroValue276
 t233:=Tryz.underlying277
 a233:=Tryz.isAgg277
 z233:=Tryz.sizeOf277
 v233:=Tryz.zeroValue277
 g15:=by kernel_rfl
 g16:=by kernel_rfl
 g17:=by kernel_rfl
 g18:=by kernel_rfl
 g19:=by kernel_rfl
 t80:=Tryz.underlying208
 a80:=Tryz.isAgg208
 z80:=Tryz.sizeOf208
 v80:=Tryz.zeroValue208
 i0:=by kernel_rfl
 i2:=by kernel_rfl
 i3:=by kernel_rfl
 i4:=by kernel_rfl
 i5:=by kernel_rfl
 i9:=by kernel_rfl
 i20:=by kernel_rfl
 i21:=by kernel_rfl
 i37:=by kernel_rfl
 i46:=by kernel_rfl
 i51:=by kernel_rfl
 i53:=by kernel_rfl
 i75:=by kernel_rfl
 i76:=by kernel_rfl
 i80:=by kernel_rfl
 i85:=by kernel_rfl
 i127:=by kernel_rfl
 i143:=by kernel_rfl
 i145:=by kernel_rfl
 i167:=by kernel_rfl
 i168:=by kernel_rfl
 i171:=by kernel_rfl
 i173:=by kernel_rfl
 i175:=by kernel_rfl
 i210:=by kernel_rfl
 i212:=by kernel_rfl
 i232:=by kernel_rfl
 i233:=by kernel_rfl
 m15:=by kernel_rfl
 m16:=by kernel_rfl
 m17:=by kernel_rfl
 m18:=by kernel_rfl
 m19:=by kernel_rfl
 c0:=by kernel_rfl
 c2:=by kernel_rfl
 c3:=by kernel_rfl
 c4:=by kernel_rfl
 c5:=by kernel_rfl
 c9:=by kernel_rfl
 c20:=by kernel_rfl
 c21:=by kernel_rfl
 c37:=by kernel_rfl
 c46:=by kernel_rfl
 c51:=by kernel_rfl
 c53:=by kernel_rfl
 c75:=by kernel_rfl
 c76:=by kernel_rfl
 c80:=by kernel_rfl
 c85:=by kernel_rfl
 c127:=by kernel_rfl
 c143:=by kernel_rfl
 c145:=by kernel_rfl
 c167:=by kernel_rfl
 c168:=by kernel_rfl
 c171:=by kernel_rfl
 c173:=by kernel_rfl
 c175:=by kernel_rfl
 c210:=by kernel_rfl
 c212:=by kernel_rfl
 c213:=by kernel_rfl
 c232:=by kernel_rfl
 c233:=by kernel_rfl }
def Tryz.lays99_ren:Go.Shelf.Ren:=⟨fun | 99=>155 | 206=>198 | n=>n,fun | 9=>9 | 4=>4 | 3=>3 | n=>n,fun | n=>n⟩
theorem Tryz.lays99:Go.Proofs.Lays.n99 Tryz.prog Tryz.lays99_ren:={
 mixed:=by kernel_rfl
 f99:=Tryz.func155.trans (congrArg some (by kernel_rfl))
 f206:=Tryz.func198.trans (congrArg some (by kernel_rfl))
 t3:=Tryz.underlying3
 a3:=Tryz.isAgg3
 z3:=Tryz.sizeOf3
 v3:=Tryz.zeroValue3
 t4:=Tryz.underlying4
 a4:=Tryz.isAgg4
 z4:=Tryz.sizeOf4
 v4:=Tryz.zeroValue4
 t9:=Tryz.underlying9
 a9:=Tryz.isAgg9
 z9:=Tryz.sizeOf9
 v9:=Tryz.zeroValue9 }
def Tryz.lays107_ren:Go.Shelf.Ren:=⟨fun | 107=>195 | 108=>215 | n=>n,fun | 28=>106 | 3=>3 | 4=>4 | 0=>0 | n=>n,fun | n=>n⟩
theorem Tryz.lays107:Go.Proofs.Lays.n107 Tryz.prog Tryz.lays107_ren:={
 mixed:=by kernel_rfl
 f107:=Tryz.func195.trans (congrArg some (by kernel_rfl))
 f108:=Tryz.func215.trans (congrArg some (by kernel_rfl))
 t0:=Tryz.underlying0
 a0:=Tryz.isAgg0
 z0:=Tryz.sizeOf0
 v0:=Tryz.zeroValue0
 t3:=Tryz.underlying3
 a3:=Tryz.isAgg3
 z3:=Tryz.sizeOf3
 v3:=Tryz.zeroValue3
 t4:=Tryz.underlying4
 a4:=Tryz.isAgg4
 z4:=Tryz.sizeOf4
 v4:=Tryz.zeroValue4
 t28:=Tryz.underlying106
 a28:=Tryz.isAgg106
 z28:=Tryz.sizeOf106
 v28:=Tryz.zeroValue106 }
end Go.Proofs
namespace Go.Proofs.YtjonaidancomgaaGreatDoor
open Go.RowKit
theorem Lh {p:Prop} (h:p):Hid p:=Lib.hid h
structure Env (w : World) : Prop where
 pow:∃ t fz,w.heap[(8:Nat)]?=some (.cells ((Lib.pow10Tab.map (Value.int .u64)).toArray) t fz)
 rng:∃ te pe,w.cell? ⟨6,0,none⟩=some (.iface te pe)
 size:10+1≤w.heap.size
theorem Env.below {B:Nat} {w w':World} (h:Env w) (hb:Below B w w') (hB:10+1≤B):Env w':=by
 obtain ⟨⟨t,fz,hp⟩,⟨te,pe,hr⟩,hs⟩:=h;refine ⟨⟨t,fz,(hb.block _ (by omega)).trans hp⟩,⟨te,pe,(hb.cell (p:=⟨6,0,none⟩) (show (6:Nat) < B by omega)).trans hr⟩,Nat.le_trans hs hb.size⟩
theorem Env.next {w w':World} (h:Env w) (hb:Below w.heap.size w w'):Env w':=h.below hb h.size
theorem Env.tab {w:World} (h:Env w) (name:String) (hn:Tryz.prog.globalNamed name=some 8):Lib.TabIs Tryz.prog w name .u64 Lib.pow10Tab:=by
 obtain ⟨t,fz,hp⟩:=h.pow;unfold Lib.TabIs World.var?;rw[hn];simp only[Option.bind_some,hp]
theorem below_grow (w:World) (k:Nat) (os:Array Obj):Below w.heap.size w (Go.Sort.grow (w.drewN k) os):=
 ⟨rfl,rfl,rfl,by simp [Go.Sort.grow,World.drewN],fun i hi=>by
  show (w.heap++os)[i]?=_;rw[Array.getElem?_append,if_pos hi]⟩
theorem O6 (n:Int) (h0:-9223372036854775808≤n) (h1:n≤9223372036854775807) (w:World) (he:Env w) :
  Calls Tryz.prog 132 #[.int .i64 n] w fun e w'=>e = .returned (.string ⟨(Lib.itoa n).toArray⟩)∧Below w.heap.size w w':=
 (Any.strconv_Itoa Tryz.laysM171 n h0 h1 w (he.tab _ (by kernel_rfl))).mono fun e w' ⟨h,k,os,hw⟩=>⟨h,by subst hw;exact below_grow _ _ _⟩
theorem wR (s:ByteArray) (c:Int) (w:World) :
  Calls Tryz.prog 156 #[.string s,.int .u8 c] w fun e w'=>e = .returned (.int .i64 (Lib.indexByte s.data.toList c.toNat.toUInt8))∧w=w':=
 (Any.strings_IndexByte Tryz.lays137 s c w).mono fun _e _w' ⟨h,k⟩=>⟨h,k.symm⟩
theorem D7 (s p:ByteArray) (w:World) :
  Calls Tryz.prog 155 #[.string s,.string p] w fun e w'=>e = .returned (.bool (Lib.hasPrefix s.data.toList p.data.toList))∧w=w':=
 (Any.strings_HasPrefix Tryz.lays99 s p w).mono fun _e _w' ⟨h,k⟩=>⟨h,k.symm⟩
theorem Au (b off n c:Nat) (zs:List Int) (x:Int) (w:World) (hz:n≤zs.length) (hbig:n≤9223372036854775807) (hc:∀ j,j < zs.length→w.cell? ⟨b,off+j,none⟩=some (.int .i64 (zs.getD j 0))) :
  Calls Tryz.prog 195 #[.slice (some ⟨b,off,none⟩) n c,.int .i64 x] w fun e w'=>e = .returned (.bool ((zs.take n).contains x))∧w=w':=
 (Any.slices_Contains_int Tryz.lays107 b off n c zs x w hz hbig hc).mono fun _e _w' ⟨h,k⟩=>⟨h,k.symm⟩
theorem O4 (s:ByteArray) (hs:s.size≤281474976710656) (w:World) (he:Env w) (hd:(∃ v,Lib.atoiAll s.data.toList = .ok v)∨Lib.atoiAll s.data.toList = .range) :
  Calls Tryz.prog 154 #[.string s] w fun e w'=>(match Lib.atoiAll s.data.toList with
   | .ok v=>e = .returned (.tuple #[.int .i64 v,.nilIface])
   | _=>∃ n N T,e = .returned (.tuple #[.int .i64 n,.iface T (.pointer (some ⟨N,0,none⟩))]))∧Below w.heap.size w w':=by
 obtain ⟨te,pe,hr⟩:=he.rng
 rcases hd with ⟨v,hv⟩ | hv
 ·refine (Any.strconv_Atoi_ok Tryz.laysC172 s (by omega) v hv w).mono fun e w' ⟨h,k⟩=>?_;rw[hv];refine ⟨h,?_⟩
  rcases k with rfl | ⟨t,rfl⟩
  ·exact Below.refl _ _
  ·exact Lib.bytesWorld_below _ _ _
 ·refine (Any.strconv_Atoi_range Tryz.laysC172 s hs hv _ w hr (.inr ⟨te,pe,rfl⟩)).mono fun e w' ⟨N,h,_,_,k⟩=>?_;rw[hv];exact ⟨⟨_,N,_,h⟩,k⟩
end Go.Proofs.YtjonaidancomgaaGreatDoor
namespace Go.Proofs.YtjonaidancomgaaGreatDoor
open Go.RowKit
open Lx (Tok)
def Lx.bs (l:List UInt8):ByteArray:=⟨l.toArray⟩
theorem Lx.jc (l:List UInt8):(Lx.bs l).size=l.length:=by rw [←Lx.bX];simp[Lx.bs]
theorem Lx.aK (l:List UInt8):(Lx.bs l).data.toList=l:=by simp [Lx.bs]
theorem Lx.BP (s:ByteArray):Lx.bs s.data.toList=s:=by cases s;simp[Lx.bs]
theorem Lx.Jz {s:ByteArray} {l:List UInt8} (h:s.data.toList=l):s=Lx.bs l:=by rw [←h,Lx.BP]
structure Cj (w : World) (b o : Nat) (t : Tok) : Prop where
 kind:w.cell? ⟨b,o,none⟩=some (.int .i64 t.kind)
 text:w.cell? ⟨b,o+1,none⟩=some (.string (Lx.bs t.text))
 n:w.cell? ⟨b,o+2,none⟩=some (.int .i64 t.n)
 pos:w.cell? ⟨b,o+3,none⟩=some (.int .i64 t.pos)
structure iw (w : World) (B : Nat) (A : Option Addr) (l : List Tok) : Prop where
 at_:∀ k t,l[k]?=some t→∃ b o,A=some ⟨b,o,none⟩∧b < B∧Cj w b (o+k*4) t
 len:l.length≤3518437208883
 texts:∀ t∈l,t.text.length≤140737488351232
theorem Cj.cells {w w':World} {b o:Nat} {t:Tok} (h:Cj w b o t) (hc:∀ i,w'.cell? ⟨b,i,none⟩=w.cell? ⟨b,i,none⟩):Cj w' b o t:=
 ⟨(hc _).trans h.kind,(hc _).trans h.text,(hc _).trans h.n,(hc _).trans h.pos⟩
theorem iw.below {w w':World} {B B':Nat} {A:Option Addr} {l:List Tok} (h:iw w B A l) (hb:Below B' w w') (hB:B≤B'):iw w' B A l:=
 ⟨fun k t ht=>by
  obtain ⟨b,o,e,hlt,h4⟩:=h.at_ k t ht;exact ⟨b,o,e,hlt,h4.cells fun i=>hb.cell (p:=⟨b,i,none⟩) (show b < B' by omega)⟩,h.len,h.texts⟩
theorem iw.mono {w:World} {B B':Nat} {A:Option Addr} {l:List Tok} (h:iw w B A l) (hB:B≤B'):iw w B' A l:=
 ⟨fun k t ht=>by
  obtain ⟨b,o,e,hlt,h4⟩:=h.at_ k t ht;exact ⟨b,o,e,by omega,h4⟩,h.len,h.texts⟩
theorem iw.drewN {w:World} {B:Nat} {A:Option Addr} {l:List Tok} (h:iw w B A l) (n:Nat):iw (w.drewN n) B A l:=⟨fun k t ht=>by
  obtain ⟨b,o,e,hlt,h4⟩:=h.at_ k t ht;exact ⟨b,o,e,by omega,⟨h4.kind,h4.text,h4.n,h4.pos⟩⟩,h.len,h.texts⟩
theorem iw.nil (w:World) (B:Nat) (A:Option Addr):iw w B A []:=⟨fun k t h=>by simp at h,by simp,fun t h=>by simp at h⟩
def Lx.fs (l:List Tok):Int:=l.foldl (fun n t=>wrap64 (n+(t.text.length:Int))) 0
def Lx.few (l:List Tok):Bool:=decide ((l.length:Int)≤200) && decide (Lx.fs l≤2000)
end Go.Proofs.YtjonaidancomgaaGreatDoor
namespace Go.Proofs.YtjonaidancomgaaGreatDoor
open Go.RowKit
theorem Aw (c:UInt8) (w:World) :
  Calls Tryz.prog 165 #[.int .u8 c.toNat] w fun e w'=>e = .returned (.bool (Lx.letter c))∧w=w':=by
 go_enter Tryz.func165,Tryz.ntmps165;go_wp2
 all_goals (go_ret;refine ⟨aj ?_,rfl⟩;rw[Lx.nG,Bool.eq_iff_iff];simp[*] <;> omega)
theorem MV (c:UInt8) (w:World) :
  Calls Tryz.prog 167 #[.int .u8 c.toNat] w fun e w'=>e = .returned (.bool (Lx.figure c))∧w=w':=by
 go_enter Tryz.func167,Tryz.ntmps167;go_wp2
 all_goals (go_ret;refine ⟨aj ?_,rfl⟩;rw[Lx.jv,Bool.eq_iff_iff];simp[*] <;> omega)
theorem Pb (c:UInt8) (w:World) :
  Calls Tryz.prog 166 #[.int .u8 c.toNat] w fun e w'=>e = .returned (.bool (Lx.part c))∧w=w':=by
 go_enter Tryz.func166,Tryz.ntmps166;go_wp2_with (first | (go_at_call 165;refine (Aw c _).mono ?_;rintro e w' ⟨rfl,rfl⟩) | (go_at_call 167;refine (MV c _).mono ?_;rintro e w' ⟨rfl,rfl⟩))
 all_goals (go_ret;refine ⟨aj ?_,rfl⟩;rw[Lx.JJ,Bool.eq_iff_iff];simp[*])
theorem UL (c:UInt8) (w:World) :
  Calls Tryz.prog 169 #[.int .u8 c.toNat] w fun e w'=>e = .returned (.bool (Lx.sign c))∧w=w':=by
 go_enter Tryz.func169,Tryz.ntmps169;go_wp2
 go_loop [4] (fun i=>∃ k:Nat,k≤13∧i = .int .i64 k∧(Lx.signs.take k).contains c=false) (fun i=>13 - (intOf i).toNat)
 case atStart=>exact ⟨0,by omega,rfl,rfl⟩
 case round=>
  obtain ⟨k,hk,rfl,hh⟩:=hrel;have Hh:=Lh hh;clear hh
  by_cases hlt:k < 13
  ·go_wp2
   ·go_ret;exact ⟨aj (Lx.JK k c (by exact hlt) (by assumption)).symm,rfl⟩
   ·go_round
    case rel=>exact ⟨k+1,by omega,by go_num,Lx.GV k c (by exact hlt) Hh.out (by assumption)⟩
    case measure=>simp [intOf];omega
  ·go_wp2;go_ret;obtain rfl:k=13:=by omega
   exact ⟨aj Hh.out.symm,rfl⟩
theorem gU (c:UInt8) (w:World) :
  Calls Tryz.prog 81 #[.int .u8 c.toNat] w fun e w'=>e = .returned (.int .i64 (Lx.cls c))∧w=w':=by
 go_enter Tryz.func81,Tryz.ntmps81;go_wp2_with (go_at_call 156;refine (wR _ _ _).mono ?_;rintro e w' ⟨rfl,rfl⟩)
 all_goals (go_ret;refine ⟨bU ?_,rfl⟩;rw[Lx.Qk];(try simp only [beq_iff_eq,beq_eq_false_iff_ne] at *);(repeat' split) <;> first | rfl | omega)
theorem rName (s:ByteArray) (w:World) (hs:s.size≤maxLen) :
  Calls Tryz.prog 135 #[.string s] w fun e w'=>e = .returned (.bool (Lx.isName s.data.toList))∧w=w':=by
 unfold maxLen at hs
 by_cases h0:s.size < 1
 ·go_enter Tryz.func135,Tryz.ntmps135;go_wp2_with fail;go_ret;exact ⟨aj (Lx.uK s (by omega)).symm,rfl⟩
 have h0':0 < s.size:=by omega
 clear h0
 by_cases h1:32 < s.size
 ·go_enter Tryz.func135,Tryz.ntmps135;go_wp2_with fail;go_ret;exact ⟨aj (Lx.uL s (by omega)).symm,rfl⟩
 have h1':s.size≤32:=by omega
 clear h1;cases hl:Lx.letter s[0]
 ·go_enter Tryz.func135,Tryz.ntmps135;go_wp2_with (go_at_call 165;refine (Aw _ _).mono ?_;rintro e w' ⟨rfl,rfl⟩)
  go_ret;exact ⟨aj (Lx.uM s (by assumption) hl).symm,rfl⟩
 ·go_enter Tryz.func135,Tryz.ntmps135;go_wp2_with (go_at_call 165;refine (Aw _ _).mono ?_;rintro e w' ⟨rfl,rfl⟩)
  have Hl:=Lh hl;clear hl
  go_loop [3] (fun i=>∃ k:Nat,k≤s.size∧i = .int .i64 k∧(s.data.toList.take k).all Lx.part=true) (fun i=>s.size - (intOf i).toNat)
  case atStart=>exact ⟨0,by omega,rfl,rfl⟩
  case round=>
   obtain ⟨k,hk,rfl,hh⟩:=hrel;have Hh:=Lh hh;clear hh
   by_cases hlt:k < s.size
   ·cases hp:Lx.part s[k]
    ·go_wp2_with (go_at_call 166;refine (Pb _ _).mono ?_;rintro e w' ⟨rfl,rfl⟩)
     go_ret;exact ⟨aj (Lx.wW s k hlt hp).symm,rfl⟩
    ·go_wp2_with (go_at_call 166;refine (Pb _ _).mono ?_;rintro e w' ⟨rfl,rfl⟩)
     go_round
     case rel=>exact ⟨k+1,by omega,by go_num,Lx.sG s k hlt Hh.out hp⟩
     case measure=>simp [intOf];omega
   ·go_wp2_with fail;go_ret;obtain rfl:k=s.size:=by omega
    exact ⟨aj (Lx.ze s h0' h1' Hl.out (Lx.Fx s Hh.out)).symm,rfl⟩
theorem Pd (s:ByteArray) (w:World) (hs:s.size≤maxLen) :
  Calls Tryz.prog 118 #[.string s] w fun e w'=>e = .returned (.bool (Lx.isName s.data.toList))∧w=w':=by
 unfold maxLen at hs
 by_cases h0:s.size < 1
 ·have h0e:s.toList.isEmpty=true:=by rw [List.isEmpty_iff];exact List.eq_nil_of_length_eq_zero (by rw [ByteArray.toList_eq,Lx.bX];omega)
  go_enter Tryz.func118,Tryz.ntmps118;go_wp2_with fail;go_ret;exact ⟨aj (Lx.uK s (by omega)).symm,rfl⟩
 have h0':0 < s.size:=by omega
 clear h0;have h0f:¬ s.toList = []:=fun h=>by
  have h2:s.data.toList.length=0:=by rw [←ByteArray.toList_eq,h];rfl
  rw[Lx.bX] at h2;omega
 have h0e:s.toList.isEmpty=false:=by rw [List.isEmpty_eq_false_iff];exact h0f
 by_cases h1:32 < s.size
 ·go_enter Tryz.func118,Tryz.ntmps118;go_wp2_with fail;go_ret;exact ⟨aj (Lx.uL s (by omega)).symm,rfl⟩
 have h1':s.size≤32:=by omega
 have h1d:decide ((32:Int) < (s.size:Int))=false:=decide_eq_false (by omega);clear h1;cases hl:Lx.letter s[0]
 ·have hq:(Lx.cls s[0] != 2)=true:=by rw [Lx.wX] at hl;simpa using hl
  go_enter Tryz.func118,Tryz.ntmps118;go_wp2_with (go_at_call 81;refine (gU _ _).mono ?_;rintro e w' ⟨rfl,rfl⟩)
  go_ret;exact ⟨aj (Lx.uM s (by assumption) hl).symm,rfl⟩
 ·have hq:(Lx.cls s[0] != 2)=false:=by rw [Lx.wX] at hl;simpa using hl
  have Hl:=Lh hl;clear hl;go_enter Tryz.func118,Tryz.ntmps118;go_wp2_with (go_at_call 81;refine (gU _ _).mono ?_;rintro e w' ⟨rfl,rfl⟩)
  go_loop [20] (fun i=>∃ k:Nat,k≤s.size∧i = .int .i64 k∧(s.data.toList.take k).all Lx.part=true) (fun i=>s.size - (intOf i).toNat)
  case atStart=>exact ⟨0,by omega,rfl,rfl⟩
  case round=>
   obtain ⟨k,hk,rfl,hh⟩:=hrel;have Hh:=Lh hh;clear hh
   by_cases hlt:k < s.size
   ·cases hp:Lx.part s[k]
    ·have hp':=hp;rw[Lx.wO] at hp';have q2:(Lx.cls s[k] != 2)=true:=by simp at hp' ⊢;exact hp'.1.1
     have q3:(Lx.cls s[k] != 3)=true:=by simp at hp' ⊢;exact hp'.1.2
     have q5:(Lx.cls s[k] != 5)=true:=by simp at hp' ⊢;exact hp'.2
     clear hp';have Hp:=Lh hp;clear hp;go_wp2_with (go_at_call 81;refine (gU _ _).mono ?_;rintro e w' ⟨rfl,rfl⟩)
     go_ret;exact ⟨aj (Lx.wW s k hlt Hp.out).symm,rfl⟩
    ·have Hp:=Lh hp;rw[Lx.wO] at hp
     by_cases c2:(Lx.cls s[k] != 2)=true
     ·by_cases c3:(Lx.cls s[k] != 3)=true
      ·have c5:(Lx.cls s[k] != 5)=false:=by simp at hp c2 c3 ⊢;omega
       clear hp;go_wp2_with (go_at_call 81;refine (gU _ _).mono ?_;rintro e w' ⟨rfl,rfl⟩)
       go_round
       case rel=>exact ⟨k+1,by omega,by go_num,Lx.sG s k hlt Hh.out Hp.out⟩
       case measure=>simp [intOf];omega
      ·have c3':(Lx.cls s[k] != 3)=false:=by simpa using c3
       clear hp c3;go_wp2_with (go_at_call 81;refine (gU _ _).mono ?_;rintro e w' ⟨rfl,rfl⟩)
       go_round
       case rel=>exact ⟨k+1,by omega,by go_num,Lx.sG s k hlt Hh.out Hp.out⟩
       case measure=>simp [intOf];omega
     ·have c2':(Lx.cls s[k] != 2)=false:=by simpa using c2
      clear hp c2;go_wp2_with (go_at_call 81;refine (gU _ _).mono ?_;rintro e w' ⟨rfl,rfl⟩)
      go_round
      case rel=>exact ⟨k+1,by omega,by go_num,Lx.sG s k hlt Hh.out Hp.out⟩
      case measure=>simp [intOf];omega
   ·go_wp2_with fail;go_ret;obtain rfl:k=s.size:=by omega
    exact ⟨aj (Lx.ze s h0' h1' Hl.out (Lx.Fx s Hh.out)).symm,rfl⟩
theorem Lx.Qm (s:ByteArray) (h:s.size=1):s.data.toList = [s[0]]:=by
 have h1:=Lx.bX s;have h0:=Lx.wT s 0 (by omega)
 match hs:s.data.toList,h1 with
 | [c],_=>rw [←h0];simp[hs]
 | [],h1=>simp at h1;omega
 | _::_::_,h1=>simp at h1;omega
theorem Lx.JQ (c:UInt8) (h:Lx.cls c=4):Lx.sign c=true:=by
 unfold Lx.cls at h
 repeat' (split at h)
 all_goals first | assumption | (exfalso;omega)
theorem Lx.JR:∀ c∈Lx.signs,Lx.cls c=4:=by decide
theorem Lx.JU (c:UInt8):decide (Lx.cls c=4)=Lx.sign c:=by
 cases hs:Lx.sign c
 ·exact decide_eq_false fun h=>by rw [Lx.JQ c h] at hs;cases hs
 ·exact decide_eq_true (Lx.JR c (by simpa [Lx.sign] using hs))
theorem Lx.p9 (s:ByteArray) (n p:Int):Lx.valid ⟨1,s.data.toList,n,p⟩=(Lx.isName s.data.toList && (n == 0)):=rfl
theorem Lx.qd (s:ByteArray) (n p:Int):Lx.valid ⟨2,s.data.toList,n,p⟩=(s.data.toList.isEmpty && decide (0≤n) && decide (n≤1099511627776)):=rfl
theorem Lx.oI (s:ByteArray) (n p:Int) (h:s.size=1):Lx.valid ⟨3,s.data.toList,n,p⟩=(Lx.sign s[0] && (n == 0)):=by
 rw[Lx.Qm s h];rfl
theorem Lx.sK (s:ByteArray) (n p:Int) (h:s.size≠1):Lx.valid ⟨3,s.data.toList,n,p⟩=false:=by
 have h1:=Lx.bX s
 match hs:s.data.toList,h1 with
 | [c],h1=>simp at h1;omega
 | [],h1=>rfl
 | _::_::_,h1=>rfl
theorem Lx.uO (k:Int) (s:List UInt8) (n p:Int) (h1:k≠1) (h2:k≠2) (h3:k≠3):Lx.valid ⟨k,s,n,p⟩=false:=by
 simp[Lx.valid,h1,h2,h3]
theorem DY (k n p:Int) (s:ByteArray) (w:World) (hs:s.size≤maxLen) :
  Calls Tryz.prog 131 #[.agg #[.int .i64 k,.string s,.int .i64 n,.int .i64 p]] w fun e w'=>e = .returned (.bool (Lx.valid ⟨k,s.data.toList,n,p⟩))∧Below w.heap.size w w':=by
 by_cases k1:k=1
 ·subst k1;rw[Lx.p9];cases hn:Lx.isName s.data.toList
  all_goals
   go_enter Tryz.func131,Tryz.ntmps131;go_wp2_with (go_at_call 118;refine (Pd _ _ hs).mono ?_;rintro e w' ⟨rfl,rfl⟩)
   go_ret;exact ⟨aj (by simp),(Below.refl _ _).alloc (Nat.le_refl _) _⟩
 by_cases k2:k=2
 ·subst k2;rw[Lx.qd,←ByteArray.toList_eq];cases hn:s.toList.isEmpty
  ·go_enter Tryz.func131,Tryz.ntmps131;go_wp2_with fail;go_ret;exact ⟨aj (by simp),(Below.refl _ _).alloc (Nat.le_refl _) _⟩
  ·have hn':s.toList = []:=by simpa using hn
   by_cases n0:0≤n
   all_goals
    go_enter Tryz.func131,Tryz.ntmps131;go_wp2_with fail;go_ret;exact ⟨aj (by simp <;> omega),(Below.refl _ _).alloc (Nat.le_refl _) _⟩
 by_cases k3:k=3
 ·subst k3
  by_cases h1:s.size=1
  ·rw[Lx.oI s n p h1,←Lx.JU];have h1':(s.size:Int)=1:=by omega
   have h0:0 < s.size:=by omega
   by_cases hc:Lx.cls s[0]=4
   all_goals
    go_enter Tryz.func131,Tryz.ntmps131;go_wp2_with (go_at_call 81;refine (gU _ _).mono ?_;rintro e w' ⟨rfl,rfl⟩)
    go_ret;exact ⟨aj (by simp [hc]),(Below.refl _ _).alloc (Nat.le_refl _) _⟩
  ·rw[Lx.sK s n p h1];have h1':((s.size:Int) == 1)=false:=beq_eq_false_iff_ne.2 (by omega);go_enter Tryz.func131,Tryz.ntmps131;go_wp2_with fail;go_ret;exact ⟨aj (by simp),(Below.refl _ _).alloc (Nat.le_refl _) _⟩
 rw[Lx.uO k _ n p k1 k2 k3];have k1':(k == 1)=false:=beq_eq_false_iff_ne.2 k1;have k2':(k == 2)=false:=beq_eq_false_iff_ne.2 k2;have k3':(k == 3)=false:=beq_eq_false_iff_ne.2 k3;go_enter Tryz.func131,Tryz.ntmps131;go_wp2_with fail;go_ret;exact ⟨rfl,(Below.refl _ _).alloc (Nat.le_refl _) _⟩
theorem PW (k n p:Int) (s:ByteArray) (w:World) (hs:s.size≤maxLen) :
  Calls Tryz.prog 138 #[.agg #[.int .i64 k,.string s,.int .i64 n,.int .i64 p]] w fun e w'=>e = .returned (.bool (Lx.valid ⟨k,s.data.toList,n,p⟩))∧Below w.heap.size w w':=by
 by_cases k1:k=1
 ·subst k1;rw[Lx.p9];cases hn:Lx.isName s.data.toList
  all_goals
   go_enter Tryz.func138,Tryz.ntmps138;go_wp2_with (go_at_call 135;refine (rName _ _ hs).mono ?_;rintro e w' ⟨rfl,rfl⟩)
   go_ret;exact ⟨aj (by simp),(Below.refl _ _).alloc (Nat.le_refl _) _⟩
 by_cases k2:k=2
 ·subst k2;rw[Lx.qd,←ByteArray.toList_eq];cases hn:s.toList.isEmpty
  ·go_enter Tryz.func138,Tryz.ntmps138;go_wp2_with fail;go_ret;exact ⟨aj (by simp),(Below.refl _ _).alloc (Nat.le_refl _) _⟩
  ·have hn':s.toList = []:=by simpa using hn
   by_cases n0:0≤n
   all_goals
    go_enter Tryz.func138,Tryz.ntmps138;go_wp2_with fail;go_ret;exact ⟨aj (by simp <;> omega),(Below.refl _ _).alloc (Nat.le_refl _) _⟩
 by_cases k3:k=3
 ·subst k3
  by_cases h1:s.size=1
  ·rw[Lx.oI s n p h1];have h1':(s.size:Int)=1:=by omega
   have h0:0 < s.size:=by omega
   cases hc:Lx.sign s[0]
   all_goals
    go_enter Tryz.func138,Tryz.ntmps138;go_wp2_with (go_at_call 169;refine (UL _ _).mono ?_;rintro e w' ⟨rfl,rfl⟩)
    go_ret;exact ⟨aj (by simp),(Below.refl _ _).alloc (Nat.le_refl _) _⟩
  ·rw[Lx.sK s n p h1];have h1':((s.size:Int) == 1)=false:=beq_eq_false_iff_ne.2 (by omega);go_enter Tryz.func138,Tryz.ntmps138;go_wp2_with fail;go_ret;exact ⟨aj (by simp),(Below.refl _ _).alloc (Nat.le_refl _) _⟩
 rw[Lx.uO k _ n p k1 k2 k3];have k1':(k == 1)=false:=beq_eq_false_iff_ne.2 k1;have k2':(k == 2)=false:=beq_eq_false_iff_ne.2 k2;have k3':(k == 3)=false:=beq_eq_false_iff_ne.2 k3;go_enter Tryz.func138,Tryz.ntmps138;go_wp2_with fail;go_ret;exact ⟨rfl,(Below.refl _ _).alloc (Nat.le_refl _) _⟩
end Go.Proofs.YtjonaidancomgaaGreatDoor
namespace Go.Proofs.YtjonaidancomgaaGreatDoor
open Go.RowKit
open Lx (Tok)
def Lx.wQ (zs:List Int) (l:List UInt8):Nat:=(l.takeWhile fun c=>zs.contains (Lx.cls c)).length
theorem Lx.Aj (p:UInt8→Bool):∀ (l:List UInt8) (k:Nat),k≤l.length→(∀ j (h:j < l.length),j < k→p l[j]=true)→(∀ h:k < l.length,p l[k]=false)→(l.takeWhile p).length=k
 | [],k,hk,_,_=>by simp at hk;simp[hk]
 | c::r,0,_,_,h=>by
  have h0:p c=false:=h (by simp);simp[h0]
 | c::r,k+1,hk,ha,h=>by
  have h0:p c=true:=ha 0 (by simp) (by omega);simp only[List.takeWhile_cons,h0,if_true,List.length_cons];rw[Lx.Aj p r k (by simpa using hk) (fun j hj hjk=>ha (j+1) (by simpa using hj) (by omega)) (fun hh=>h (by simpa using hh))]
theorem Lx.run_end (zs:List Int) (s:ByteArray) (a n:Nat) (han:a≤n) (hn:n≤s.size) (h1:∀ j (h:j < s.size),a≤j→j < n→zs.contains (Lx.cls s[j])=true) (h2:∀ h:n < s.size,zs.contains (Lx.cls s[n])=false) :
  a+Lx.wQ zs (s.data.toList.drop a)=n:=by
 unfold Lx.wQ;have hl:=Lx.bX s;rw[Lx.Aj _ _ (n - a) (by rw [List.length_drop];omega)]
 ·omega
 ·intro j hj hjn;rw[List.length_drop] at hj;rw[List.getElem_drop];exact h1 (a+j) (by omega) (by omega) (by omega)
 ·intro hj;rw[List.length_drop] at hj;rw[List.getElem_drop];have:=h2 (by omega);simp only[show a+(n - a)=n by omega];exact this
theorem X5 (g bz a c:Nat) (src:ByteArray) (zs:List Int) (w:World) (hg0:w.cell? ⟨g,0,none⟩=some (.string src)) (hg1:w.cell? ⟨g,1,none⟩=some (.int .i64 a))
  (hz:∀ j,j < zs.length→w.cell? ⟨bz,0+j,none⟩=some (.int .i64 (zs.getD j 0))) (hzl:zs.length≤100) (ha:a≤src.size) (hs:src.size≤65536) :
  Calls Tryz.prog 152 #[.pointer (some ⟨g,0,none⟩),.slice (some ⟨bz,0,none⟩) zs.length c] w fun e w'=>
   e = .returned (.string (src.extract a (a+Lx.wQ zs (src.data.toList.drop a))))∧∃ n,w'=w.drewN n:=by
 have Hz:=Lh hz;clear hz;go_enter Tryz.func152,Tryz.ntmps152;go_wp2
 go_loop [5] (fun i=>∃ n:Nat,n≤src.size∧i = .int .i64 n∧a≤n∧∀ j (h:j < src.size),a≤j→j < n→zs.contains (Lx.cls src[j])=true) (fun i=>src.size - (intOf i).toNat)
 case atStart=>exact ⟨a,by omega,rfl,by omega,fun j h1 h2 h3=>absurd h2 (by omega)⟩
 case round=>
  obtain ⟨n,hn,rfl,han,hh⟩:=hrel;have Hh:=Lh hh;clear hh
  by_cases hlt:n < src.size
  ·have hcon:=Au bz 0 zs.length c zs (Lx.cls src[n]) w (Nat.le_refl _) (by omega) Hz.out;rw[List.take_length] at hcon;have MW:=Lh hcon;clear hcon;cases hc:zs.contains (Lx.cls src[n])
   ·rw[hc] at MW;go_wp2_with (first | (go_at_call 81;refine (gU _ _).mono ?_;rintro e w' ⟨rfl,rfl⟩) | (go_at_call 195;refine (MW.out).mono ?_;rintro e w' ⟨rfl,rfl⟩))
    go_quiet (fail)
    go_wp2;go_ret;exact ⟨congrArg Ending.returned (congrArg Value.string (by rw [Lx.run_end zs src a n han hn Hh.out fun _=>hc])),_,rfl⟩
   ·rw[hc] at MW;go_wp2_with (first | (go_at_call 81;refine (gU _ _).mono ?_;rintro e w' ⟨rfl,rfl⟩) | (go_at_call 195;refine (MW.out).mono ?_;rintro e w' ⟨rfl,rfl⟩))
    go_round
    case rel=>
     refine ⟨n+1,by omega,by go_num,by omega,fun j hj haj hjn=>?_⟩
     rcases Nat.lt_or_ge j n with h | h
     ·exact Hh.out j hj haj h
     ·obtain rfl:j=n:=by omega
      exact hc
    case measure=>simp [intOf];omega
  ·go_wp2
   go_quiet (fail)
   go_wp2;go_ret;exact ⟨congrArg Ending.returned (congrArg Value.string (by rw [Lx.run_end zs src a n han hn Hh.out fun h=>absurd h hlt])),_,rfl⟩
end Go.Proofs.YtjonaidancomgaaGreatDoor
