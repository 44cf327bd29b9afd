/- What functions of the program come to (f), that their calls come to just this (calls), and the plain laws over lists and numbers. No condition but those of the given row. -/
import Derived.Test.YtnjfiaekdcekgaaGreatDoorG0
import Derived.Shelf.Strconv.ErrVarAll
import Derived.Shelf.Strings.SplitShaped
import Derived.Test.YtnjfiaekdcekgaaGreatDoorProg
import Derived.Shelf.GgSortFunc.Lays
import Derived.Shelf.Strconv.Itoa3
import Derived.Shelf.Strings.BuilderK
import Derived.Shelf.Strings.OnBuilder
import Derived.Shelf.SlSortFuncK.WholeK
import Derived.Shelf.GgSortFunc.Tiny
import Derived.Deep.Slices
import Derived.ChangeArms
import Derived.ChangeSame
import Derived.Below
import Derived.Deep.Draws
import Derived.Deep.AppendLies
import Derived.Maps.AppendAt
import Derived.OwnWalk
import Derived.Laws.BytesArg
import Derived.Laws.MakeOwn
import Derived.Laws.OwnMore
import Derived.Deep.OwnRows
import Derived.Tactics
import Derived.Lib.ConvBytes
import Derived.Laws.Slices
import Derived.WalkKit
import Derived.KernelRfl
import Derived.RowKit3
import Derived.Deep.LoopGhost
import Derived.Deep.QuietTactic
import Derived.BigQuiet
import Derived.WideLaws
import Derived.Deep.DeepCutAuto
import Derived.Deep.CutBlock
import Derived.Deep.RegionHeld3
import Derived.Laws.Rows
import Derived.Lib.AppendStr
import Derived.ArgAppend
import Derived.Laws.IdiomCopy
import Derived.OrdersHeld
import Derived.Laws.BitsLemmas
import Derived.RowKit
set_option linter.unusedVariables false
set_option linter.unusedSimpArgs false
namespace Go.Proofs.YtnjfiaekdcekgaaGreatDoor
namespace P
open Go.Shelf
def vV:Go.Shelf.Ren:=⟨fun|146=>39|221=>85|268=>122|138=>123|143=>124|195=>137|197=>138|218=>139|219=>140|260=>157|217=>158|225=>159|224=>160|267=>161|266=>175|314=>176|n=>n,fun|9=>9|31=>38|3=>3|4=>4|0=>0|105=>145|21=>21|5=>5|46=>115|119=>185|139=>188|138=>187|146=>189|51=>172|n=>n,fun|1=>0|3=>4|4=>5|n=>n⟩
theorem vU:Go.Proofs.LaysM.n146 Tryz.prog vV:={
  mixed:=by kernel_rfl
  f138:=Tryz.func123.trans (congrArg some (by kernel_rfl))
  f143:=Tryz.func124.trans (congrArg some (by kernel_rfl))
  f146:=Tryz.func39.trans (congrArg some (by kernel_rfl))
  f195:=Tryz.func137.trans (congrArg some (by kernel_rfl))
  f197:=Tryz.func138.trans (congrArg some (by kernel_rfl))
  f217:=Tryz.func158.trans (congrArg some (by kernel_rfl))
  f218:=Tryz.func139.trans (congrArg some (by kernel_rfl))
  f219:=Tryz.func140.trans (congrArg some (by kernel_rfl))
  f221:=Tryz.func85.trans (congrArg some (by kernel_rfl))
  f224:=Tryz.func160.trans (congrArg some (by kernel_rfl))
  f225:=Tryz.func159.trans (congrArg some (by kernel_rfl))
  f260:=Tryz.func157.trans (congrArg some (by kernel_rfl))
  f266:=Tryz.func175.trans (congrArg some (by kernel_rfl))
  f267:=Tryz.func161.trans (congrArg some (by kernel_rfl))
  f268:=Tryz.func122.trans (congrArg some (by kernel_rfl))
  f314:=Tryz.func176.trans (congrArg some (by kernel_rfl))
  t0:=Tryz.underlying0
  a0:=Tryz.isAgg0
  z0:=Tryz.sizeOf0
  v0:=Tryz.zeroValue0
  t3:=Tryz.underlying3
  a3:=Tryz.isAgg3
  z3:=Tryz.sizeOf3
  v3:=Tryz.zeroValue3
  t4:=Tryz.underlying4
  a4:=Tryz.isAgg4
  z4:=Tryz.sizeOf4
  v4:=Tryz.zeroValue4
  t5:=Tryz.underlying5
  a5:=Tryz.isAgg5
  z5:=Tryz.sizeOf5
  v5:=Tryz.zeroValue5
  t9:=Tryz.underlying9
  a9:=Tryz.isAgg9
  z9:=Tryz.sizeOf9
  v9:=Tryz.zeroValue9
  t21:=Tryz.underlying21
  a21:=Tryz.isAgg21
  z21:=Tryz.sizeOf21
  v21:=Tryz.zeroValue21
  t31:=Tryz.underlying38
  a31:=Tryz.isAgg38
  z31:=Tryz.sizeOf38
  v31:=Tryz.zeroValue38
  t46:=Tryz.underlying115
  a46:=Tryz.isAgg115
  z46:=Tryz.sizeOf115
  v46:=Tryz.zeroValue115
  t51:=Tryz.underlying172
  a51:=Tryz.isAgg172
  z51:=Tryz.sizeOf172
  v51:=Tryz.zeroValue172
  t105:=Tryz.underlying145
  a105:=Tryz.isAgg145
  z105:=Tryz.sizeOf145
  v105:=Tryz.zeroValue145
  t119:=Tryz.underlying185
  a119:=Tryz.isAgg185
  z119:=Tryz.sizeOf185
  t138:=Tryz.underlying187
  a138:=Tryz.isAgg187
  z138:=Tryz.sizeOf187
  v138:=Tryz.zeroValue187
  t139:=Tryz.underlying188
  a139:=Tryz.isAgg188
  z139:=Tryz.sizeOf188
  v139:=Tryz.zeroValue188
  t146:=Tryz.underlying189
  a146:=Tryz.isAgg189
  z146:=Tryz.sizeOf189
  v146:=Tryz.zeroValue189
  g1:=by kernel_rfl
  g3:=by kernel_rfl
  g4:=by kernel_rfl
  i0:=by kernel_rfl
  i3:=by kernel_rfl
  i4:=by kernel_rfl
  i5:=by kernel_rfl
  i9:=by kernel_rfl
  i21:=by kernel_rfl
  i31:=by kernel_rfl
  i46:=by kernel_rfl
  i51:=by kernel_rfl
  i105:=by kernel_rfl
  i138:=by kernel_rfl
  i139:=by kernel_rfl
  i146:=by kernel_rfl
  m1:=by kernel_rfl
  s1_3:=fun w h=>Go.Proofs.cell_of_shapedOpen_int (zero:= #[.int .i64 0]) (t:=3) h (of_decide_eq_true (by kernel_rfl)) (by kernel_rfl) rfl (by kernel_rfl) (by kernel_rfl) Tryz.underlying3
  m3:=by kernel_rfl
  m4:=by kernel_rfl}
def Cq:Go.Shelf.Ren:=⟨fun|172=>86|244=>125|245=>126|247=>141|279=>142|280=>143|281=>144|282=>145|287=>162|316=>163|171=>44|205=>164|321=>177|322=>178|243=>88|246=>128|283=>147|284=>148|285=>149|286=>150|129=>166|317=>165|318=>167|319=>168|320=>169|337=>179|338=>180|n=>n,fun|9=>9|3=>3|75=>71|76=>72|4=>4|5=>5|167=>148|37=>22|0=>0|85=>149|2=>2|168=>151|53=>155|175=>165|46=>115|210=>169|127=>104|145=>194|143=>192|21=>21|171=>154|173=>158|212=>171|51=>172|20=>20|213=>173|232=>206|233=>207|80=>74|n=>n,fun|15=>1|16=>2|17=>3|18=>6|19=>7|n=>n⟩
theorem mN:Go.Proofs.LaysC.n172 Tryz.prog Cq:={
  mixed:=by kernel_rfl
  f129:=Tryz.func166.trans (congrArg some (by kernel_rfl))
  f171:=Tryz.func44.trans (congrArg some (by kernel_rfl))
  f172:=Tryz.func86.trans (congrArg some (by kernel_rfl))
  f205:=Tryz.func164.trans (congrArg some (by kernel_rfl))
  f243:=Tryz.func88.trans (congrArg some (by kernel_rfl))
  f244:=Tryz.func125.trans (congrArg some (by kernel_rfl))
  f245:=Tryz.func126.trans (congrArg some (by kernel_rfl))
  f246:=Tryz.func128.trans (congrArg some (by kernel_rfl))
  f247:=Tryz.func141.trans (congrArg some (by kernel_rfl))
  f279:=Tryz.func142.trans (congrArg some (by kernel_rfl))
  f280:=Tryz.func143.trans (congrArg some (by kernel_rfl))
  f281:=Tryz.func144.trans (congrArg some (by kernel_rfl))
  f282:=Tryz.func145.trans (congrArg some (by kernel_rfl))
  f283:=Tryz.func147.trans (congrArg some (by kernel_rfl))
  f284:=Tryz.func148.trans (congrArg some (by kernel_rfl))
  f285:=Tryz.func149.trans (congrArg some (by kernel_rfl))
  f286:=Tryz.func150.trans (congrArg some (by kernel_rfl))
  f287:=Tryz.func162.trans (congrArg some (by kernel_rfl))
  f316:=Tryz.func163.trans (congrArg some (by kernel_rfl))
  f317:=Tryz.func165.trans (congrArg some (by kernel_rfl))
  f318:=Tryz.func167.trans (congrArg some (by kernel_rfl))
  f319:=Tryz.func168.trans (congrArg some (by kernel_rfl))
  f320:=Tryz.func169.trans (congrArg some (by kernel_rfl))
  f321:=Tryz.func177.trans (congrArg some (by kernel_rfl))
  f322:=Tryz.func178.trans (congrArg some (by kernel_rfl))
  f337:=Tryz.func179.trans (congrArg some (by kernel_rfl))
  f338:=Tryz.func180.trans (congrArg some (by kernel_rfl))
  t0:=Tryz.underlying0
  a0:=Tryz.isAgg0
  z0:=Tryz.sizeOf0
  v0:=Tryz.zeroValue0
  t2:=Tryz.underlying2
  a2:=Tryz.isAgg2
  z2:=Tryz.sizeOf2
  v2:=Tryz.zeroValue2
  t3:=Tryz.underlying3
  a3:=Tryz.isAgg3
  z3:=Tryz.sizeOf3
  v3:=Tryz.zeroValue3
  t4:=Tryz.underlying4
  a4:=Tryz.isAgg4
  z4:=Tryz.sizeOf4
  v4:=Tryz.zeroValue4
  t5:=Tryz.underlying5
  a5:=Tryz.isAgg5
  z5:=Tryz.sizeOf5
  v5:=Tryz.zeroValue5
  t9:=Tryz.underlying9
  a9:=Tryz.isAgg9
  z9:=Tryz.sizeOf9
  v9:=Tryz.zeroValue9
  t20:=Tryz.underlying20
  a20:=Tryz.isAgg20
  z20:=Tryz.sizeOf20
  v20:=Tryz.zeroValue20
  t21:=Tryz.underlying21
  a21:=Tryz.isAgg21
  z21:=Tryz.sizeOf21
  v21:=Tryz.zeroValue21
  t37:=Tryz.underlying22
  a37:=Tryz.isAgg22
  z37:=Tryz.sizeOf22
  v37:=Tryz.zeroValue22
  t46:=Tryz.underlying115
  a46:=Tryz.isAgg115
  z46:=Tryz.sizeOf115
  v46:=Tryz.zeroValue115
  t51:=Tryz.underlying172
  a51:=Tryz.isAgg172
  z51:=Tryz.sizeOf172
  v51:=Tryz.zeroValue172
  t53:=Tryz.underlying155
  a53:=Tryz.isAgg155
  z53:=Tryz.sizeOf155
  v53:=Tryz.zeroValue155
  t75:=Tryz.underlying71
  a75:=Tryz.isAgg71
  z75:=Tryz.sizeOf71
  v75:=Tryz.zeroValue71
  t76:=Tryz.underlying72
  a76:=Tryz.isAgg72
  z76:=Tryz.sizeOf72
  v76:=Tryz.zeroValue72
  t85:=Tryz.underlying149
  a85:=Tryz.isAgg149
  z85:=Tryz.sizeOf149
  v85:=Tryz.zeroValue149
  t127:=Tryz.underlying104
  a127:=Tryz.isAgg104
  z127:=Tryz.sizeOf104
  v127:=Tryz.zeroValue104
  t143:=Tryz.underlying192
  a143:=Tryz.isAgg192
  z143:=Tryz.sizeOf192
  v143:=Tryz.zeroValue192
  t145:=Tryz.underlying194
  a145:=Tryz.isAgg194
  z145:=Tryz.sizeOf194
  v145:=Tryz.zeroValue194
  t167:=Tryz.underlying148
  a167:=Tryz.isAgg148
  z167:=Tryz.sizeOf148
  v167:=Tryz.zeroValue148
  t168:=Tryz.underlying151
  a168:=Tryz.isAgg151
  z168:=Tryz.sizeOf151
  v168:=Tryz.zeroValue151
  t171:=Tryz.underlying154
  a171:=Tryz.isAgg154
  z171:=Tryz.sizeOf154
  v171:=Tryz.zeroValue154
  t173:=Tryz.underlying158
  a173:=Tryz.isAgg158
  z173:=Tryz.sizeOf158
  v173:=Tryz.zeroValue158
  t175:=Tryz.underlying165
  a175:=Tryz.isAgg165
  z175:=Tryz.sizeOf165
  v175:=Tryz.zeroValue165
  t210:=Tryz.underlying169
  a210:=Tryz.isAgg169
  z210:=Tryz.sizeOf169
  v210:=Tryz.zeroValue169
  t212:=Tryz.underlying171
  a212:=Tryz.isAgg171
  z212:=Tryz.sizeOf171
  v212:=Tryz.zeroValue171
  t213:=Tryz.underlying173
  a213:=Tryz.isAgg173
  z213:=Tryz.sizeOf173
  t232:=Tryz.underlying206
  a232:=Tryz.isAgg206
  z232:=Tryz.sizeOf206
  v232:=Tryz.zeroValue206
  t233:=Tryz.underlying207
  a233:=Tryz.isAgg207
  z233:=Tryz.sizeOf207
  v233:=Tryz.zeroValue207
  g15:=by kernel_rfl
  g16:=by kernel_rfl
  g17:=by kernel_rfl
  g18:=by kernel_rfl
  g19:=by kernel_rfl
  t80:=Tryz.underlying74
  a80:=Tryz.isAgg74
  z80:=Tryz.sizeOf74
  v80:=Tryz.zeroValue74
  i0:=by kernel_rfl
  i2:=by kernel_rfl
  i3:=by kernel_rfl
  i4:=by kernel_rfl
  i5:=by kernel_rfl
  i9:=by kernel_rfl
  i20:=by kernel_rfl
  i21:=by kernel_rfl
  i37:=by kernel_rfl
  i46:=by kernel_rfl
  i51:=by kernel_rfl
  i53:=by kernel_rfl
  i75:=by kernel_rfl
  i76:=by kernel_rfl
  i80:=by kernel_rfl
  i85:=by kernel_rfl
  i127:=by kernel_rfl
  i143:=by kernel_rfl
  i145:=by kernel_rfl
  i167:=by kernel_rfl
  i168:=by kernel_rfl
  i171:=by kernel_rfl
  i173:=by kernel_rfl
  i175:=by kernel_rfl
  i210:=by kernel_rfl
  i212:=by kernel_rfl
  i232:=by kernel_rfl
  i233:=by kernel_rfl
  m15:=by kernel_rfl
  m16:=by kernel_rfl
  m17:=by kernel_rfl
  m18:=by kernel_rfl
  m19:=by kernel_rfl
  c0:=by kernel_rfl
  c2:=by kernel_rfl
  c3:=by kernel_rfl
  c4:=by kernel_rfl
  c5:=by kernel_rfl
  c9:=by kernel_rfl
  c20:=by kernel_rfl
  c21:=by kernel_rfl
  c37:=by kernel_rfl
  c46:=by kernel_rfl
  c51:=by kernel_rfl
  c53:=by kernel_rfl
  c75:=by kernel_rfl
  c76:=by kernel_rfl
  c80:=by kernel_rfl
  c85:=by kernel_rfl
  c127:=by kernel_rfl
  c143:=by kernel_rfl
  c145:=by kernel_rfl
  c167:=by kernel_rfl
  c168:=by kernel_rfl
  c171:=by kernel_rfl
  c173:=by kernel_rfl
  c175:=by kernel_rfl
  c210:=by kernel_rfl
  c212:=by kernel_rfl
  c213:=by kernel_rfl
  c232:=by kernel_rfl
  c233:=by kernel_rfl}
def qq:Go.Shelf.Ren:=⟨fun|6=>152|10=>170|11=>171|12=>172|13=>173|14=>174|24=>190|25=>166|26=>191|27=>192|28=>193|29=>194|30=>195|31=>196|32=>197|33=>198|34=>199|35=>200|36=>201|37=>202|38=>203|39=>204|n=>n,fun|20=>20|26=>162|35=>177|0=>0|37=>179|3=>3|41=>115|44=>184|49=>172|51=>155|4=>4|54=>201|53=>200|58=>138|5=>5|9=>9|60=>208|64=>212|66=>214|67=>215|17=>17|32=>130|33=>175|82=>230|12=>12|75=>224|76=>225|77=>226|78=>104|79=>227|80=>228|n=>n,fun|n=>n⟩
theorem qp:Go.Proofs.LaysGg.n6 Tryz.prog qq:={
  mixed:=by kernel_rfl
  f6:=Tryz.func152.trans (congrArg some (by kernel_rfl))
  f10:=Tryz.func170.trans (congrArg some (by kernel_rfl))
  f11:=Tryz.func171.trans (congrArg some (by kernel_rfl))
  f12:=Tryz.func172.trans (congrArg some (by kernel_rfl))
  f13:=Tryz.func173.trans (congrArg some (by kernel_rfl))
  f14:=Tryz.func174.trans (congrArg some (by kernel_rfl))
  f24:=Tryz.func190.trans (congrArg some (by kernel_rfl))
  f25:=Tryz.func166.trans (congrArg some (by kernel_rfl))
  f26:=Tryz.func191.trans (congrArg some (by kernel_rfl))
  f27:=Tryz.func192.trans (congrArg some (by kernel_rfl))
  f28:=Tryz.func193.trans (congrArg some (by kernel_rfl))
  f29:=Tryz.func194.trans (congrArg some (by kernel_rfl))
  f30:=Tryz.func195.trans (congrArg some (by kernel_rfl))
  f31:=Tryz.func196.trans (congrArg some (by kernel_rfl))
  f32:=Tryz.func197.trans (congrArg some (by kernel_rfl))
  f33:=Tryz.func198.trans (congrArg some (by kernel_rfl))
  f34:=Tryz.func199.trans (congrArg some (by kernel_rfl))
  f35:=Tryz.func200.trans (congrArg some (by kernel_rfl))
  f36:=Tryz.func201.trans (congrArg some (by kernel_rfl))
  f37:=Tryz.func202.trans (congrArg some (by kernel_rfl))
  f38:=Tryz.func203.trans (congrArg some (by kernel_rfl))
  f39:=Tryz.func204.trans (congrArg some (by kernel_rfl))
  t0:=Tryz.underlying0
  a0:=Tryz.isAgg0
  z0:=Tryz.sizeOf0
  v0:=Tryz.zeroValue0
  i0:=by kernel_rfl
  t3:=Tryz.underlying3
  a3:=Tryz.isAgg3
  z3:=Tryz.sizeOf3
  v3:=Tryz.zeroValue3
  i3:=by kernel_rfl
  t4:=Tryz.underlying4
  a4:=Tryz.isAgg4
  z4:=Tryz.sizeOf4
  v4:=Tryz.zeroValue4
  i4:=by kernel_rfl
  t5:=Tryz.underlying5
  a5:=Tryz.isAgg5
  z5:=Tryz.sizeOf5
  v5:=Tryz.zeroValue5
  i5:=by kernel_rfl
  t9:=Tryz.underlying9
  a9:=Tryz.isAgg9
  z9:=Tryz.sizeOf9
  v9:=Tryz.zeroValue9
  i9:=by kernel_rfl
  t12:=Tryz.underlying12
  a12:=Tryz.isAgg12
  z12:=Tryz.sizeOf12
  v12:=Tryz.zeroValue12
  i12:=by kernel_rfl
  t17:=Tryz.underlying17
  a17:=Tryz.isAgg17
  z17:=Tryz.sizeOf17
  v17:=Tryz.zeroValue17
  i17:=by kernel_rfl
  t20:=Tryz.underlying20
  a20:=Tryz.isAgg20
  z20:=Tryz.sizeOf20
  v20:=Tryz.zeroValue20
  i20:=by kernel_rfl
  t26:=Tryz.underlying162
  a26:=Tryz.isAgg162
  z26:=Tryz.sizeOf162
  v26:=Tryz.zeroValue162
  i26:=by kernel_rfl
  t32:=Tryz.underlying130
  a32:=Tryz.isAgg130
  z32:=Tryz.sizeOf130
  v32:=Tryz.zeroValue130
  i32:=by kernel_rfl
  t33:=Tryz.underlying175
  a33:=Tryz.isAgg175
  z33:=Tryz.sizeOf175
  v33:=Tryz.zeroValue175
  i33:=by kernel_rfl
  t35:=Tryz.underlying177
  a35:=Tryz.isAgg177
  z35:=Tryz.sizeOf177
  v35:=Tryz.zeroValue177
  i35:=by kernel_rfl
  t37:=Tryz.underlying179
  a37:=Tryz.isAgg179
  z37:=Tryz.sizeOf179
  v37:=Tryz.zeroValue179
  i37:=by kernel_rfl
  t41:=Tryz.underlying115
  a41:=Tryz.isAgg115
  z41:=Tryz.sizeOf115
  v41:=Tryz.zeroValue115
  i41:=by kernel_rfl
  t44:=Tryz.underlying184
  a44:=Tryz.isAgg184
  z44:=Tryz.sizeOf184
  v44:=Tryz.zeroValue184
  i44:=by kernel_rfl
  t49:=Tryz.underlying172
  a49:=Tryz.isAgg172
  z49:=Tryz.sizeOf172
  v49:=Tryz.zeroValue172
  i49:=by kernel_rfl
  t51:=Tryz.underlying155
  a51:=Tryz.isAgg155
  z51:=Tryz.sizeOf155
  v51:=Tryz.zeroValue155
  i51:=by kernel_rfl
  t53:=Tryz.underlying200
  a53:=Tryz.isAgg200
  z53:=Tryz.sizeOf200
  v53:=Tryz.zeroValue200
  i53:=by kernel_rfl
  t54:=Tryz.underlying201
  a54:=Tryz.isAgg201
  z54:=Tryz.sizeOf201
  v54:=Tryz.zeroValue201
  i54:=by kernel_rfl
  t58:=Tryz.underlying138
  a58:=Tryz.isAgg138
  z58:=Tryz.sizeOf138
  v58:=Tryz.zeroValue138
  i58:=by kernel_rfl
  t60:=Tryz.underlying208
  a60:=Tryz.isAgg208
  z60:=Tryz.sizeOf208
  v60:=Tryz.zeroValue208
  i60:=by kernel_rfl
  t64:=Tryz.underlying212
  a64:=Tryz.isAgg212
  z64:=Tryz.sizeOf212
  v64:=Tryz.zeroValue212
  i64:=by kernel_rfl
  t66:=Tryz.underlying214
  a66:=Tryz.isAgg214
  z66:=Tryz.sizeOf214
  v66:=Tryz.zeroValue214
  i66:=by kernel_rfl
  t67:=Tryz.underlying215
  a67:=Tryz.isAgg215
  z67:=Tryz.sizeOf215
  v67:=Tryz.zeroValue215
  i67:=by kernel_rfl
  t75:=Tryz.underlying224
  a75:=Tryz.isAgg224
  z75:=Tryz.sizeOf224
  v75:=Tryz.zeroValue224
  i75:=by kernel_rfl
  t76:=Tryz.underlying225
  a76:=Tryz.isAgg225
  z76:=Tryz.sizeOf225
  v76:=Tryz.zeroValue225
  i76:=by kernel_rfl
  t77:=Tryz.underlying226
  a77:=Tryz.isAgg226
  z77:=Tryz.sizeOf226
  v77:=Tryz.zeroValue226
  i77:=by kernel_rfl
  t78:=Tryz.underlying104
  a78:=Tryz.isAgg104
  z78:=Tryz.sizeOf104
  v78:=Tryz.zeroValue104
  i78:=by kernel_rfl
  t79:=Tryz.underlying227
  a79:=Tryz.isAgg227
  z79:=Tryz.sizeOf227
  v79:=Tryz.zeroValue227
  i79:=by kernel_rfl
  t80:=Tryz.underlying228
  a80:=Tryz.isAgg228
  z80:=Tryz.sizeOf228
  v80:=Tryz.zeroValue228
  i80:=by kernel_rfl
  t82:=Tryz.underlying230
  a82:=Tryz.isAgg230
  z82:=Tryz.sizeOf230
  v82:=Tryz.zeroValue230
  i82:=by kernel_rfl}
def Cp:Go.Shelf.Ren:=⟨fun|171=>44|243=>88|246=>128|283=>147|284=>148|285=>149|286=>150|129=>166|317=>165|318=>167|319=>168|320=>169|337=>179|338=>180|n=>n,fun|3=>3|9=>9|2=>2|4=>4|171=>154|0=>0|53=>155|37=>22|5=>5|173=>158|212=>171|51=>172|20=>20|213=>173|46=>115|232=>206|233=>207|n=>n,fun|17=>3|18=>6|19=>7|n=>n⟩
theorem Co:Go.Proofs.LaysM.n171 Tryz.prog Cp:={
  mixed:=by kernel_rfl
  f129:=Tryz.func166.trans (congrArg some (by kernel_rfl))
  f171:=Tryz.func44.trans (congrArg some (by kernel_rfl))
  f243:=Tryz.func88.trans (congrArg some (by kernel_rfl))
  f246:=Tryz.func128.trans (congrArg some (by kernel_rfl))
  f283:=Tryz.func147.trans (congrArg some (by kernel_rfl))
  f284:=Tryz.func148.trans (congrArg some (by kernel_rfl))
  f285:=Tryz.func149.trans (congrArg some (by kernel_rfl))
  f286:=Tryz.func150.trans (congrArg some (by kernel_rfl))
  f317:=Tryz.func165.trans (congrArg some (by kernel_rfl))
  f318:=Tryz.func167.trans (congrArg some (by kernel_rfl))
  f319:=Tryz.func168.trans (congrArg some (by kernel_rfl))
  f320:=Tryz.func169.trans (congrArg some (by kernel_rfl))
  f337:=Tryz.func179.trans (congrArg some (by kernel_rfl))
  f338:=Tryz.func180.trans (congrArg some (by kernel_rfl))
  t0:=Tryz.underlying0
  a0:=Tryz.isAgg0
  z0:=Tryz.sizeOf0
  v0:=Tryz.zeroValue0
  t2:=Tryz.underlying2
  a2:=Tryz.isAgg2
  z2:=Tryz.sizeOf2
  v2:=Tryz.zeroValue2
  t3:=Tryz.underlying3
  a3:=Tryz.isAgg3
  z3:=Tryz.sizeOf3
  v3:=Tryz.zeroValue3
  t4:=Tryz.underlying4
  a4:=Tryz.isAgg4
  z4:=Tryz.sizeOf4
  v4:=Tryz.zeroValue4
  t5:=Tryz.underlying5
  a5:=Tryz.isAgg5
  z5:=Tryz.sizeOf5
  v5:=Tryz.zeroValue5
  t9:=Tryz.underlying9
  a9:=Tryz.isAgg9
  z9:=Tryz.sizeOf9
  v9:=Tryz.zeroValue9
  t20:=Tryz.underlying20
  a20:=Tryz.isAgg20
  z20:=Tryz.sizeOf20
  v20:=Tryz.zeroValue20
  t37:=Tryz.underlying22
  a37:=Tryz.isAgg22
  z37:=Tryz.sizeOf22
  v37:=Tryz.zeroValue22
  t46:=Tryz.underlying115
  a46:=Tryz.isAgg115
  z46:=Tryz.sizeOf115
  v46:=Tryz.zeroValue115
  t51:=Tryz.underlying172
  a51:=Tryz.isAgg172
  z51:=Tryz.sizeOf172
  v51:=Tryz.zeroValue172
  t53:=Tryz.underlying155
  a53:=Tryz.isAgg155
  z53:=Tryz.sizeOf155
  v53:=Tryz.zeroValue155
  t171:=Tryz.underlying154
  a171:=Tryz.isAgg154
  z171:=Tryz.sizeOf154
  v171:=Tryz.zeroValue154
  t173:=Tryz.underlying158
  a173:=Tryz.isAgg158
  z173:=Tryz.sizeOf158
  v173:=Tryz.zeroValue158
  t212:=Tryz.underlying171
  a212:=Tryz.isAgg171
  z212:=Tryz.sizeOf171
  v212:=Tryz.zeroValue171
  t213:=Tryz.underlying173
  a213:=Tryz.isAgg173
  z213:=Tryz.sizeOf173
  t232:=Tryz.underlying206
  a232:=Tryz.isAgg206
  z232:=Tryz.sizeOf206
  v232:=Tryz.zeroValue206
  t233:=Tryz.underlying207
  a233:=Tryz.isAgg207
  z233:=Tryz.sizeOf207
  v233:=Tryz.zeroValue207
  g17:=by kernel_rfl
  g18:=by kernel_rfl
  g19:=by kernel_rfl
  i0:=by kernel_rfl
  i2:=by kernel_rfl
  i3:=by kernel_rfl
  i4:=by kernel_rfl
  i5:=by kernel_rfl
  i9:=by kernel_rfl
  i20:=by kernel_rfl
  i37:=by kernel_rfl
  i46:=by kernel_rfl
  i51:=by kernel_rfl
  i53:=by kernel_rfl
  i171:=by kernel_rfl
  i173:=by kernel_rfl
  i212:=by kernel_rfl
  i232:=by kernel_rfl
  i233:=by kernel_rfl
  m17:=by kernel_rfl
  m18:=by kernel_rfl
  m19:=by kernel_rfl}
def vX:Go.Shelf.Ren:=⟨fun|156=>82|165=>120|166=>37|169=>38|240=>84|241=>136|276=>121|277=>156|n=>n,fun|31=>38|9=>9|3=>3|4=>4|0=>0|20=>20|72=>68|76=>72|70=>66|37=>22|75=>71|127=>104|164=>130|5=>5|80=>74|n=>n,fun|n=>n⟩
theorem vW:Go.Proofs.Lays.n156 Tryz.prog vX:={
  mixed:=by kernel_rfl
  f156:=Tryz.func82.trans (congrArg some (by kernel_rfl))
  f165:=Tryz.func120.trans (congrArg some (by kernel_rfl))
  f166:=Tryz.func37.trans (congrArg some (by kernel_rfl))
  f169:=Tryz.func38.trans (congrArg some (by kernel_rfl))
  f240:=Tryz.func84.trans (congrArg some (by kernel_rfl))
  f241:=Tryz.func136.trans (congrArg some (by kernel_rfl))
  f276:=Tryz.func121.trans (congrArg some (by kernel_rfl))
  f277:=Tryz.func156.trans (congrArg some (by kernel_rfl))
  t0:=Tryz.underlying0
  a0:=Tryz.isAgg0
  z0:=Tryz.sizeOf0
  v0:=Tryz.zeroValue0
  t3:=Tryz.underlying3
  a3:=Tryz.isAgg3
  z3:=Tryz.sizeOf3
  v3:=Tryz.zeroValue3
  t4:=Tryz.underlying4
  a4:=Tryz.isAgg4
  z4:=Tryz.sizeOf4
  v4:=Tryz.zeroValue4
  t9:=Tryz.underlying9
  a9:=Tryz.isAgg9
  z9:=Tryz.sizeOf9
  v9:=Tryz.zeroValue9
  t20:=Tryz.underlying20
  a20:=Tryz.isAgg20
  z20:=Tryz.sizeOf20
  v20:=Tryz.zeroValue20
  t31:=Tryz.underlying38
  a31:=Tryz.isAgg38
  z31:=Tryz.sizeOf38
  v31:=Tryz.zeroValue38
  t37:=Tryz.underlying22
  a37:=Tryz.isAgg22
  z37:=Tryz.sizeOf22
  v37:=Tryz.zeroValue22
  t70:=Tryz.underlying66
  a70:=Tryz.isAgg66
  z70:=Tryz.sizeOf66
  v70:=Tryz.zeroValue66
  t72:=Tryz.underlying68
  a72:=Tryz.isAgg68
  z72:=Tryz.sizeOf68
  v72:=Tryz.zeroValue68
  t75:=Tryz.underlying71
  a75:=Tryz.isAgg71
  z75:=Tryz.sizeOf71
  v75:=Tryz.zeroValue71
  t76:=Tryz.underlying72
  a76:=Tryz.isAgg72
  z76:=Tryz.sizeOf72
  v76:=Tryz.zeroValue72
  t127:=Tryz.underlying104
  a127:=Tryz.isAgg104
  z127:=Tryz.sizeOf104
  v127:=Tryz.zeroValue104
  t164:=Tryz.underlying130
  a164:=Tryz.isAgg130
  z164:=Tryz.sizeOf130
  v164:=Tryz.zeroValue130}
theorem wh:Builder.Extra Tryz.prog vX:={
  sizeBuilder:=by kernel_rfl
  liesBuilder:=by kernel_rfl
  t5:=Tryz.underlying5
  a5:=Tryz.isAgg5
  z5:=Tryz.sizeOf5
  v5:=Tryz.zeroValue5
  infoByte:=by kernel_rfl
  cellsByte:=by kernel_rfl
  sizeByte:=by kernel_rfl
  neB5:=by decide}
end P
namespace Q
open Go.RowKit WW.bq
theorem ai {α:Type} {c:Prop} [Decidable c] (h:c) {f g:Nat→Option α} {r:α} (k:Ev f r):Ev (fun n=>if c then f n else g n) r:=by
  simp only[af h];exact k
theorem aw {α:Type} {c:Prop} [Decidable c] (h:¬c) {f g:Nat→Option α} {r:α} (k:Ev g r):Ev (fun n=>if c then f n else g n) r:=by
  simp only[ag h];exact k
theorem er {α:Type} {c:Prop} [Decidable c] {f g:Nat→Option α} {r:α} (k1:c→Ev f r) (k2:¬c→Ev g r):Ev (fun n=>if c then f n else g n) r:=by
  by_cases h:c
  · exact ai h (k1 h)
  · exact aw h (k2 h)
theorem bc {α β:Type} {x:Option α} {f:Nat→α→Option β} {a:α} {r:β} (h:x=some a) (k:Ev (fun n=>f n a) r):Ev (fun n=>x.bind (f n)) r:=by
  simp only[h,aG];exact k
theorem evs {α:Type} {a b:α} (h:a=b):Ev (fun _=>some a) b:=h▸Ev.now a
theorem yq {α:Type} {g:Nat→Option α} {a b:α} (h:Ev g a) (e:a=b):Ev g b:=e▸h
theorem bC {α:Type} {c:Prop} [Decidable c] (h:c) {f:Nat→Option α} {r s:α} (k:Ev f r):Ev f (if c then r else s):=by rw[af h];exact k
theorem bf {α:Type} {c:Prop} [Decidable c] (h:¬c) {f:Nat→Option α} {r s:α} (k:Ev f s):Ev f (if c then r else s):=by rw[ag h];exact k
theorem oa {c:Prop} [Decidable c] (h:c):decide c=true:=ah h
theorem nV {c:Prop} [Decidable c] (h:¬c):¬decide c=true:=by simpa using h
theorem down {P:Nat→Prop} {n:Nat} (he:P n) (hs:∀i,i<n→P (i+1)→P i) (i:Nat) (h:i≤n):P i:=by
  obtain⟨d,rfl⟩:∃d,n=i+d:=⟨n-i,by omega⟩;clear h
  induction d generalizing i with
  |zero=>exact he
  |succ d ih=>
   refine hs i (by omega) (ih (i+1) ?_ ?_)
   · rw[show i+1+d=i+(d+1)by omega];exact he
   · intro j hj;exact hs j (by omega)
theorem cm {n:Int} (h1: -9223372036854775808≤n) (h2:n≤9223372036854775807):wrap64 n=n:=by unfold wrap64;omega
theorem cw {n:Int} (h:(Lit.int .i64 n).wf=true): -9223372036854775808≤n∧n≤9223372036854775807:=by
  simp[Lit.wf,IntKind.min,IntKind.max,IntKind.signed,IntKind.bits]at h;omega
theorem ny (l:List Int) (i:Nat) (h:i<l.length):rd l (i:Int)=l[i]:=by
  unfold rd;simp[List.getD_eq_getElem?_getD,h]
theorem drop_cons {α:Type} (l:List α) (i:Nat) (h:i<l.length):l.drop i=l[i]::l.drop (i+1):=List.drop_eq_getElem_cons h
theorem lN {α:Type} (l:List α):l.drop l.length=[]:=List.drop_eq_nil_of_le (Nat.le_refl _)
theorem BM {α:Type} (l:List α) (i:Nat) (v:α) (h:i<l.length):(l.set i v).take (i+1)=l.take i++[v]:=by
  rw[List.take_set,List.take_succ_eq_append_getElem h,List.set_append_right _ _ (by simp;omega)];simp[Nat.min_eq_left (Nat.le_of_lt h)]
end Q
namespace P
open Go.RowKit Go.Sort WW.bq
structure Plain {α:Type} (d:Kd α) (enc:α→List Value):Prop where
  len:∀x,(enc x).length=d.sz
  pos:0<d.sz
  of:∀{w base ok x cs},d.M w base ok x cs→cs=enc x
  make:∀w base ok x,d.M w base ok x (enc x)
theorem rZ (w:World) (g j:Nat) (f:Array Value→Array Value):(mapBlock w g f).heap[j]? =if g=j then w.heap[j]?.map (onCells f)else w.heap[j]? :=by
  unfold mapBlock;simp only[Array.getElem?_modify]
section
variable {α:Type} [Inhabited α] {d:Kd α} {e base g cap:Nat} {W:World} {ok:Nat→Prop} {xs:List α} {enc:α→List Value}
theorem tM {inner:List Value} {k i c:Nat} (hc:c<k):((inner.drop (i*k)).take k)[c]? =inner[i*k+c]? :=by
  rw[List.getElem?_take_of_lt hc,List.getElem?_drop]
theorem yN (hp:Plain d enc) (h:d.R e W base ok (.slice (some ⟨g,0,none⟩) xs.length cap) xs):HoldsK enc d.sz W g 0 xs.toArray:=by
  obtain⟨_,inner,ho,hr⟩:=h;rcases ho.2 with ⟨hn,_⟩|⟨g',cap',cur,hv,hg,hh,hle,hmx,hcs,htk⟩
  · simp at hn
  obtain⟨rfl,rfl⟩:g=g'∧cap=cap':=by simp at hv;exact hv
  intro j hj;have hj':j<xs.length*d.sz:=by simpa using hj
  have hk:=hp.pos;have hi:j/d.sz<xs.length:=by rw[Nat.div_lt_iff_lt_mul hk];exact hj'
  have hc:j%d.sz<d.sz:=Nat.mod_lt _ hk;have hjj:j/d.sz*d.sz+j%d.sz=j:=by rw[Nat.mul_comm];exact Nat.div_add_mod j d.sz
  have e1:=hp.of (hr.2 (j/d.sz) xs[j/d.sz] (List.getElem?_eq_getElem hi));have e2:inner[j]? =(enc xs[j/d.sz])[j%d.sz]? :=by rw[←e1,tM hc,hjj]
  have e3:cur[j]? =inner[j]? :=by
    rw[←htk,List.getElem?_take_of_lt hj'];simp
  rw[get_flatK _ _ _ _ (by simpa using hj'),Nat.zero_add];refine⟨?_,ar hh j⟩;rw[dH hh j,e3,e2];have hl:j%d.sz<(enc xs[j/d.sz]).length:=by rw[hp.len];exact hc
  simp[hi,hl]
end
theorem Cc {α:Type} [Inhabited α] {lt:α→α→Bool} {D D':Array α} (hp:PermIn 0 D.size D D') (hs:SortedIn lt 0 D.size D') (tot:∀a∈D.toList,∀b∈D.toList,a≠b→lt a b=true∨lt b a=true) (nd:D.toList.Nodup):
    D'.toList.Perm D.toList∧D'.toList.Pairwise (fun a b=>lt a b=true):=by
  have hsz:=hp.1
  have u:D'.toList.Perm D.toList:=by
    have:=hp.2.2;rw[Array.extract_eq_self_of_le (by omega),Array.extract_eq_self_of_le (by omega)]at this;exact this
  refine⟨u,?_⟩;have z:D'.toList.Nodup:=u.nodup_iff.mpr nd;rw[List.pairwise_iff_getElem];intro i j hi hj hij;have hi':i<D'.size:=by simpa using hi
  have hj':j<D'.size:=by simpa using hj
  have h1:=hs i j (Nat.zero_le _) hij (by omega);simp only[getElem!_pos D' i hi',getElem!_pos D' j hj']at h1
  have hne:D'.toList[i]≠D'.toList[j]:=by
    intro he;have:=(List.pairwise_iff_getElem.1 z) i j hi hj hij;exact this he
  rcases tot D'.toList[i] (u.mem_iff.1 (List.getElem_mem hi)) D'.toList[j] (u.mem_iff.1 (List.getElem_mem hj)) hne with h|h
  · exact h
  · simp only[Array.getElem_toList]at h;rw[h]at h1;cases h1
end P
namespace Q
open Go.RowKit Go.Deep Go.ChangeShapes Go.WideShapes WW.bq
def jT {α:Type} (P:Program) (w:World) (d:Kd α) (T:TypeId) (G:α→Prop):Prop:=
  ∀(H:Type) (enc:TypeId×Value→H) (base:Nat) (spare:Nat→Bool) (held:Bool) (fuel:Nat) (cs:List Value) (x:DataW H×List MemPlace),
   DataW.trod enc P w base spare held fuel T cs=some x→∃v,d.K w v cs∧G v
def s6 {α:Type} (P:Program) (w:World) (d:Kd α) (off:Nat) (fs:Array Field) (i:Nat) (G:α→Prop):Prop:=
  ∀(H:Type) (enc:TypeId×Value→H) (base:Nat) (spare:Nat→Bool) (held:Bool) (fuel:Nat) (cs:List Value),cs.length=off+d.sz→
   (∀j f,i≤j→fs[j]? =some f→∃y:DataW H×List MemPlace,DataW.trod enc P w base spare held fuel f.type ((cs.drop f.offset).take (P.cellsOf f.type))=some y)→∃v,d.K w v (cs.drop off)∧G v
section
variable {P:Program} {w:World}
theorem jT.mono {α:Type} {d:Kd α} {T:TypeId} {G G':α→Prop} (h:jT P w d T G) (hg:∀x,G x→G' x):jT P w d T G':=by
  intro H enc base spare held fuel cs x hx;obtain⟨v,hv,g⟩:=h H enc base spare held fuel cs x hx;exact⟨v,hv,hg v g⟩
theorem jT.int {k:IntKind} {T:TypeId} (ht:P.underlying T=some (.int k)):jT P w (Kd.int k) T (fun n=>(Lit.int k n).wf=true):=by
  intro H enc base spare held fuel cs x hx;obtain⟨n,rfl,_,hw⟩:=DataW.trod_int ht hx;exact⟨n,rfl,hw⟩
theorem jT.slice {α:Type} (z:α) {d:Kd α} {E T:TypeId} {G:α→Prop} (ht:P.underlying T=some (.slice E)) (hC:P.cellsOf E=d.sz) (h:jT P w d E G):
    jT P w (Kd.slice E d) T (fun l=>l.length≤9223372036854775807∧∀x∈l,G x):=by
  haveI:Inhabited α:=⟨z⟩
  intro H enc base spare held fuel cs x hx;rcases open_slice ht hx with ⟨rfl,_⟩|⟨a,len,cap,m,n,D,Pl,rfl,hb,hl,hm,F,_,hi⟩
  · exact⟨[],⟨none,0,rfl,Nat.le_refl _,rfl,by simp,fun h=>absurd h (by simp)⟩,by simp,by simp⟩
  · have I:len≤m:=by rw[F];split<;>omega
    obtain⟨V,hV⟩:=choose_lt (α:=α) (n:=len) (p:=fun i v=>G v∧∃c,c.length=d.sz∧d.K w v c∧∀j u,c[j]? =some u→w.cell? (a.add (i*d.sz+j))=some u) (fun i hil=>by
      obtain⟨cs',h1,h2⟩:=hi i (by omega);obtain⟨v,hv,g⟩:=h H enc base spare held n cs' _ h2;obtain⟨_,hcl,hat⟩:=World.cells?_some h1;refine⟨v,g,cs',by rw[hcl,hC],hv,fun j u hu=> ?_⟩;have hj:j<P.cellsOf E:=(by rw[←hcl];exact(List.getElem?_eq_some_iff.1 hu).1);have:=hat j hj;rw[hC,Go.Deep.add_add]at this;rw[this,hu])
    refine⟨(List.range len).map V,⟨some a,cap,by simp,by simpa using hl,by simp,by have:=hm;unfold maxLen at this;simp;omega,fun _=>⟨a,rfl,fun j p hj=> ?_⟩⟩,?_⟩
    · have hj':j<len:=(by have:=(List.getElem?_eq_some_iff.1 hj).1;simpa using this);obtain rfl:V j=p:=(by simpa[hj']using hj);exact(hV j hj').2
    · refine⟨by have:=hm;unfold maxLen at this;simp;omega,fun x hx=> ?_⟩;obtain⟨i,hi,rfl⟩:=List.mem_map.1 hx;exact(hV i (List.mem_range.1 hi)).1
theorem s6.one {α:Type} {d:Kd α} {off i:Nat} {fs:Array Field} {f:Field} {G:α→Prop} (hf:fs[i]? =some f) (h:jT P w d f.type G) (ho:f.offset=off) (hc:P.cellsOf f.type=d.sz):s6 P w d off fs i G:=by
  intro H enc base spare held fuel cs hlen hfs;obtain⟨y,hy⟩:=hfs i f (Nat.le_refl _) hf;rw[ho,hc,List.take_of_length_le (by simp[hlen])]at hy;exact h H enc base spare held fuel _ _ hy
theorem jT.string {T:TypeId} (ht:P.underlying T=some .string):jT P w Kd.string T (fun s=>s.size≤maxLen):=by
  intro H enc base spare held fuel cs x hx;obtain⟨s,rfl,_,hs⟩:=DataW.trod_string ht hx;exact⟨s,rfl,hs⟩
end
end Q
namespace P
open Go.RowKit WW.bq WW.cg WW.cd
attribute [local go_sem] cN cR cQ cU cP cT cO cS
def tX:Option Int→Value
 |none=> .nilIface
 |some c=> .iface 148 (.int .i64 c)
theorem eJ:tX none= .nilIface:=rfl
theorem eK (c:Int):tX (some c)= .iface 148 (.int .i64 c):=rfl
theorem info3:(Tryz.prog.info? 3).map (fun i=>(i.zero,i.size,i.bytes))=some (some (.int .i64 0),1,8):=by kernel_rfl
theorem yR:(Tryz.prog.info? 4).map (fun i=>(i.zero,i.size,i.bytes))=some (some (.bool false),1,1):=by kernel_rfl
theorem ld:(Tryz.prog.info? 9).map (fun i=>(i.zero,i.size,i.bytes))=some (some (.string ⟨#[]⟩),1,16):=by kernel_rfl
theorem uj:(Tryz.prog.info? 57).map (fun i=>(i.zero,i.size,i.bytes))=some (some (.agg #[(.int .i64 0),(.int .i64 0),(.int .i64 0),(.int .i64 0)]),4,32):=by kernel_rfl
theorem ni:(Tryz.prog.info? 64).map (fun i=>(i.zero,i.size,i.bytes))=some (some (.agg #[(.int .i64 0),(.int .i64 0),(.int .i64 0),(.int .i64 0)]),4,32):=by kernel_rfl
theorem kz:(Tryz.prog.info? 110).map (fun i=>(i.zero,i.size,i.bytes))=some (some (.agg #[(.int .i64 0),(.int .i64 0),(.int .i64 0),(.int .i64 0)]),4,32):=by kernel_rfl
structure aj where
 f0:Int
 f1:Int
 f2:Int
 f3:Int
def lD:aj:=⟨(0:Int),(0:Int),(0:Int),(0:Int)⟩
def aX:Kd aj:=Kd.pN (Kd.pair (Kd.int .i64) (Kd.pair (Kd.int .i64) (Kd.pair (Kd.int .i64) (Kd.int .i64)))) (fun x:aj=>(x.f0,x.f1,x.f2,x.f3))
theorem y9 {w:World} {x:aj} {cs:List Value} (h:aX.K w x cs):cs=[.int .i64 x.f0,.int .i64 x.f1,.int .i64 x.f2,.int .i64 x.f3]:=by
 obtain⟨_,_,rfl,rfl,⟨_,_,rfl,rfl,⟨_,_,rfl,rfl,rfl⟩⟩⟩:=h;exact rfl
theorem mv (w:World) (base:Nat) (ok:Nat→Prop) (x:aj):aX.M w base ok x [.int .i64 x.f0,.int .i64 x.f1,.int .i64 x.f2,.int .i64 x.f3]:=⟨[.int .i64 x.f0],[.int .i64 x.f1,.int .i64 x.f2,.int .i64 x.f3],rfl,rfl,⟨[.int .i64 x.f1],[.int .i64 x.f2,.int .i64 x.f3],rfl,rfl,⟨[.int .i64 x.f2],[.int .i64 x.f3],rfl,rfl,rfl⟩⟩⟩
def ak (xs:List aj) (i:Int):aj:=xs.getD i.toNat lD
theorem eV {w:World} {A:Option Addr} {n:Nat} {xs:List aj} (h:Kd.C aX w A n xs) (i:Int) (h0:0≤i) (h1:i<n):∃ad,A=some ad∧w.cell? (ad.add (i.toNat*4))=some (.int .i64 (ak xs i).f0)∧w.cell? ⟨(ad.add (i.toNat*4)).block,(ad.add (i.toNat*4)).off+1,none⟩=some (.int .i64 (ak xs i).f1)∧w.cell? ⟨(ad.add (i.toNat*4)).block,(ad.add (i.toNat*4)).off+2,none⟩=some (.int .i64 (ak xs i).f2)∧w.cell? ⟨(ad.add (i.toNat*4)).block,(ad.add (i.toNat*4)).off+3,none⟩=some (.int .i64 (ak xs i).f3):=by
 obtain⟨ad,c,e,_,hK,hc0⟩:=Kd.qU h lD i h0 h1;have hc:∀j u,c[j]? =some u→w.cell? (ad.add (i.toNat*4+j))=some u:=hc0;obtain rfl:=y9 hK;exact⟨ad,e,hc 0 _ rfl,by rw[←kU _ _ 1 (by omega)];exact hc 1 _ rfl,by rw[←kU _ _ 2 (by omega)];exact hc 2 _ rfl,by rw[←kU _ _ 3 (by omega)];exact hc 3 _ rfl⟩
structure bP where
 f0:Int
 f1:Int
def C6:bP:=⟨(0:Int),(0:Int)⟩
def pO:Kd bP:=Kd.pN (Kd.pair (Kd.int .i64) (Kd.int .i64)) (fun x:bP=>(x.f0,x.f1))
theorem ze {w:World} {x:bP} {cs:List Value} (h:pO.K w x cs):cs=[.int .i64 x.f0,.int .i64 x.f1]:=by
 obtain⟨_,_,rfl,rfl,rfl⟩:=h;exact rfl
theorem zf {w:World} {base:Nat} {ok:Nat→Prop} {x:bP} {cs:List Value} (h:pO.M w base ok x cs):cs=[.int .i64 x.f0,.int .i64 x.f1]:=by
 obtain⟨_,_,rfl,rfl,rfl⟩:=h;exact rfl
theorem zb (w:World) (base:Nat) (ok:Nat→Prop) (x:bP):pO.M w base ok x [.int .i64 x.f0,.int .i64 x.f1]:=⟨[.int .i64 x.f0],[.int .i64 x.f1],rfl,rfl,rfl⟩
structure S64 where
 f0:bP
 f1:Int
 f2:Int
def z64:S64:=⟨C6,(0:Int),(0:Int)⟩
def aW:Kd S64:=Kd.pN (Kd.pair pO (Kd.pair (Kd.int .i64) (Kd.int .i64))) (fun x:S64=>(x.f0,x.f1,x.f2))
theorem zg {w:World} {x:S64} {cs:List Value} (h:aW.K w x cs):cs=[.int .i64 x.f0.f0,.int .i64 x.f0.f1,.int .i64 x.f1,.int .i64 x.f2]:=by
 obtain⟨_,_,rfl,s0,⟨_,_,rfl,rfl,rfl⟩⟩:=h;obtain rfl:=ze s0;exact rfl
theorem np {w:World} {base:Nat} {ok:Nat→Prop} {x:S64} {cs:List Value} (h:aW.M w base ok x cs):cs=[.int .i64 x.f0.f0,.int .i64 x.f0.f1,.int .i64 x.f1,.int .i64 x.f2]:=by
 obtain⟨_,_,rfl,s0,⟨_,_,rfl,rfl,rfl⟩⟩:=h;obtain rfl:=zf s0;exact rfl
theorem kB (w:World) (base:Nat) (ok:Nat→Prop) (x:S64):aW.M w base ok x [.int .i64 x.f0.f0,.int .i64 x.f0.f1,.int .i64 x.f1,.int .i64 x.f2]:=⟨[.int .i64 x.f0.f0,.int .i64 x.f0.f1],[.int .i64 x.f1,.int .i64 x.f2],rfl,(zb w base ok x.f0),⟨[.int .i64 x.f1],[.int .i64 x.f2],rfl,rfl,rfl⟩⟩
def au (xs:List S64) (i:Int):S64:=xs.getD i.toNat z64
theorem eW {w:World} {A:Option Addr} {n:Nat} {xs:List S64} (h:Kd.C aW w A n xs) (i:Int) (h0:0≤i) (h1:i<n):∃ad,A=some ad∧w.cell? (ad.add (i.toNat*4))=some (.int .i64 (au xs i).f0.f0)∧w.cell? ⟨(ad.add (i.toNat*4)).block,(ad.add (i.toNat*4)).off+1,none⟩=some (.int .i64 (au xs i).f0.f1)∧w.cell? ⟨(ad.add (i.toNat*4)).block,(ad.add (i.toNat*4)).off+2,none⟩=some (.int .i64 (au xs i).f1)∧w.cell? ⟨(ad.add (i.toNat*4)).block,(ad.add (i.toNat*4)).off+3,none⟩=some (.int .i64 (au xs i).f2):=by
 obtain⟨ad,c,e,_,hK,hc0⟩:=Kd.qU h z64 i h0 h1;have hc:∀j u,c[j]? =some u→w.cell? (ad.add (i.toNat*4+j))=some u:=hc0;obtain rfl:=zg hK;exact⟨ad,e,hc 0 _ rfl,by rw[←kU _ _ 1 (by omega)];exact hc 1 _ rfl,by rw[←kU _ _ 2 (by omega)];exact hc 2 _ rfl,by rw[←kU _ _ 3 (by omega)];exact hc 3 _ rfl⟩
structure bM where
 f0:Int
 f1:Int
 f2:Int
 f3:Int
def wH:bM:=⟨(0:Int),(0:Int),(0:Int),(0:Int)⟩
def iD:Kd bM:=Kd.pN (Kd.pair (Kd.int .i64) (Kd.pair (Kd.int .i64) (Kd.pair (Kd.int .i64) (Kd.int .i64)))) (fun x:bM=>(x.f0,x.f1,x.f2,x.f3))
theorem za {w:World} {x:bM} {cs:List Value} (h:iD.K w x cs):cs=[.int .i64 x.f0,.int .i64 x.f1,.int .i64 x.f2,.int .i64 x.f3]:=by
 obtain⟨_,_,rfl,rfl,⟨_,_,rfl,rfl,⟨_,_,rfl,rfl,rfl⟩⟩⟩:=h;exact rfl
theorem uq (w:World) (base:Nat) (ok:Nat→Prop) (x:bM):iD.M w base ok x [.int .i64 x.f0,.int .i64 x.f1,.int .i64 x.f2,.int .i64 x.f3]:=⟨[.int .i64 x.f0],[.int .i64 x.f1,.int .i64 x.f2,.int .i64 x.f3],rfl,rfl,⟨[.int .i64 x.f1],[.int .i64 x.f2,.int .i64 x.f3],rfl,rfl,⟨[.int .i64 x.f2],[.int .i64 x.f3],rfl,rfl,rfl⟩⟩⟩
def iI (xs:List bM) (i:Int):bM:=xs.getD i.toNat wH
theorem gQ {w:World} {A:Option Addr} {n:Nat} {xs:List bM} (h:Kd.C iD w A n xs) (i:Int) (h0:0≤i) (h1:i<n):∃ad,A=some ad∧w.cell? (ad.add (i.toNat*4))=some (.int .i64 (iI xs i).f0)∧w.cell? ⟨(ad.add (i.toNat*4)).block,(ad.add (i.toNat*4)).off+1,none⟩=some (.int .i64 (iI xs i).f1)∧w.cell? ⟨(ad.add (i.toNat*4)).block,(ad.add (i.toNat*4)).off+2,none⟩=some (.int .i64 (iI xs i).f2)∧w.cell? ⟨(ad.add (i.toNat*4)).block,(ad.add (i.toNat*4)).off+3,none⟩=some (.int .i64 (iI xs i).f3):=by
 obtain⟨ad,c,e,_,hK,hc0⟩:=Kd.qU h wH i h0 h1;have hc:∀j u,c[j]? =some u→w.cell? (ad.add (i.toNat*4+j))=some u:=hc0;obtain rfl:=za hK;exact⟨ad,e,hc 0 _ rfl,by rw[←kU _ _ 1 (by omega)];exact hc 1 _ rfl,by rw[←kU _ _ 2 (by omega)];exact hc 2 _ rfl,by rw[←kU _ _ 3 (by omega)];exact hc 3 _ rfl⟩
end P
namespace WW.cg
open Go.RowKit WW.bq
section
variable {P:Program} {ops:Array Oper} {Q:Exit→Act→World→Prop} {md:Region.Mode} {S:World→Prop} {ds:List Nat} {T:Bool×List (List Nat×List Nat)} {B:List Nat} {oi oj:Oper} {v:Value} {fuel:Nat} {l l' lj:Array Bool} {a a':Act} {w:World}
theorem pA (i:Nat) (N:Option Tmp) (u:bo md ops=T) (h:bK P md ops Q S ds fuel l' a' w) (hi:ops[i]? =some oi:=by rfl) (hN:oi.dst=N:=by rfl)
    (hl:l.setIfInBounds i true=l':=by simp only[List.setIfInBounds_toArray,List.set_cons_zero,List.set_cons_succ];rfl) (hc:nU T l.toList l'.toList i=true:=by kernel_rfl)
    (hQ:∀c a w,Q (.panic c) (a.put oi.dst v) w→Q (.panic c) a w:=by exact fun _ _ _ h=>h) (hw:Region.wanted oi (yielded ops a.tmps)=true:=by rfl)
    (hy:∀w',(execOp a.eval oi).run P w'= .ok (.value v) w':=by intro w';go_simp;with_reducible rfl) (ha:a.put N v=a':=by simp only[Act.put,List.setIfInBounds_toArray,List.set_cons_zero,List.set_cons_succ,bG,bN];rfl):
    bK P md ops Q S ds (fuel+1) l a w:=jo l' hi hN (ru u hc) hQ (Or.inl ⟨hw,hy⟩) ha h
theorem pU (i:Nat) (N:Option Tmp) (u:bo md ops=T) (h:bK P md ops Q S ds fuel l' a' w) (hi:ops[i]? =some oi:=by rfl) (hN:oi.dst=N:=by rfl)
    (hl:l.setIfInBounds i true=l':=by simp only[List.setIfInBounds_toArray,List.set_cons_zero,List.set_cons_succ];rfl) (hc:nU T l.toList l'.toList i=true:=by kernel_rfl)
    (hQ:∀c a w,Q (.panic c) (a.put oi.dst undef) w→Q (.panic c) a w:=by exact fun _ _ _ h=>h) (hw:Region.wanted oi (yielded ops a.tmps)=false:=by rfl)
    (ha:a.put N undef=a':=by simp only[Act.put,List.setIfInBounds_toArray,List.set_cons_zero,List.set_cons_succ,bG,bN];rfl):
    bK P md ops Q S ds (fuel+1) l a w:=jo (v:=undef) l' hi hN (ru u hc) hQ (Or.inr ⟨hw,rfl⟩) ha h
theorem pT (i:Nat) (N:Option Tmp) (u:bo md ops=T) (HW:cp T.2 B=true) (hS:S w) (h:bK P md ops Q S ds fuel l' a' w) (hi:ops[i]? =some oi:=by rfl) (hN:oi.dst=N:=by rfl)
    (hl:l.setIfInBounds i true=l':=by simp only[List.setIfInBounds_toArray,List.set_cons_zero,List.set_cons_succ];rfl) (hc:qy T B ds l.toList l'.toList i=true:=by kernel_rfl)
    (hQ:∀c a w,Q (.panic c) (a.put oi.dst v) w→Q (.panic c) a w:=by exact fun _ _ _ h=>h) (hw:Region.wanted oi (yielded ops a.tmps)=true:=by rfl)
    (hy:∀w',S w'→(execOp a.eval oi).run P w'= .ok (.value v) w':=by intro w' s_;(try dsimp only at s_);repeat(have:=s_.1;replace s_:=s_.2);go_simp;with_reducible rfl) (ha:a.put N v=a':=by simp only[Act.put,List.setIfInBounds_toArray,List.set_cons_zero,List.set_cons_succ,bG,bN];rfl):
    bK P md ops Q S ds (fuel+1) l a w:=nI l' hi hN (wk u HW hc) hQ (Or.inl ⟨hw,hy⟩) hS ha h
theorem gL {rest:List Oper} {f:FuncId} {fn:Func} {os:Array Operand} {ts:Array TypeId} (N:Option Tmp) (hf:P.funcs[f]? =some fn) (args:Array Value)
    (h:Calls P f args w fun e w'=>∃v,e= .returned v∧wpList P ops Q rest (a.put N v) w') (hd:oi.dst=N:=by rfl) (hg:oi.guard=none:=by rfl) (hname:(fn.name== "runtime.NumGoroutine")=false:=by kernel_rfl) (hb:fn.body.isSome=true:=by rfl)
    (hop:oi.op= .call {callee:= .value (.func f),args:=os,argTypes:=ts}:=by rfl) (hargs:os.map a.eval=args:=by(try simp only[List.map_toArray,List.map_cons,List.map_nil]);first|done|rfl|(simp only[List.length_drop,List.length_take];rfl)):
    wpList P ops Q (oi::rest) a w:=ku N hd hg hf hname hb args hop hargs h
end
end WW.cg
namespace P
open Go.RowKit WW.bq WW.cg WW.cd
theorem cF {w W:World} {a:Addr} {g:Nat} {v:Option Value} (hn:a.block≠g) (h:w.cell? a=v) (k:a.block≠g→w.cell? a=v→W.cell? a=v:=by intro n_ h_;repeat(first|(with_reducible exact h_)|refine(cell_far (p:=⟨_,_,none⟩) n_ _).trans ?_)):W.cell? a=v:=k hn h
theorem nL {w W:World} {g g2:Nat} {o:Obj} (_h:ae (w.heap[g]? =some o)) (hg:g2=W.heap.size) [k:ae (W.heap[g]? =some o)]:g≠g2:=by rw[hg];exact Nat.ne_of_lt (eX k.out)
theorem nG {w W:World} {g g2:Nat} {o:Obj} (_h:ae (w.heap[g]? =some o)) (hg:g2=W.heap.size) [k:ae (W.heap[g]? =some o)]:g2≠g:=by rw[hg];exact Nat.ne_of_gt (eX k.out)
theorem bb {w W W1:World} {g:Nat} {o:Obj} (_h:ae (w.heap[g]? =some o)) (hb:Below W.heap.size W W1) [k:ae (W.heap[g]? =some o)]:W1.heap[g]? =some o:=fV k.out hb
theorem bg {w W W1:World} {g:Nat} {o:Obj} {row:Option Nat} (_h:ae (w.heap[g]? =some o)) (hw:W.grownBy W1 row) (hne:some g≠row) [k:ae (W.heap[g]? =some o)]:W1.heap[g]? =some o:=px k.out hw hne
theorem cz {w:World} {g:Nat} {cs:Array Value} {t:TypeId} {v:Value} (h:ae (w.heap[g]? =some (.cells cs t (0,0)))) (i:Nat) (e:cs[i]? =some v:=by(simp only[List.getElem?_toArray,List.getElem?_cons_zero,List.getElem?_cons_succ]);try rfl):w.cell? ⟨g,i,none⟩=some v:=(dH h.out i).trans e
theorem A_ {p:Prop} (h:p):ae p:=⟨h⟩
theorem eR {p:Prop} (h:p:=by first|rfl|(simp[eJ,eK]<;>rfl)|(simp[*,eJ,eK]<;>rfl)):p:=h
theorem bX {P:Program} {ops:Array Oper} {rest:List Oper} {o:Oper} {a:Act} {Q:Exit→Act→World→Prop} {W:World} {N:Tmp} {cs:Array Value} {t:TypeId} (h:∀g,g=W.heap.size→∀w1,w1.heap[g]? =some (.cells cs t (0,0))→Below W.heap.size W w1→wpList P ops Q rest (a.put o.dst (.pointer (some ⟨g,0,none⟩))) w1)
    (hgd:o.guard=none:=by rfl) (hd:o.dst=some N:=by rfl) (hrun:(execOp a.eval o).run P W= .ok (.value (.pointer (some ⟨W.heap.size,0,none⟩))) (W.alloc (.cells cs t (0,0))):=by first|(go_simp;done)|(go_simp;rfl)):wpList P ops Q (o::rest) a W:=py hgd hd hrun h
theorem oD {p:Prop} [Decidable p] (h:decide p=true:=by first|(with_reducible assumption)|assumption):p:=of_decide_eq_true h
theorem hW {w W:World} {a:Addr} {v:Value} (u:ae (Below w.heap.size w W)) (h:w.cell? a=some v):W.cell? a=some v:=(u.out.cell (World.block_lt_of_cell? w _ h)).trans h
theorem eS {p:Prop} (h:p:=by first|rfl|(simp;done)|(simp[*];done)):p:=h
end P
namespace P
set_option maxHeartbeats 8000000
set_option maxRecDepth 100000
open Go.RowKit WW.bq WW.cg WW.cd
attribute [local go_sem] cN cR cQ cU cP cT cO cS
def iB.f (l0:List (aj)):Option ((List (aj))):=(some (([]:List (aj)):List (aj))).bind fun u=>(if u.length+l0.length<4398046511104 then(some (u++l0))else(none))
theorem iB.c (A0:Option Addr) (c0:Nat) (l0:List (aj)) (r:List (aj)) (w:World) (X:Kd.C aX w A0 l0.length l0) (hc0:l0.length≤c0) (h:iB.f l0=some r):
  Calls Tryz.prog 96 #[.slice A0 l0.length c0] w fun e w'=>∃Y:Value,e= .returned (Y)∧Kd.R aX 110 w' w.heap.size (fun _=>True) Y r∧Below w.heap.size w w':=by
 have ad:=A_ X;have ap:=A_ hc0;clear X hc0;have u:=A_ (Below.refl w.heap.size w);have H:((some (([]:List (aj)):List (aj))).bind fun z=>(if z.length+l0.length<4398046511104 then(some (z++l0))else(none)))=some r:=h;clear h;obtain⟨z,G⟩:∃O:List (aj),O=(([]:List (aj))):=⟨_,rfl⟩;replace H:(if z.length+l0.length<4398046511104 then(some (z++l0))else(none))=some r:=by first|(rw[G];with_reducible exact H)|(have D:=(aG _ _).symm.trans H;rw[G];with_reducible exact D)|(have D:=(aG _ _).symm.trans H;with_reducible exact D)|with_reducible exact H|(rw[G];exact H)|exact H
 have V:=A_ G;clear G;by_cases c2:z.length+l0.length<4398046511104
 ·rw[af c2]at H;have ae:=A_ c2;clear c2;obtain⟨ao,I⟩:∃O:List (aj),O=(z++l0):=⟨_,rfl⟩;replace H:(some ao)=some r:=by first|(rw[I];with_reducible exact H)|(have D:=(aG _ _).symm.trans H;rw[I];with_reducible exact D)|(have D:=(aG _ _).symm.trans H;with_reducible exact D)|with_reducible exact H|(rw[I];exact H)|exact H
  have ai:=A_ I;clear I;obtain rfl:=aH H;go_enter Tryz.func96,Tryz.ntmps96
  go_wp2_with (first|((with_reducible refine ax (N:=3) rfl ?_);refine Kd.cx aX _ 110 ?hg (N:=3) ?hd (xs:=([]:List (aj))) (inner:=[]) (ok:=fun _=>True) (bB:=fun _=>True) ?hr ?hp (fun _ hk=>hk) trivial (Below.refl _ _) (Nat.le_refl _) (by simp) ?_;(case hd=>rfl);(case hg=>rfl);(case hr=>first|(go_simp;done)|(go_simp;rfl));(case hp=>exact(aI.none _ _));intro am w3 F hb ak al;clear ak al;(first|rw[←V.out]at F|(simp only[Int.reduceToNat]at F;rw[←V.out]at F));have J:=A_ (Kd.bE F (aA (oB u)));have K:=A_ (aC (oB u) hb);clear u;have U:=J;have u:=K;clear J K hb F)|((with_reducible refine dP (b:= .append) (xs:= #[.tmp 3,.tmp 4]) rfl ?_);at_builtin;refine Kd.lH aX (w0:=w) w.heap.size rfl (.tmp 3) (.tmp 4) 24 110 (.agg #[(.int .i64 0),(.int .i64 0),(.int .i64 0),(.int .i64 0)]) 32 rfl Tryz.underlying24 kz rfl (by decide) (by omega) am z l0 _ _ _ (fun _=>True) (fun _=>False) rfl rfl ?aO ?aR (fun _ _ h=>h) (fun _ h=>h.elim) ?aF ?aB ?aS ?aL ?_;(case aR=>exact bO ad.out);(case aB=>exact(oB u));(case aF=>exact(fun _ _=>trivial));(case aO=>exact(oR U));(case aS=>exact(aA (oB u)));(case aL=>have:=ae.out;omega);intro aq ar ho hb hg hat;rw[←ai.out]at ho;have J:=A_ (hb);have K:=A_ (ho);clear u U;have u:=J;have Z:=K;clear J K ho hb hg hat))
  go_ret;exact⟨_,eR,oR Z,oB u⟩
 ·rw[ag c2]at H;exact absurd H (by simp)
def fx.f (F:List (aj)) (D:Int) (u:List Int):Option ((List (aj))×Int×List Int):=(iB.f F).bind fun G=>((some (([]:List Int):List Int)).bind fun z=>(if z.length+u.length<17592186044416 then(some (G,D,(z++u)))else(none)))
def fx.T1:Bool×List (List Nat×List Nat):=(true,[([],[]),([0],[0]),([1],[1]),([],[]),([3],[3]),([],[]),([],[]),([6],[6]),([5,7,2],[5,7]),([2,4,8],[2,4,8]),([9,8,0,1,2,3,4,5,6,7,8,9],[9])])
def fx.B1:List Nat:=[0,1,3,0,8,0,0,64,231,511,1023]
theorem fx.oT:bo .any (opsOf Tryz.f53 1)=fx.T1:=by kernel_rfl
theorem fx.nW:cp fx.T1.2 fx.B1=true:=by kernel_rfl
theorem fx.c (am:Option Addr) (ao:Nat) (U:List (aj)) (V:Int) (aq:Option Addr) (au:Nat) (O:List Int) (r1:List (aj)) (r2:Int) (r3:List Int) (w:World) (bL:Kd.C aX w am U.length U) (bJ:U.length≤ao) (bM:Kd.C (Kd.int .i64) w aq O.length O) (bK:O.length≤au) (h:fx.f U V O=some (r1,r2,r3)):
  Calls Tryz.prog 53 #[.agg #[.slice am U.length ao,.int .i64 V,.slice aq O.length au]] w fun e w'=>∃bR bS:Value,e= .returned (.agg #[bR,.int .i64 r2,bS])∧Kd.R aX 110 w' w.heap.size (fun _=>True) bR r1∧Kd.R (Kd.int .i64) 3 w' w.heap.size (fun _=>True) bS r3∧Below w.heap.size w w':=by
 have ce:=Tryz.underlying27;have bu:=A_ bL;have bs:=A_ bJ;clear bL bJ;have bT:=A_ bM;have b3:=A_ bK;clear bM bK;have z:=A_ (Below.refl w.heap.size w);have H:((iB.f U).bind fun ad=>((some (([]:List Int):List Int)).bind fun ap=>(if ap.length+O.length<17592186044416 then(some (ad,V,(ap++O)))else(none))))=some (r1,r2,r3):=h;clear h;replace H:=aD H;obtain⟨ad,bq,H⟩:=H
 (try dsimp only at H)
 have A2:=A_ bq;clear bq;obtain⟨ap,a2⟩:∃bp:List Int,bp=(([]:List Int)):=⟨_,rfl⟩;replace H:(if ap.length+O.length<17592186044416 then(some (ad,V,(ap++O)))else(none))=some (r1,r2,r3):=by first|(rw[a2];with_reducible exact H)|(have az:=(aG _ _).symm.trans H;rw[a2];with_reducible exact az)|(have az:=(aG _ _).symm.trans H;with_reducible exact az)|with_reducible exact H|(rw[a2];exact H)|exact H
 have a5:=A_ a2;clear a2;by_cases c3:ap.length+O.length<17592186044416
 ·rw[af c3]at H;have bU:=A_ c3;clear c3;obtain⟨a9,a3⟩:∃bp:List Int,bp=(ap++O):=⟨_,rfl⟩;replace H:(some (ad,V,a9))=some (r1,r2,r3):=by first|(rw[a3];with_reducible exact H)|(have az:=(aG _ _).symm.trans H;rw[a3];with_reducible exact az)|(have az:=(aG _ _).symm.trans H;with_reducible exact az)|with_reducible exact H|(rw[a3];exact H)|exact H
  have bV:=A_ a3;clear a3;simp only[Option.some.injEq,Prod.mk.injEq]at H;obtain⟨rfl,rfl,rfl⟩:=H;go_enter Tryz.func53,Tryz.ntmps53
  try go_wp2_with (first|((with_reducible refine ax (N:=1) rfl ?_);refine bX (N:=1) (cs:= #[.slice am U.length ao,.int .i64 V,.slice aq O.length au]) (t:=27) ?_;intro Z hg w4 aY hb;have F:=A_ (aC (oB z) hb);have G:=A_ (aY);have I:=A_ ((by rw[hg];exact(aA (oB z)):w.heap.size≤Z));have J:=A_ ((by rw[hg];exact(aA (oB z)):w.heap.size≤Z));clear z;have z:=F;have u:=G;have b1:=I;have bZ:=J;clear F G I J hb aY hg)|((with_reducible refine ax (N:=2) rfl ?_);refine bX (N:=2) (cs:= #[.slice none 0 0,.int .i64 0,.slice none 0 0]) (t:=27) ?_;intro al hg bY aY hb;have F:=A_ (bb u hb);have G:=A_ (aC (oB z) hb);have I:=A_ (aY);have J:=A_ ((by rw[hg];exact(aA (oB z)):w.heap.size≤al));have X:=A_ ((by rw[hg];exact(aA (oB z)):w.heap.size≤al));have bP:=A_ (nL u hg);have bQ:=A_ (nG u hg);clear u z;have u:=F;have z:=G;have D:=I;have b2:=J;have b0:=X;have aE:=bP;have bd:=bQ;clear F G I J X bP bQ hb aY hg))
  have F:=A_ (aM u.out);have G:=A_ (aM D.out);have I:=A_ (cr z.out);clear u D z;have u:=F;have D:=G;have z:=I;clear F G I;refine fk (n:=11) (S:=fun w'=>w'.cell? ⟨Z,0,none⟩=some (.slice am U.length ao)∧w'.cell? ⟨Z,1,none⟩=some (.int .i64 V)∧w'.cell? ⟨Z,2,none⟩=some (.slice aq O.length au)) (ds:=[]) #[false,false,false,false,false,false,false,false,false,false,false] (by kernel_rfl) rfl rfl ⟨cz u 0,cz u 1,cz u 2⟩ (fun hHeld=> ?_);refine fP fx.oT fx.nW (fun Y bc=> ?_);generalize bY.drew=ch at u D z hHeld ⊢;refine pA 0 (some 3) Y.out ?_;refine pA 3 (some 6) Y.out ?_;refine pA 6 (some 9) Y.out ?_;refine pT 1 (some 4) Y.out bc.out hHeld ?_;refine pT 4 (some 7) Y.out bc.out hHeld ?_;refine pT 7 (some 10) Y.out bc.out hHeld ?_;refine y6 (σ:=Value×Value) 3 #[true,true,true,true,true,true,true,true,false,false,false] (fun s_=>[(5,s_.1),(8,s_.2)]) (fun s_ w'=>(w'.cell? ⟨Z,0,none⟩=some (.slice am U.length ao)∧w'.cell? ⟨Z,1,none⟩=some (.int .i64 V)∧w'.cell? ⟨Z,2,none⟩=some (.slice aq O.length au))∧(Kd.R aX 110 w' w.heap.size (fun _=>True) s_.1 ad)∧(Kd.R (Kd.int .i64) 3 w' w.heap.size (fun _=>True) s_.2 ap)∧(w'.heap[Z]? =some (.cells #[.slice am U.length ao,.int .i64 V,.slice aq O.length au] 27 (0,0)))∧(w'.heap[al]? =some (.cells #[.slice none 0 0,.int .i64 0,.slice none 0 0] 27 (0,0)))∧(Below w.heap.size w w')) ?_ ?_;rotate_left
  ·intro bI;refine wu (i:=2) (j:=5) (Ni:=some 5) (Nj:=some 8) #[true,true,true,true,true,false,true,true,false,false,false] #[true,true,false,true,true,true,true,true,false,false,false] rfl rfl rfl rfl (wy Y.out (by kernel_rfl)) (by decide) (by decide) (fun K hK=> ?_) (fun K hK=> ?_)
   ·skip
    refine cy Tryz.func96 (by kernel_rfl) rfl #[.slice am U.length ao] (by rfl) rfl rfl (by(try simp only[List.map_toArray,List.map_cons,List.map_nil]);first|done|rfl|(simp only[List.length_drop,List.length_take];rfl)) ?_
    with_reducible refine(iB.c _ _ U ad _ ?a6 ?a7 A2.out).mono ?_
    (case a6=>exact bO bu.out)
    (case a7=>exact bs.out)
    rintro e w7 ⟨a4,rfl,aZ,hb⟩;refine⟨_,rfl,?_⟩;have F:=A_ (Kd.bE aZ (aA (oB z)));have G:=A_ (bb u hb);have I:=A_ (bb D hb);have J:=A_ (aC (oB z) hb);clear u D z;have ai:=F;have u:=G;have D:=I;have z:=J;clear F G I J
    (try clear hb)
    (try clear hb2)
    (try clear hk)
    (try clear hi)
    (try clear aZ)
    refine hK.out _ _ ⟨cz u 0,cz u 1,cz u 2⟩ (fun hHeld=> ?_);clear hK K;refine dL (a':= ?_) ?_ ?_;rotate_left
    ·show Act.put _ (some 5) _=_;simp only[Act.put,List.setIfInBounds_toArray,List.set_cons_zero,List.set_cons_succ,bG,bN];rfl
    refine dh (i:=5) (N:=some 8) #[true,true,true,true,true,true,true,true,false,false,false] rfl rfl (cX Y.out (by kernel_rfl)) (by decide) (fun K hK=> ?_);refine Kd.kS (Kd.int .i64) _ 3 ?hg (N:=8) ?hd (xs:=([]:List Int)) (inner:=[]) (ok:=fun _=>True) (bB:=fun _=>True) ?hr ?hp (fun _ hk=>hk) trivial (Below.refl _ _) (Nat.le_refl _) (by simp) ?_;(case hd=>rfl);(case hg=>rfl);(case hr=>first|(go_simp;done)|(go_simp;rfl));(case hp=>exact(aI.none _ _));intro aK ci a1 hb bn bo;clear bn bo
    (first|rw[←a5.out]at a1|(simp only[Int.reduceToNat]at a1;rw[←a5.out]at a1))
    have F:=A_ (Kd.aV (oR ai) hb);have G:=A_ (Kd.bE a1 (aA (oB z)));have I:=A_ (bb u hb);have J:=A_ (bb D hb);have X:=A_ (aC (oB z) hb);clear ai u D z;have ai:=F;have ak:=G;have u:=I;have D:=J;have z:=X;clear F G I J X hb a1;refine hK.out _ _ ⟨cz u 0,cz u 1,cz u 2⟩ (fun hHeld=> ?_);clear hK K;refine dL (a':= ?_) ?_ ?_;rotate_left
    ·show Act.put _ (some 8) _=_;simp only[Act.put,List.setIfInBounds_toArray,List.set_cons_zero,List.set_cons_succ,bG,bN];rfl
    exact dL (by simp only[nv,Act.put,List.setIfInBounds_toArray,List.set_cons_zero,List.set_cons_succ]) (bI (a4,aK) _ ⟨hHeld,(oR ai),(oR ak),(oK u),(oK D),(oB z)⟩)
   ·skip
    refine Kd.kS (Kd.int .i64) _ 3 ?hg (N:=8) ?hd (xs:=([]:List Int)) (inner:=[]) (ok:=fun _=>True) (bB:=fun _=>True) ?hr ?hp (fun _ hk=>hk) trivial (Below.refl _ _) (Nat.le_refl _) (by simp) ?_;(case hd=>rfl);(case hg=>rfl);(case hr=>first|(go_simp;done)|(go_simp;rfl));(case hp=>exact(aI.none _ _));intro aK w7 a0 hb bn bo;clear bn bo
    (first|rw[←a5.out]at a0|(simp only[Int.reduceToNat]at a0;rw[←a5.out]at a0))
    have F:=A_ (Kd.bE a0 (aA (oB z)));have G:=A_ (bb u hb);have I:=A_ (bb D hb);have J:=A_ (aC (oB z) hb);clear u D z;have ak:=F;have u:=G;have D:=I;have z:=J;clear F G I J hb a0;refine hK.out _ _ ⟨cz u 0,cz u 1,cz u 2⟩ (fun hHeld=> ?_);clear hK K;refine dL (a':= ?_) ?_ ?_;rotate_left
    ·show Act.put _ (some 8) _=_;simp only[Act.put,List.setIfInBounds_toArray,List.set_cons_zero,List.set_cons_succ,bG,bN];rfl
    refine dh (i:=2) (N:=some 5) #[true,true,true,true,true,true,true,true,false,false,false] rfl rfl (cX Y.out (by kernel_rfl)) (by decide) (fun K hK=> ?_);refine cy Tryz.func96 (by kernel_rfl) rfl #[.slice am U.length ao] (by rfl) rfl rfl (by(try simp only[List.map_toArray,List.map_cons,List.map_nil]);first|done|rfl|(simp only[List.length_drop,List.length_take];rfl)) ?_
    with_reducible refine(iB.c _ _ U ad _ ?a6 ?a7 A2.out).mono ?_
    (case a6=>exact bO bu.out)
    (case a7=>exact bs.out)
    rintro e cj ⟨a4,rfl,aZ,hb⟩;refine⟨_,rfl,?_⟩;have F:=A_ (Kd.aV (oR ak) hb);have G:=A_ (Kd.bE aZ (aA (oB z)));have I:=A_ (bb u hb);have J:=A_ (bb D hb);have X:=A_ (aC (oB z) hb);clear ak u D z;have ak:=F;have ai:=G;have u:=I;have D:=J;have z:=X;clear F G I J X
    (try clear hb)
    (try clear hb2)
    (try clear hk)
    (try clear hi)
    (try clear aZ)
    refine hK.out _ _ ⟨cz u 0,cz u 1,cz u 2⟩ (fun hHeld=> ?_);clear hK K;refine dL (a':= ?_) ?_ ?_;rotate_left
    ·show Act.put _ (some 5) _=_;simp only[Act.put,List.setIfInBounds_toArray,List.set_cons_zero,List.set_cons_succ,bG,bN];rfl
    exact dL (by simp only[nv,Act.put,List.setIfInBounds_toArray,List.set_cons_zero,List.set_cons_succ]) (bI (a4,aK) _ ⟨hHeld,(oR ai),(oR ak),(oK u),(oK D),(oB z)⟩)
  rintro⟨a4,aK⟩ aw ⟨bW,bA,bC,bD,bF,bH⟩;have F:ae (Kd.R aX 110 aw w.heap.size (fun _=>True) a4 ad):=⟨bA⟩;have G:ae (Kd.R (Kd.int .i64) 3 aw w.heap.size (fun _=>True) aK ap):=⟨bC⟩;have I:ae (aw.heap[Z]? =some (.cells #[.slice am U.length ao,.int .i64 V,.slice aq O.length au] 27 (0,0))):=⟨bD⟩;have J:ae (aw.heap[al]? =some (.cells #[.slice none 0 0,.int .i64 0,.slice none 0 0] 27 (0,0))):=⟨bF⟩;have X:ae (Below w.heap.size w aw):=⟨bH⟩;clear u D z bA bC bD bF bH;have ai:=F;have ak:=G;have u:=I;have D:=J;have z:=X;clear F G I J X;have hHeld:aw.cell? ⟨Z,0,none⟩=some (.slice am U.length ao)∧aw.cell? ⟨Z,1,none⟩=some (.int .i64 V)∧aw.cell? ⟨Z,2,none⟩=some (.slice aq O.length au):=bW;refine dL (a':= ?_) ?_ ?_;rotate_left
  ·simp only[nv,Act.put,List.setIfInBounds_toArray,List.set_cons_zero,List.set_cons_succ];rfl
  refine dh (i:=8) (N:=some 11) #[true,true,true,true,true,true,true,true,true,false,false] rfl rfl (cX Y.out (by kernel_rfl)) (by decide) (fun K hK=> ?_);refine Kd.s7 (Kd.int .i64) (w0:=w) w.heap.size (by rfl) (.tmp 8) (.tmp 10) 25 3 (.int .i64 0) 8 rfl Tryz.underlying25 info3 rfl (by decide) (by omega) aK ap O _ _ _ (fun _=>True) (fun _=>False) rfl rfl ?aO ?aR (fun _ _ h=>h) (fun _ h=>h.elim) ?aF ?aB ?aS ?aL ?_
  (case aR=>exact bO bT.out)
  (case aB=>exact(oB z))
  (case aF=>exact(fun _ _=>trivial))
  (case aO=>exact(oR ak))
  (case aS=>exact(aA (oB z)))
  (case aL=>have:=bU.out;omega)
  intro cf cg ho hb hg hat;rw[←bV.out]at ho;have F:=A_ (bg u hg (Kd.fU ak.out u.out (by decide)));have G:=A_ (bg D hg (Kd.fU ak.out D.out (by decide)));have I:=A_ (Kd.eG (oR ai) (Kd.eH (oR ak)) (by decide) hg);have J:=A_ (hb);have X:=A_ (ho);clear u D ai z ak;have u:=F;have D:=G;have ai:=I;have z:=J;have bt:=X;clear F G I J X ho hb hg hat;obtain⟨a_,be,bv⟩:=Kd.bz bt.out
  (first|subst bv|(injection bv with aU bf aW;have bj:=aU.symm;have bk:=aW.symm;clear aU bf aW;subst bj;subst bk))
  obtain⟨aP,aQ,bx⟩:=Kd.bz ai.out
  (first|subst bx|(injection bx with aU bf aW;have bj:=aU.symm;have bk:=aW.symm;clear aU bf aW;subst bj;subst bk))
  refine hK.out _ _ ⟨cz u 0,cz u 1,cz u 2⟩ (fun hHeld=> ?_);clear hK K;refine dL (a':= ?_) ?_ ?_;rotate_left
  ·show Act.put _ (some 11) _=_;simp only[Act.put,List.setIfInBounds_toArray,List.set_cons_zero,List.set_cons_succ,bG,bN];rfl
  refine pA 9 (some 12) Y.out ?_;refine dh (i:=10) (N:=none) #[true,true,true,true,true,true,true,true,true,true,true] rfl rfl (cX Y.out (by kernel_rfl)) (by decide) (fun K hK=> ?_);have cb:=cz D 0;have b4:=ar D.out 0;have b_:=aE.out;have b7:=bd.out;have cc:=cz D 1;have b5:=ar D.out 1;have b':=aE.out;have b8:=bd.out;have cd:=cz D 2;have b6:=ar D.out 2;have ca:=aE.out;have b9:=bd.out;refine lU (w1:= ?_) (by rfl) rfl ?_ ?_;rotate_left
  ·go_simp
   rfl
  refine hK.out _ _ ⟨(cF aE.out hHeld.1),(cF aE.out hHeld.2.1),(cF aE.out hHeld.2.2)⟩ (fun hHeld=> ?_);clear hK K;refine eY (fH Y.out (by kernel_rfl)) ?_
  try go_wp2
  refine bodyPost_ret (results_cell_row rfl _ _ al 27 #[.slice aP ad.length aQ,.int .i64 V,.slice a_ a9.length be] (0,0) _ rfl (by(with_reducible repeat(first|refine aT ?_ _|refine aM ?_|refine aN ?_ _));refine bw (cs:= #[.slice aP ad.length aQ,.int .i64 V,.slice none 0 0]) ?_ 2 _ rfl;(with_reducible repeat(first|refine aT ?_ _|refine aM ?_|refine aN ?_ _));refine bw (cs:= #[.slice aP ad.length aQ,.int .i64 0,.slice none 0 0]) ?_ 1 _ rfl;(with_reducible repeat(first|refine aT ?_ _|refine aM ?_|refine aN ?_ _));refine bw (cs:= #[.slice none 0 0,.int .i64 0,.slice none 0 0]) ?_ 0 _ rfl;(with_reducible repeat(first|refine aT ?_ _|refine aM ?_|refine aN ?_ _));exact D.out) Tryz.underlying27 rfl (by kernel_rfl)) rfl ?_;exact⟨_,_,eR,by(with_reducible repeat(first|apply Kd.bm|apply Kd.br|apply Kd.a8));exact Kd.bh (Kd.aJ (p:=⟨al,2,none⟩) (Kd.aJ (p:=⟨al,1,none⟩) (Kd.aJ (p:=⟨al,0,none⟩) (Kd.dD ai.out D.out (by decide)) (fun _ hk=>hk.2) (.slice aP ad.length aQ)) (fun _ hk=>hk.2) (.int .i64 V)) (fun _ hk=>hk.2) (.slice a_ a9.length be)) (fun _ hk=>trivial),by(with_reducible repeat(first|apply Kd.bm|apply Kd.br|apply Kd.a8));exact Kd.bh (Kd.aJ (p:=⟨al,2,none⟩) (Kd.aJ (p:=⟨al,1,none⟩) (Kd.aJ (p:=⟨al,0,none⟩) (Kd.dD bt.out D.out (by decide)) (fun _ hk=>hk.2) (.slice aP ad.length aQ)) (fun _ hk=>hk.2) (.int .i64 V)) (fun _ hk=>hk.2) (.slice a_ a9.length be)) (fun _ hk=>trivial),oB z⟩
 ·rw[ag c3]at H;exact absurd H (by simp)
def iA.f (l0:List (S64)):Option ((List (S64))):=(some (([]:List (S64)):List (S64))).bind fun u=>(if u.length+l0.length<4398046511104 then(some (u++l0))else(none))
theorem iA.c (A0:Option Addr) (c0:Nat) (l0:List (S64)) (r:List (S64)) (w:World) (X:Kd.C aW w A0 l0.length l0) (hc0:l0.length≤c0) (h:iA.f l0=some r):
  Calls Tryz.prog 54 #[.slice A0 l0.length c0] w fun e w'=>∃Y:Value,e= .returned (Y)∧Kd.R aW 64 w' w.heap.size (fun _=>True) Y r∧Below w.heap.size w w':=by
 have ad:=A_ X;have ao:=A_ hc0;clear X hc0;have u:=A_ (Below.refl w.heap.size w);have H:((some (([]:List (S64)):List (S64))).bind fun z=>(if z.length+l0.length<4398046511104 then(some (z++l0))else(none)))=some r:=h;clear h;obtain⟨z,G⟩:∃O:List (S64),O=(([]:List (S64))):=⟨_,rfl⟩;replace H:(if z.length+l0.length<4398046511104 then(some (z++l0))else(none))=some r:=by first|(rw[G];with_reducible exact H)|(have D:=(aG _ _).symm.trans H;rw[G];with_reducible exact D)|(have D:=(aG _ _).symm.trans H;with_reducible exact D)|with_reducible exact H|(rw[G];exact H)|exact H
 have V:=A_ G;clear G;by_cases c2:z.length+l0.length<4398046511104
 ·rw[af c2]at H;have ae:=A_ c2;clear c2;obtain⟨am,I⟩:∃O:List (S64),O=(z++l0):=⟨_,rfl⟩;replace H:(some am)=some r:=by first|(rw[I];with_reducible exact H)|(have D:=(aG _ _).symm.trans H;rw[I];with_reducible exact D)|(have D:=(aG _ _).symm.trans H;with_reducible exact D)|with_reducible exact H|(rw[I];exact H)|exact H
  have ai:=A_ I;clear I;obtain rfl:=aH H;go_enter Tryz.func54,Tryz.ntmps54
  go_wp2_with (first|((with_reducible refine ax (N:=3) rfl ?_);refine Kd.cx aW _ 64 ?hg (N:=3) ?hd (xs:=([]:List (S64))) (inner:=[]) (ok:=fun _=>True) (bB:=fun _=>True) ?hr ?hp (fun _ hk=>hk) trivial (Below.refl _ _) (Nat.le_refl _) (by simp) ?_;(case hd=>rfl);(case hg=>rfl);(case hr=>first|(go_simp;done)|(go_simp;rfl));(case hp=>exact(aI.none _ _));intro al w3 F hb aj ak;clear aj ak;(first|rw[←V.out]at F|(simp only[Int.reduceToNat]at F;rw[←V.out]at F));have J:=A_ (Kd.bE F (aA (oB u)));have K:=A_ (aC (oB u) hb);clear u;have U:=J;have u:=K;clear J K hb F)|((with_reducible refine dP (b:= .append) (xs:= #[.tmp 3,.tmp 4]) rfl ?_);at_builtin;refine Kd.lH aW (w0:=w) w.heap.size rfl (.tmp 3) (.tmp 4) 28 64 (.agg #[(.int .i64 0),(.int .i64 0),(.int .i64 0),(.int .i64 0)]) 32 rfl Tryz.underlying28 ni rfl (by decide) (by omega) al z l0 _ _ _ (fun _=>True) (fun _=>False) rfl rfl ?aO ?aR (fun _ _ h=>h) (fun _ h=>h.elim) ?aF ?aB ?aS ?aL ?_;(case aR=>exact bO ad.out);(case aB=>exact(oB u));(case aF=>exact(fun _ _=>trivial));(case aO=>exact(oR U));(case aS=>exact(aA (oB u)));(case aL=>have:=ae.out;omega);intro ap aq ho hb hg hat;rw[←ai.out]at ho;have J:=A_ (hb);have K:=A_ (ho);clear u U;have u:=J;have Z:=K;clear J K ho hb hg hat))
  go_ret;exact⟨_,eR,oR Z,oB u⟩
 ·rw[ag c2]at H;exact absurd H (by simp)
def cv.f (a0:Int) (a1:Int) (a2:Int):Option (Bool):=if a1≤a0 then(some (decide (a0≤a2)))else(some false)
theorem cv.c (a0:Int) (a1:Int) (a2:Int) (r:Bool) (w:World) (h:cv.f a0 a1 a2=some r):
  Calls Tryz.prog 58 #[.int .i64 a0,.int .i64 a1,.int .i64 a2] w fun e w'=>e= .returned (.bool r)∧bD w w':=by
 have H:(if a1≤a0 then(some (decide (a0≤a2)))else(some false))=some r:=h;clear h;by_cases c4:a1≤a0
 ·rw[af c4]at H;have u:decide (a1≤a0)=true:=ah c4;clear c4;obtain rfl:=aH H;go_enter Tryz.func58,Tryz.ntmps58;go_wp2;go_ret;exact⟨eS,by repeat(first|exact bD.refl _|apply bD.step)⟩
 ·rw[ag c4]at H;have u:decide (a1≤a0)=false:=ay c4;clear c4;obtain rfl:=aH H;go_enter Tryz.func58,Tryz.ntmps58;go_wp2;go_ret;exact⟨eS,by repeat(first|exact bD.refl _|apply bD.step)⟩
def df.f (a0:Int):Option (Bool):=(cv.f a0 1 10000000).bind fun u=>(some u)
theorem df.c (a0:Int) (r:Bool) (w:World) (h:df.f a0=some r):
  Calls Tryz.prog 98 #[.int .i64 a0] w fun e w'=>e= .returned (.bool r)∧bD w w':=by
 have H:((cv.f a0 1 10000000).bind fun u=>(some u))=some r:=h;clear h;replace H:=aD H;obtain⟨u,z,H⟩:=H
 (try dsimp only at H)
 have A2:=A_ z;clear z;obtain rfl:=aH H;go_enter Tryz.func98,Tryz.ntmps98
 go_wp2_with (first|((with_reducible refine aZ (f:=58) rfl ?_);refine gL (some 4) Tryz.func58 #[.int .i64 a0,.int .i64 1,.int .i64 10000000] ?_;(with_reducible refine(cv.c a0 1 10000000 u _ A2.out).mono ?_);rintro e w' ⟨rfl,⟨nd,rfl⟩⟩;refine⟨_,rfl,?_⟩))
 go_ret;exact⟨eS,by repeat(first|exact bD.refl _|apply bD.step)⟩
def fX.f (a0:Int):Option (Bool):=(cv.f a0 (-10) 40).bind fun u=>(some u)
theorem fX.c (a0:Int) (r:Bool) (w:World) (h:fX.f a0=some r):
  Calls Tryz.prog 57 #[.int .i64 a0] w fun e w'=>e= .returned (.bool r)∧bD w w':=by
 have H:((cv.f a0 (-10) 40).bind fun u=>(some u))=some r:=h;clear h;replace H:=aD H;obtain⟨u,z,H⟩:=H
 (try dsimp only at H)
 have A2:=A_ z;clear z;obtain rfl:=aH H;go_enter Tryz.func57,Tryz.ntmps57
 go_wp2_with (first|((with_reducible refine aZ (f:=58) rfl ?_);refine gL (some 4) Tryz.func58 #[.int .i64 a0,.int .i64 (-10),.int .i64 40] ?_;(with_reducible refine(cv.c a0 (-10) 40 u _ A2.out).mono ?_);rintro e w' ⟨rfl,⟨nd,rfl⟩⟩;refine⟨_,rfl,?_⟩))
 go_ret;exact⟨eS,by repeat(first|exact bD.refl _|apply bD.step)⟩
def ey.j0:Nat→Int→Int→Int→Bool→Option (Int)
 |0,_,_,_,_=>none
 |k+1,x0,x1,x2,H=>if H=true then(some 0)else(if x1=1 then((df.f (wrap64 (Int.tdiv (mx (wrap64 ((wrap64 (3*x0))-x2)) 0) 2))).bind fun u=>(if u=true then(some (wrap64 (Int.tdiv (mx (wrap64 ((wrap64 (3*x0))-x2)) 0) 2)))else(some 0)))else(if x1=2 then((df.f (wrap64 (Int.tdiv (mx (wrap64 ((wrap64 (3*x0))-x2)) 0) 4))).bind fun z=>(if z=true then(some (wrap64 (Int.tdiv (mx (wrap64 ((wrap64 (3*x0))-x2)) 0) 4)))else(some 0)))else(if x1=3 then((df.f (wrap64 (2*x0))).bind fun D=>(if D=true then(some (wrap64 (2*x0)))else(some 0)))else(if x1=4 then((df.f (wrap64 (Int.tdiv x0 2))).bind fun F=>(if F=true then(some (wrap64 (Int.tdiv x0 2)))else(some 0)))else((df.f 0).bind fun G=>(if G=true then(some 0)else(some 0)))))))
def ey.f (k:Nat) (a0:Int) (a1:Int) (a2:Int):Option (Int):=(df.f a0).bind fun u=>(if u=true then((cv.f a2 0 100000).bind fun z=>(if z=true then(if a2=0 then(ey.j0 k a0 a1 a2 false)else(if a1=3 then(ey.j0 k a0 a1 a2 true)else(ey.j0 k a0 a1 a2 (a1==4))))else(ey.j0 k a0 a1 a2 true)))else(ey.j0 k a0 a1 a2 true))
theorem ey.c (k:Nat) (a0:Int) (a1:Int) (a2:Int) (r:Int) (w:World) (h:ey.f k a0 a1 a2=some r):
  Calls Tryz.prog 146 #[.int .i64 a0,.int .i64 a1,.int .i64 a2] w fun e w'=>e= .returned (.int .i64 r)∧Below w.heap.size w w':=by
 have u:=A_ (Below.refl w.heap.size w);have H:((df.f a0).bind fun ak=>(if ak=true then((cv.f a2 0 100000).bind fun al=>(if al=true then(if a2=0 then(ey.j0 k a0 a1 a2 false)else(if a1=3 then(ey.j0 k a0 a1 a2 true)else(ey.j0 k a0 a1 a2 (a1==4))))else(ey.j0 k a0 a1 a2 true)))else(ey.j0 k a0 a1 a2 true)))=some r:=h;clear h;have ai:=A_ H;clear H;go_enter Tryz.func146,Tryz.ntmps146
 go_upto_region 1 with (fail)
 go_cut [27] (fun v27 wc=>∃(Y:Nat) (Z:Bool),v27= .bool Z∧ae (ey.j0 Y a0 a1 a2 Z=some r)∧ae (Y≤k)∧ae (Below w.heap.size w wc))
 case first=>
  have H:=ai.out;clear ai;replace H:=aD H;obtain⟨ak,aE,H⟩:=H
  (try dsimp only at H)
  have K:=A_ aE;clear aE;by_cases c6:ak=true
  ·subst c6;rw[af rfl]at H;replace H:=aD H;obtain⟨al,aF,H⟩:=H
   (try dsimp only at H)
   have O:=A_ aF;clear aF;by_cases c8:al=true
   ·subst c8;rw[af rfl]at H;by_cases c9:a2=0
    ·rw[af c9]at H;have J:(a2==0)=true:=beq_iff_eq.mpr c9;have aK:(a2 != 0)=false:=bne_eq_false_iff_eq.mpr c9;clear c9
     (first|rw[J]|(simp only[bG,bN];rw[J])|skip)
     have H':=A_ H;clear H
     go_wp2_with (first|((with_reducible refine aZ (f:=98) rfl ?_);refine gL (some 9) Tryz.func98 #[.int .i64 a0] ?_;(with_reducible refine(df.c a0 true _ K.out).mono ?_);rintro e w' ⟨rfl,⟨nd,rfl⟩⟩;refine⟨_,rfl,?_⟩)|(go_at_call 58;(with_reducible refine(cv.c a2 0 100000 true _ O.out).mono ?_);rintro e w' ⟨rfl,⟨nd,rfl⟩⟩))
     go_meet
     case rel=>exact⟨_,(false),eS,H',⟨by first|omega|exact Nat.le_refl _⟩,⟨oB u⟩⟩
    ·rw[ag c9]at H;have J:(a2==0)=false:=beq_eq_false_iff_ne.mpr c9;have aK:(a2 != 0)=true:=bne_iff_ne.mpr c9
     (first|rw[J]|(simp only[bG,bN];rw[J])|skip)
     by_cases c10:a1=3
     ·rw[af c10]at H;have aI:(a1==3)=true:=beq_iff_eq.mpr c10;have aJ:(a1 != 3)=false:=bne_eq_false_iff_eq.mpr c10;clear c10;have H':=A_ H;clear H
      go_wp2_with (first|((with_reducible refine aZ (f:=98) rfl ?_);refine gL (some 9) Tryz.func98 #[.int .i64 a0] ?_;(with_reducible refine(df.c a0 true _ K.out).mono ?_);rintro e w' ⟨rfl,⟨nd,rfl⟩⟩;refine⟨_,rfl,?_⟩)|(go_at_call 58;(with_reducible refine(cv.c a2 0 100000 true _ O.out).mono ?_);rintro e w' ⟨rfl,⟨nd,rfl⟩⟩))
      go_meet
      case rel=>exact⟨_,(true),eS,H',⟨by first|omega|exact Nat.le_refl _⟩,⟨oB u⟩⟩
     ·rw[ag c10]at H;have aI:(a1==3)=false:=beq_eq_false_iff_ne.mpr c10;have aJ:(a1 != 3)=true:=bne_iff_ne.mpr c10;have H':=A_ H;clear H
      go_wp2_with (first|((with_reducible refine aZ (f:=98) rfl ?_);refine gL (some 9) Tryz.func98 #[.int .i64 a0] ?_;(with_reducible refine(df.c a0 true _ K.out).mono ?_);rintro e w' ⟨rfl,⟨nd,rfl⟩⟩;refine⟨_,rfl,?_⟩)|(go_at_call 58;(with_reducible refine(cv.c a2 0 100000 true _ O.out).mono ?_);rintro e w' ⟨rfl,⟨nd,rfl⟩⟩))
      go_meet
      case rel=>exact⟨_,((a1==4)),eS,H',⟨by first|omega|exact Nat.le_refl _⟩,⟨oB u⟩⟩
   ·replace c8:=Bool.eq_false_iff.mpr c8;subst c8;rw[ag (show¬(false=true)by decide)]at H;have H':=A_ H;clear H
    go_wp2_with (first|((with_reducible refine aZ (f:=98) rfl ?_);refine gL (some 9) Tryz.func98 #[.int .i64 a0] ?_;(with_reducible refine(df.c a0 true _ K.out).mono ?_);rintro e w' ⟨rfl,⟨nd,rfl⟩⟩;refine⟨_,rfl,?_⟩)|(go_at_call 58;(with_reducible refine(cv.c a2 0 100000 false _ O.out).mono ?_);rintro e w' ⟨rfl,⟨nd,rfl⟩⟩))
    go_meet
    case rel=>exact⟨_,(true),eS,H',⟨by first|omega|exact Nat.le_refl _⟩,⟨oB u⟩⟩
  ·replace c6:=Bool.eq_false_iff.mpr c6;subst c6;rw[ag (show¬(false=true)by decide)]at H;have H':=A_ H;clear H
   go_wp2_with (first|((with_reducible refine aZ (f:=98) rfl ?_);refine gL (some 9) Tryz.func98 #[.int .i64 a0] ?_;(with_reducible refine(df.c a0 false _ K.out).mono ?_);rintro e w' ⟨rfl,⟨nd,rfl⟩⟩;refine⟨_,rfl,?_⟩))
   go_meet
   case rel=>exact⟨_,(true),eS,H',⟨by first|omega|exact Nat.le_refl _⟩,⟨oB u⟩⟩
 case rest=>
  clear ai
  try clear c1
  try clear p2
  try clear c6
  try clear c8
  try clear c9
  try clear J
  try clear aK
  try clear c10
  try clear aI
  try clear aJ
  obtain⟨Y,Z,rfl,ad,aW,u⟩:=hcut;cases Y with
  |zero=>exact absurd ad.out (by simp[ey.j0])
  |succ a3=>
   have H:=ad.out;clear ad;simp only[ey.j0]at H;by_cases c11:Z=true
   ·subst c11;rw[af rfl]at H;obtain rfl:=aH H;go_wp2;go_ret;exact⟨eR,oB u⟩
   ·replace c11:=Bool.eq_false_iff.mpr c11;subst c11;rw[ag (show¬(false=true)by decide)]at H;by_cases c12:a1=1
    ·rw[af c12]at H;have aL:(a1==1)=true:=beq_iff_eq.mpr c12;have aM:(a1 != 1)=false:=bne_eq_false_iff_eq.mpr c12;clear c12;obtain⟨G,D⟩:∃aj:Int,(mx (wrap64 ((wrap64 (3*a0))-a2)) 0)=aj:=⟨_,rfl⟩;replace H:((df.f (wrap64 (Int.tdiv (G) 2))).bind fun am=>(if am=true then(some (wrap64 (Int.tdiv (G) 2)))else(some 0)))=some r:=by first|(rw[D]at H;exact H)|(simp only[D]at H ⊢;exact H)
     have aX:(if(wrap64 ((wrap64 (3*a0))-a2))<0 then 0 else(wrap64 ((wrap64 (3*a0))-a2)))=G:=D;replace H:=aD H;obtain⟨am,aq,H⟩:=H
     (try dsimp only at H)
     have ap:=A_ aq;clear aq;by_cases c15:am=true
     ·subst c15;rw[af rfl]at H;obtain rfl:=aH H
      go_wp2_with (first|((with_reducible refine aZ (f:=98) rfl ?_);refine ku (some 54) rfl rfl Tryz.func98 (by kernel_rfl) rfl #[.int .i64 (wrap64 (Int.tdiv (G) 2))] rfl (by(try simp only[List.map_toArray,List.map_cons,List.map_nil]);first|done|(simp only[D];rfl)|rfl|(simp only[List.length_drop,List.length_take];rfl)) ?_;(with_reducible refine(df.c (wrap64 (Int.tdiv (G) 2)) true _ ap.out).mono ?_);rintro e w' ⟨rfl,⟨nd,rfl⟩⟩;refine⟨_,rfl,?_⟩))
      go_ret;exact⟨by first|rfl|(simp[eJ,eK]<;>rfl)|(simp only[←D];first|rfl|(simp[eJ,eK]<;>rfl))|(simp[*,eJ,eK]<;>rfl),oB u⟩
     ·replace c15:=Bool.eq_false_iff.mpr c15;subst c15;rw[ag (show¬(false=true)by decide)]at H;obtain rfl:=aH H
      go_wp2_with (first|((with_reducible refine aZ (f:=98) rfl ?_);refine ku (some 54) rfl rfl Tryz.func98 (by kernel_rfl) rfl #[.int .i64 (wrap64 (Int.tdiv (G) 2))] rfl (by(try simp only[List.map_toArray,List.map_cons,List.map_nil]);first|done|(simp only[D];rfl)|rfl|(simp only[List.length_drop,List.length_take];rfl)) ?_;(with_reducible refine(df.c (wrap64 (Int.tdiv (G) 2)) false _ ap.out).mono ?_);rintro e w' ⟨rfl,⟨nd,rfl⟩⟩;refine⟨_,rfl,?_⟩))
      go_ret;exact⟨by first|rfl|(simp[eJ,eK]<;>rfl)|(simp only[←D];first|rfl|(simp[eJ,eK]<;>rfl))|(simp[*,eJ,eK]<;>rfl),oB u⟩
    ·rw[ag c12]at H;have aL:(a1==1)=false:=beq_eq_false_iff_ne.mpr c12;have aM:(a1 != 1)=true:=bne_iff_ne.mpr c12;by_cases c16:a1=2
     ·rw[af c16]at H;have aN:(a1==2)=true:=beq_iff_eq.mpr c16;have aO:(a1 != 2)=false:=bne_eq_false_iff_eq.mpr c16;clear c16;obtain⟨I,F⟩:∃aj:Int,(mx (wrap64 ((wrap64 (3*a0))-a2)) 0)=aj:=⟨_,rfl⟩;replace H:((df.f (wrap64 (Int.tdiv (I) 4))).bind fun ao=>(if ao=true then(some (wrap64 (Int.tdiv (I) 4)))else(some 0)))=some r:=by first|(rw[F]at H;exact H)|(simp only[F]at H ⊢;exact H)
      have aY:(if(wrap64 ((wrap64 (3*a0))-a2))<0 then 0 else(wrap64 ((wrap64 (3*a0))-a2)))=I:=F;replace H:=aD H;obtain⟨ao,au,H⟩:=H
      (try dsimp only at H)
      have ar:=A_ au;clear au;by_cases c19:ao=true
      ·subst c19;rw[af rfl]at H;obtain rfl:=aH H
       go_wp2_with (first|((with_reducible refine aZ (f:=98) rfl ?_);refine ku (some 54) rfl rfl Tryz.func98 (by kernel_rfl) rfl #[.int .i64 (wrap64 (Int.tdiv (I) 4))] rfl (by(try simp only[List.map_toArray,List.map_cons,List.map_nil]);first|done|(simp only[F];rfl)|rfl|(simp only[List.length_drop,List.length_take];rfl)) ?_;(with_reducible refine(df.c (wrap64 (Int.tdiv (I) 4)) true _ ar.out).mono ?_);rintro e w' ⟨rfl,⟨nd,rfl⟩⟩;refine⟨_,rfl,?_⟩))
       go_ret;exact⟨by first|rfl|(simp[eJ,eK]<;>rfl)|(simp only[←F];first|rfl|(simp[eJ,eK]<;>rfl))|(simp[*,eJ,eK]<;>rfl),oB u⟩
      ·replace c19:=Bool.eq_false_iff.mpr c19;subst c19;rw[ag (show¬(false=true)by decide)]at H;obtain rfl:=aH H
       go_wp2_with (first|((with_reducible refine aZ (f:=98) rfl ?_);refine ku (some 54) rfl rfl Tryz.func98 (by kernel_rfl) rfl #[.int .i64 (wrap64 (Int.tdiv (I) 4))] rfl (by(try simp only[List.map_toArray,List.map_cons,List.map_nil]);first|done|(simp only[F];rfl)|rfl|(simp only[List.length_drop,List.length_take];rfl)) ?_;(with_reducible refine(df.c (wrap64 (Int.tdiv (I) 4)) false _ ar.out).mono ?_);rintro e w' ⟨rfl,⟨nd,rfl⟩⟩;refine⟨_,rfl,?_⟩))
       go_ret;exact⟨by first|rfl|(simp[eJ,eK]<;>rfl)|(simp only[←F];first|rfl|(simp[eJ,eK]<;>rfl))|(simp[*,eJ,eK]<;>rfl),oB u⟩
     ·rw[ag c16]at H;have aN:(a1==2)=false:=beq_eq_false_iff_ne.mpr c16;have aO:(a1 != 2)=true:=bne_iff_ne.mpr c16;by_cases c20:a1=3
      ·rw[af c20]at H;have aP:(a1==3)=true:=beq_iff_eq.mpr c20;have aQ:(a1 != 3)=false:=bne_eq_false_iff_eq.mpr c20;clear c20;replace H:=aD H;obtain⟨aT,ax,H⟩:=H
       (try dsimp only at H)
       have aw:=A_ ax;clear ax;by_cases U:aT=true
       ·subst U;rw[af rfl]at H;obtain rfl:=aH H
        go_wp2_with (first|((with_reducible refine aZ (f:=98) rfl ?_);refine gL (some 54) Tryz.func98 #[.int .i64 (wrap64 (2*a0))] ?_;(with_reducible refine(df.c (wrap64 (2*a0)) true _ aw.out).mono ?_);rintro e w' ⟨rfl,⟨nd,rfl⟩⟩;refine⟨_,rfl,?_⟩))
        go_ret;exact⟨eR,oB u⟩
       ·replace U:=Bool.eq_false_iff.mpr U;subst U;rw[ag (show¬(false=true)by decide)]at H;obtain rfl:=aH H
        go_wp2_with (first|((with_reducible refine aZ (f:=98) rfl ?_);refine gL (some 54) Tryz.func98 #[.int .i64 (wrap64 (2*a0))] ?_;(with_reducible refine(df.c (wrap64 (2*a0)) false _ aw.out).mono ?_);rintro e w' ⟨rfl,⟨nd,rfl⟩⟩;refine⟨_,rfl,?_⟩))
        go_ret;exact⟨eR,oB u⟩
      ·rw[ag c20]at H;have aP:(a1==3)=false:=beq_eq_false_iff_ne.mpr c20;have aQ:(a1 != 3)=true:=bne_iff_ne.mpr c20;by_cases z:a1=4
       ·rw[af z]at H;have aR:(a1==4)=true:=beq_iff_eq.mpr z;have aS:(a1 != 4)=false:=bne_eq_false_iff_eq.mpr z;clear z;replace H:=aD H;obtain⟨aU,aA,H⟩:=H
        (try dsimp only at H)
        have az:=A_ aA;clear aA;by_cases V:aU=true
        ·subst V;rw[af rfl]at H;obtain rfl:=aH H
         go_wp2_with (first|((with_reducible refine aZ (f:=98) rfl ?_);refine gL (some 54) Tryz.func98 #[.int .i64 (wrap64 (Int.tdiv a0 2))] ?_;(with_reducible refine(df.c (wrap64 (Int.tdiv a0 2)) true _ az.out).mono ?_);rintro e w' ⟨rfl,⟨nd,rfl⟩⟩;refine⟨_,rfl,?_⟩))
         go_ret;exact⟨eR,oB u⟩
        ·replace V:=Bool.eq_false_iff.mpr V;subst V;rw[ag (show¬(false=true)by decide)]at H;obtain rfl:=aH H
         go_wp2_with (first|((with_reducible refine aZ (f:=98) rfl ?_);refine gL (some 54) Tryz.func98 #[.int .i64 (wrap64 (Int.tdiv a0 2))] ?_;(with_reducible refine(df.c (wrap64 (Int.tdiv a0 2)) false _ az.out).mono ?_);rintro e w' ⟨rfl,⟨nd,rfl⟩⟩;refine⟨_,rfl,?_⟩))
         go_ret;exact⟨eR,oB u⟩
       ·rw[ag z]at H;have aR:(a1==4)=false:=beq_eq_false_iff_ne.mpr z;have aS:(a1 != 4)=true:=bne_iff_ne.mpr z;replace H:=aD H;obtain⟨aV,aC,H⟩:=H
        (try dsimp only at H)
        have aB:=A_ aC;clear aC;by_cases X:aV=true
        ·subst X;rw[af rfl]at H;obtain rfl:=aH H
         go_wp2_with (first|((with_reducible refine aZ (f:=98) rfl ?_);refine gL (some 54) Tryz.func98 #[.int .i64 0] ?_;(with_reducible refine(df.c 0 true _ aB.out).mono ?_);rintro e w' ⟨rfl,⟨nd,rfl⟩⟩;refine⟨_,rfl,?_⟩))
         go_ret;exact⟨eR,oB u⟩
        ·replace X:=Bool.eq_false_iff.mpr X;subst X;rw[ag (show¬(false=true)by decide)]at H;obtain rfl:=aH H
         go_wp2_with (first|((with_reducible refine aZ (f:=98) rfl ?_);refine gL (some 54) Tryz.func98 #[.int .i64 0] ?_;(with_reducible refine(df.c 0 false _ aB.out).mono ?_);rintro e w' ⟨rfl,⟨nd,rfl⟩⟩;refine⟨_,rfl,?_⟩))
         go_ret;exact⟨eR,oB u⟩
def fY.f (k:Nat) (u:List (aj)) (F:Int) (z:List Int) (a1:Int):Option (Int):=if 0≤a1 then(if a1<(u.length:Int)then(if 0≤((ak u a1).f0)then(if((ak u a1).f0)<(z.length:Int)then((ey.f k (rd z ((ak u a1).f0)) ((ak u a1).f2) ((ak u a1).f3)).bind fun D=>(some D))else(none))else(none))else(none))else(none)
def fY.T2:Bool×List (List Nat×List Nat):=(true,[([],[]),([0],[0]),([],[]),([2],[2]),([1,3],[1,3]),([4],[4]),([],[]),([6],[6]),([],[]),([8],[8]),([5,7,9],[5,7,9]),([10,10,0,1,2,3,4,5,6,7,8,9,10],[10])])
def fY.B2:List Nat:=[0,1,0,4,15,31,0,64,0,256,1023,2047]
theorem fY.sM:bo .any (opsOf Tryz.f131 2)=fY.T2:=by kernel_rfl
theorem fY.ry:cp fY.T2.2 fY.B2=true:=by kernel_rfl
theorem fY.c (k:Nat) (aw:Option Addr) (ai:Nat) (u:List (aj)) (ad:Int) (ap:Option Addr) (al:Nat) (I:List Int) (a1:Int) (r:Int) (w:World) (aQ:Kd.C aX w aw u.length u) (aO:u.length≤ai) (aR:Kd.C (Kd.int .i64) w ap I.length I) (aP:I.length≤al) (h:fY.f k u ad I a1=some r):
  Calls Tryz.prog 131 #[.agg #[.slice aw u.length ai,.int .i64 ad,.slice ap I.length al],.int .i64 a1] w fun e w'=>e= .returned (.int .i64 r)∧Below w.heap.size w w':=by
 have bH:=Tryz.underlying27;have bF:=Tryz.underlying110;have a4:=A_ aQ;have bf:=A_ aO;clear aQ aO;have a5:=A_ aR;have bg:=A_ aP;clear aR aP;have z:=A_ (Below.refl w.heap.size w);have H:(if 0≤a1 then(if a1<(u.length:Int)then(if 0≤((ak u a1).f0)then(if((ak u a1).f0)<(I.length:Int)then((ey.f k (rd I ((ak u a1).f0)) ((ak u a1).f2) ((ak u a1).f3)).bind fun aI=>(some aI))else(none))else(none))else(none))else(none))=some r:=h;clear h;by_cases c3:0≤a1
 ·rw[af c3]at H;have bh:decide (0≤a1)=true:=ah c3;clear c3;by_cases c4:a1<(u.length:Int)
  ·rw[af c4]at H;have bj:decide (a1<(u.length:Int))=true:=ah c4;clear c4;by_cases c5:0≤((ak u a1).f0)
   ·rw[af c5]at H;have bk:decide (0≤((ak u a1).f0))=true:=ah c5;clear c5;by_cases c6:((ak u a1).f0)<(I.length:Int)
    ·rw[af c6]at H;have bm:decide (((ak u a1).f0)<(I.length:Int))=true:=ah c6;clear c6;replace H:=aD H;obtain⟨aI,aJ,H⟩:=H
     (try dsimp only at H)
     have a3:=A_ aJ;clear aJ;obtain rfl:=aH H;go_enter Tryz.func131,Tryz.ntmps131
     try go_wp2_with (first|((with_reducible refine ax (N:=2) rfl ?_);refine bX (N:=2) (cs:= #[.slice aw u.length ai,.int .i64 ad,.slice ap I.length al]) (t:=27) ?_;intro X hg bK am hb;have J:=A_ (aC (oB z) hb);have O:=A_ (am);have U:=A_ ((by rw[hg];exact(aA (oB z)):w.heap.size≤X));have ao:=A_ ((by rw[hg];exact(aA (oB z)):w.heap.size≤X));clear z;have z:=J;have D:=O;have bd:=U;have a_:=ao;clear J O U ao hb am hg;have br:=cz D 0;have bs:=cz D 1;have bt:=cz D 2;have bA:=ar D.out 0;have bB:=ar D.out 1;have bC:=ar D.out 2;have az:0≤(a1:Int):=oD;have aE:a1<(u.length:Int):=oD;obtain⟨aK,a7,aU,aV,aW,aY⟩:=eV a4.out a1 az aE;cases a7;replace aU:=hW z aU;replace aV:=hW z aV;replace aW:=hW z aW;replace aY:=hW z aY;replace az:=av az;replace aE:=av aE)|((with_reducible refine ax (N:=5) rfl ?_);refine bX (N:=5) (cs:= #[.int .i64 0,.int .i64 0,.int .i64 0,.int .i64 0]) (t:=110) ?_;intro G hg au am hb;have J:=A_ (bb D hb);have O:=A_ (aC (oB z) hb);have U:=A_ (am);have ao:=A_ ((by rw[hg];exact(aA (oB z)):w.heap.size≤G));have aZ:=A_ ((by rw[hg];exact(aA (oB z)):w.heap.size≤G));have a0:=A_ (nL D hg);have a2:=A_ (nG D hg);clear D z;have D:=J;have z:=O;have F:=U;have be:=ao;have bc:=aZ;have Z:=a0;have a6:=a2;clear J O U ao aZ a0 a2 hb am hg;have bD:=a6.out;have bE:=Z.out;have bn:=cz F 0;have bo:=cz F 1;have bp:=cz F 2;have bq:=cz F 3;have bu:=ar F.out 0;have bv:=ar F.out 1;have bx:=ar F.out 2;have bz:=ar F.out 3))
     have J:ae (((((au.setCell ⟨G,0,none⟩ (.int .i64 ((ak u a1).f0))).setCell ⟨G,1,none⟩ (.int .i64 ((ak u a1).f1))).setCell ⟨G,2,none⟩ (.int .i64 ((ak u a1).f2))).setCell ⟨G,3,none⟩ (.int .i64 ((ak u a1).f3))).heap[X]? =some (.cells #[.slice (some aK) u.length ai,.int .i64 ad,.slice ap I.length al] 27 (0,0))):=⟨by(with_reducible repeat(first|refine aT ?_ _|refine aM ?_|refine aN ?_ _));refine dx ?_ Z.out _;(with_reducible repeat(first|refine aT ?_ _|refine aM ?_|refine aN ?_ _));refine dx ?_ Z.out _;(with_reducible repeat(first|refine aT ?_ _|refine aM ?_|refine aN ?_ _));refine dx ?_ Z.out _;(with_reducible repeat(first|refine aT ?_ _|refine aM ?_|refine aN ?_ _));refine dx ?_ Z.out _;(with_reducible repeat(first|refine aT ?_ _|refine aM ?_|refine aN ?_ _));exact D.out⟩;have O:ae (((((au.setCell ⟨G,0,none⟩ (.int .i64 ((ak u a1).f0))).setCell ⟨G,1,none⟩ (.int .i64 ((ak u a1).f1))).setCell ⟨G,2,none⟩ (.int .i64 ((ak u a1).f2))).setCell ⟨G,3,none⟩ (.int .i64 ((ak u a1).f3))).heap[G]? =some (.cells #[.int .i64 ((ak u a1).f0),.int .i64 ((ak u a1).f1),.int .i64 ((ak u a1).f2),.int .i64 ((ak u a1).f3)] 110 (0,0))):=⟨by(with_reducible repeat(first|refine aT ?_ _|refine aM ?_|refine aN ?_ _));refine bw (cs:= #[.int .i64 ((ak u a1).f0),.int .i64 ((ak u a1).f1),.int .i64 ((ak u a1).f2),.int .i64 0]) ?_ 3 _ rfl;(with_reducible repeat(first|refine aT ?_ _|refine aM ?_|refine aN ?_ _));refine bw (cs:= #[.int .i64 ((ak u a1).f0),.int .i64 ((ak u a1).f1),.int .i64 0,.int .i64 0]) ?_ 2 _ rfl;(with_reducible repeat(first|refine aT ?_ _|refine aM ?_|refine aN ?_ _));refine bw (cs:= #[.int .i64 ((ak u a1).f0),.int .i64 0,.int .i64 0,.int .i64 0]) ?_ 1 _ rfl;(with_reducible repeat(first|refine aT ?_ _|refine aM ?_|refine aN ?_ _));refine bw (cs:= #[.int .i64 0,.int .i64 0,.int .i64 0,.int .i64 0]) ?_ 0 _ rfl;(with_reducible repeat(first|refine aT ?_ _|refine aM ?_|refine aN ?_ _));exact F.out⟩;have U:ae (Below w.heap.size w ((((au.setCell ⟨G,0,none⟩ (.int .i64 ((ak u a1).f0))).setCell ⟨G,1,none⟩ (.int .i64 ((ak u a1).f1))).setCell ⟨G,2,none⟩ (.int .i64 ((ak u a1).f2))).setCell ⟨G,3,none⟩ (.int .i64 ((ak u a1).f3)))):=⟨oB z⟩
     (try clear D)
     (try clear F)
     (try clear z)
     generalize ((((au.setCell ⟨G,0,none⟩ (.int .i64 ((ak u a1).f0))).setCell ⟨G,1,none⟩ (.int .i64 ((ak u a1).f1))).setCell ⟨G,2,none⟩ (.int .i64 ((ak u a1).f2))).setCell ⟨G,3,none⟩ (.int .i64 ((ak u a1).f3)))=a9 at J O U ⊢;have D:=J;have F:=O;have z:=U;clear J O U;have J:=A_ (aM D.out);have O:=A_ (aM F.out);have U:=A_ (cr z.out);clear D F z;have D:=J;have F:=O;have z:=U;clear J O U;have aB:0≤(((ak u a1).f0):Int):=oD;have aF:((ak u a1).f0)<(I.length:Int):=oD;obtain⟨aL,a8,aq⟩:=Kd.dG a5.out ((ak u a1).f0) aB aF;have aS:=aq;cases a8;replace aq:=hW z aq;replace aB:=av aB;replace aF:=av aF;refine fk (n:=12) (S:=fun w'=>w'.cell? ⟨X,0,none⟩=some (.slice (some aK) u.length ai)∧w'.cell? ⟨X,1,none⟩=some (.int .i64 ad)∧w'.cell? ⟨X,2,none⟩=some (.slice (some aL) I.length al)∧w'.cell? ⟨G,0,none⟩=some (.int .i64 ((ak u a1).f0))∧w'.cell? ⟨G,1,none⟩=some (.int .i64 ((ak u a1).f1))∧w'.cell? ⟨G,2,none⟩=some (.int .i64 ((ak u a1).f2))∧w'.cell? ⟨G,3,none⟩=some (.int .i64 ((ak u a1).f3))∧w'.cell? (aL.add (((ak u a1).f0)).toNat)=some (.int .i64 (rd I ((ak u a1).f0)))) (ds:=[]) #[false,false,false,false,false,false,false,false,false,false,false,false] (by kernel_rfl) rfl rfl ⟨cz D 0,cz D 1,cz D 2,cz F 0,cz F 1,cz F 2,cz F 3,(hW z aS)⟩ (fun hHeld=> ?_);refine fP fY.sM fY.ry (fun V Y=> ?_);generalize a9.drew=bI at D F z aq hHeld ⊢;refine pA 0 (some 11) V.out ?_;refine pA 2 (some 13) V.out ?_;refine pA 6 (some 17) V.out ?_;refine pA 8 (some 19) V.out ?_;refine pT 1 (some 12) V.out Y.out hHeld ?_;refine pT 3 (some 14) V.out Y.out hHeld ?_;refine pA 4 (some 15) V.out ?_;refine pT 5 (some 16) V.out Y.out hHeld ?_;refine pT 7 (some 18) V.out Y.out hHeld ?_;refine pT 9 (some 20) V.out Y.out hHeld ?_;refine dh (i:=10) (N:=some 21) #[true,true,true,true,true,true,true,true,true,true,true,false] rfl rfl (cX V.out (by kernel_rfl)) (by decide) (fun K hK=> ?_);refine cy Tryz.func146 (by kernel_rfl) rfl #[.int .i64 (rd I ((ak u a1).f0)),.int .i64 ((ak u a1).f2),.int .i64 ((ak u a1).f3)] (by rfl) rfl rfl (by(try simp only[List.map_toArray,List.map_cons,List.map_nil]);first|done|rfl|(simp only[List.length_drop,List.length_take];rfl)) ?_
     with_reducible refine(ey.c k (rd I ((ak u a1).f0)) ((ak u a1).f2) ((ak u a1).f3) aI _ a3.out).mono ?_
     rintro e bJ ⟨rfl,hb⟩;refine⟨_,rfl,?_⟩;have J:=A_ (bb D hb);have O:=A_ (bb F hb);have U:=A_ (aC (oB z) hb);clear D F z;have D:=J;have F:=O;have z:=U;clear J O U
     (try clear hb)
     (try clear hb2)
     (try clear hk)
     (try clear hi)
     refine hK.out _ _ ⟨cz D 0,cz D 1,cz D 2,cz F 0,cz F 1,cz F 2,cz F 3,(hW z aS)⟩ (fun hHeld=> ?_);clear hK K;refine dL (a':= ?_) ?_ ?_;rotate_left
     ·show Act.put _ (some 21) _=_;simp only[Act.put,List.setIfInBounds_toArray,List.set_cons_zero,List.set_cons_succ,bG,bN];rfl
     refine pA 11 (some 4) V.out ?_;refine eY (fH V.out (by kernel_rfl)) ?_
     try go_wp2
     go_ret;exact⟨eR,oB z⟩
    ·rw[ag c6]at H;exact absurd H (by simp)
   ·rw[ag c5]at H;exact absurd H (by simp)
  ·rw[ag c4]at H;exact absurd H (by simp)
 ·rw[ag c3]at H;exact absurd H (by simp)
def iC.f (a0:Bool):Option (Int):=if a0=true then(some 1)else(some 0)
theorem iC.c (a0:Bool) (r:Int) (w:World) (h:iC.f a0=some r):
  Calls Tryz.prog 61 #[.bool a0] w fun e w'=>e= .returned (.int .i64 r)∧bD w w':=by
 have H:(if a0=true then(some 1)else(some 0))=some r:=h;clear h;by_cases c2:a0=true
 ·subst c2;rw[af rfl]at H;obtain rfl:=aH H;go_enter Tryz.func61,Tryz.ntmps61;go_wp2;go_ret;exact⟨eS,by repeat(first|exact bD.refl _|apply bD.step)⟩
 ·replace c2:=Bool.eq_false_iff.mpr c2;subst c2;rw[ag (show¬(false=true)by decide)]at H;obtain rfl:=aH H;go_enter Tryz.func61,Tryz.ntmps61;go_wp2;go_ret;exact⟨eS,by repeat(first|exact bD.refl _|apply bD.step)⟩
def cu.f (a0:Int) (a1:Int) (a2:Int):Option (Bool):=if a0≥a1 then(some (decide (a0≤a2)))else(some false)
theorem cu.c (a0:Int) (a1:Int) (a2:Int) (r:Bool) (w:World) (h:cu.f a0 a1 a2=some r):
  Calls Tryz.prog 72 #[.int .i64 a0,.int .i64 a1,.int .i64 a2] w fun e w'=>e= .returned (.bool r)∧bD w w':=by
 have H:(if a0≥a1 then(some (decide (a0≤a2)))else(some false))=some r:=h;clear h;by_cases c4:a0≥a1
 ·rw[af c4]at H;have u:decide (a1≤a0)=true:=ah c4;clear c4;obtain rfl:=aH H;go_enter Tryz.func72,Tryz.ntmps72;go_wp2;go_ret;exact⟨eS,by repeat(first|exact bD.refl _|apply bD.step)⟩
 ·rw[ag c4]at H;have u:decide (a1≤a0)=false:=ay c4;clear c4;obtain rfl:=aH H;go_enter Tryz.func72,Tryz.ntmps72;go_wp2;go_ret;exact⟨eS,by repeat(first|exact bD.refl _|apply bD.step)⟩
def lV.f (u:Int) (I:Int) (z:Int) (D:Int) (F:Int) (J:Int) (G:Int) (H:Int):Option (Bool):=if z=G then(if D=H then(if u=F then(some (decide (I<J)))else(some (decide (u<F))))else(some (decide (D<H))))else(some (decide (z>G)))
theorem lV.c (O:Int) (ao:Int) (U:Int) (V:Int) (X:Int) (ap:Int) (Y:Int) (Z:Int) (r:Bool) (w:World) (h:lV.f O ao U V X ap Y Z=some r):
  Calls Tryz.prog 155 #[.agg #[.int .i64 O,.int .i64 ao,.int .i64 U,.int .i64 V],.agg #[.int .i64 X,.int .i64 ap,.int .i64 Y,.int .i64 Z]] w fun e w'=>e= .returned (.bool r)∧Below w.heap.size w w':=by
 have hu64:=Tryz.underlying64;have z:=A_ (Below.refl w.heap.size w);have H:(if U=Y then(if V=Z then(if O=X then(some (decide (ao<ap)))else(some (decide (O<X))))else(some (decide (V<Z))))else(some (decide (U>Y))))=some r:=h;clear h;by_cases c3:U=Y
 ·rw[af c3]at H;have aB:(U==Y)=true:=beq_iff_eq.mpr c3;have aE:(U != Y)=false:=bne_eq_false_iff_eq.mpr c3;clear c3;by_cases c4:V=Z
  ·rw[af c4]at H;have aF:(V==Z)=true:=beq_iff_eq.mpr c4;have aI:(V != Z)=false:=bne_eq_false_iff_eq.mpr c4;clear c4;by_cases c5:O=X
   ·rw[af c5]at H;have aJ:(O==X)=true:=beq_iff_eq.mpr c5;have aK:(O != X)=false:=bne_eq_false_iff_eq.mpr c5;clear c5;obtain rfl:=aH H;go_enter Tryz.func155,Tryz.ntmps155
    go_wp2_with (first|((with_reducible refine ax (N:=2) rfl ?_);refine bX (N:=2) (cs:= #[.int .i64 O,.int .i64 ao,.int .i64 U,.int .i64 V]) (t:=64) ?_;intro ad hg b8 F hb;have G:=A_ (aC (oB z) hb);have I:=A_ (F);have J:=A_ ((by rw[hg];exact(aA (oB z)):w.heap.size≤ad));have K:=A_ ((by rw[hg];exact(aA (oB z)):w.heap.size≤ad));clear z;have z:=G;have u:=I;have aw:=J;have aq:=K;clear G I J K hb F hg)|((with_reducible refine ax (N:=3) rfl ?_);refine bX (N:=3) (cs:= #[.int .i64 X,.int .i64 ap,.int .i64 Y,.int .i64 Z]) (t:=64) ?_;intro ae hg w7 F hb;have G:=A_ (bb u hb);have I:=A_ (aC (oB z) hb);have J:=A_ (F);have K:=A_ ((by rw[hg];exact(aA (oB z)):w.heap.size≤ae));have ai:=A_ ((by rw[hg];exact(aA (oB z)):w.heap.size≤ae));have aj:=A_ (nL u hg);have ak:=A_ (nG u hg);clear u z;have u:=G;have z:=I;have D:=J;have az:=K;have au:=ai;have al:=aj;have am:=ak;clear G I J K ai aj ak hb F hg;have bW:=al.out;have b1:=am.out;have be:=cz u 0;have bf:=cz u 1;have bg:=cz u 2;have bh:=cz u 3;have bP:=ar u.out 0;have bQ:=ar u.out 1;have bR:=ar u.out 2;have bS:=ar u.out 3;have aL:=cz D 0;have aM:=cz D 1;have aN:=cz D 2;have aO:=cz D 3;have bj:=ar D.out 0;have bk:=ar D.out 1;have bm:=ar D.out 2;have bn:=ar D.out 3))
    go_ret;exact⟨eR,oB z⟩
   ·rw[ag c5]at H;have aJ:(O==X)=false:=beq_eq_false_iff_ne.mpr c5;have aK:(O != X)=true:=bne_iff_ne.mpr c5;obtain rfl:=aH H;go_enter Tryz.func155,Tryz.ntmps155
    go_wp2_with (first|((with_reducible refine ax (N:=2) rfl ?_);refine bX (N:=2) (cs:= #[.int .i64 O,.int .i64 ao,.int .i64 U,.int .i64 V]) (t:=64) ?_;intro ad hg b2 F hb;have G:=A_ (aC (oB z) hb);have I:=A_ (F);have J:=A_ ((by rw[hg];exact(aA (oB z)):w.heap.size≤ad));have K:=A_ ((by rw[hg];exact(aA (oB z)):w.heap.size≤ad));clear z;have z:=G;have u:=I;have aw:=J;have aq:=K;clear G I J K hb F hg)|((with_reducible refine ax (N:=3) rfl ?_);refine bX (N:=3) (cs:= #[.int .i64 X,.int .i64 ap,.int .i64 Y,.int .i64 Z]) (t:=64) ?_;intro ae hg b3 F hb;have G:=A_ (bb u hb);have I:=A_ (aC (oB z) hb);have J:=A_ (F);have K:=A_ ((by rw[hg];exact(aA (oB z)):w.heap.size≤ae));have ai:=A_ ((by rw[hg];exact(aA (oB z)):w.heap.size≤ae));have aj:=A_ (nL u hg);have ak:=A_ (nG u hg);clear u z;have u:=G;have z:=I;have D:=J;have az:=K;have au:=ai;have al:=aj;have am:=ak;clear G I J K ai aj ak hb F hg;have bT:=al.out;have bY:=am.out;have aP:=cz u 0;have aQ:=cz u 1;have aR:=cz u 2;have aS:=cz u 3;have bo:=ar u.out 0;have bp:=ar u.out 1;have bq:=ar u.out 2;have br:=ar u.out 3;have aT:=cz D 0;have aU:=cz D 1;have aV:=cz D 2;have aW:=cz D 3;have bs:=ar D.out 0;have bt:=ar D.out 1;have bu:=ar D.out 2;have bv:=ar D.out 3))
    go_ret;exact⟨eR,oB z⟩
  ·rw[ag c4]at H;have aF:(V==Z)=false:=beq_eq_false_iff_ne.mpr c4;have aI:(V != Z)=true:=bne_iff_ne.mpr c4;obtain rfl:=aH H;go_enter Tryz.func155,Tryz.ntmps155
   go_wp2_with (first|((with_reducible refine ax (N:=2) rfl ?_);refine bX (N:=2) (cs:= #[.int .i64 O,.int .i64 ao,.int .i64 U,.int .i64 V]) (t:=64) ?_;intro ad hg b4 F hb;have G:=A_ (aC (oB z) hb);have I:=A_ (F);have J:=A_ ((by rw[hg];exact(aA (oB z)):w.heap.size≤ad));have K:=A_ ((by rw[hg];exact(aA (oB z)):w.heap.size≤ad));clear z;have z:=G;have u:=I;have aw:=J;have aq:=K;clear G I J K hb F hg)|((with_reducible refine ax (N:=3) rfl ?_);refine bX (N:=3) (cs:= #[.int .i64 X,.int .i64 ap,.int .i64 Y,.int .i64 Z]) (t:=64) ?_;intro ae hg b5 F hb;have G:=A_ (bb u hb);have I:=A_ (aC (oB z) hb);have J:=A_ (F);have K:=A_ ((by rw[hg];exact(aA (oB z)):w.heap.size≤ae));have ai:=A_ ((by rw[hg];exact(aA (oB z)):w.heap.size≤ae));have aj:=A_ (nL u hg);have ak:=A_ (nG u hg);clear u z;have u:=G;have z:=I;have D:=J;have az:=K;have au:=ai;have al:=aj;have am:=ak;clear G I J K ai aj ak hb F hg;have bU:=al.out;have bZ:=am.out;have aX:=cz u 0;have aY:=cz u 1;have aZ:=cz u 2;have a0:=cz u 3;have bw:=ar u.out 0;have bx:=ar u.out 1;have bz:=ar u.out 2;have bA:=ar u.out 3;have a1:=cz D 0;have a2:=cz D 1;have a3:=cz D 2;have a4:=cz D 3;have bB:=ar D.out 0;have bC:=ar D.out 1;have bD:=ar D.out 2;have bE:=ar D.out 3))
   go_ret;exact⟨eR,oB z⟩
 ·rw[ag c3]at H;have aB:(U==Y)=false:=beq_eq_false_iff_ne.mpr c3;have aE:(U != Y)=true:=bne_iff_ne.mpr c3;obtain rfl:=aH H;go_enter Tryz.func155,Tryz.ntmps155
  go_wp2_with (first|((with_reducible refine ax (N:=2) rfl ?_);refine bX (N:=2) (cs:= #[.int .i64 O,.int .i64 ao,.int .i64 U,.int .i64 V]) (t:=64) ?_;intro ad hg b6 F hb;have G:=A_ (aC (oB z) hb);have I:=A_ (F);have J:=A_ ((by rw[hg];exact(aA (oB z)):w.heap.size≤ad));have K:=A_ ((by rw[hg];exact(aA (oB z)):w.heap.size≤ad));clear z;have z:=G;have u:=I;have aw:=J;have aq:=K;clear G I J K hb F hg)|((with_reducible refine ax (N:=3) rfl ?_);refine bX (N:=3) (cs:= #[.int .i64 X,.int .i64 ap,.int .i64 Y,.int .i64 Z]) (t:=64) ?_;intro ae hg b7 F hb;have G:=A_ (bb u hb);have I:=A_ (aC (oB z) hb);have J:=A_ (F);have K:=A_ ((by rw[hg];exact(aA (oB z)):w.heap.size≤ae));have ai:=A_ ((by rw[hg];exact(aA (oB z)):w.heap.size≤ae));have aj:=A_ (nL u hg);have ak:=A_ (nG u hg);clear u z;have u:=G;have z:=I;have D:=J;have az:=K;have au:=ai;have al:=aj;have am:=ak;clear G I J K ai aj ak hb F hg;have bV:=al.out;have b0:=am.out;have a5:=cz u 0;have a6:=cz u 1;have a7:=cz u 2;have a8:=cz u 3;have bF:=ar u.out 0;have bH:=ar u.out 1;have bI:=ar u.out 2;have bJ:=ar u.out 3;have a9:=cz D 0;have a_:=cz D 1;have bc:=cz D 2;have bd:=cz D 3;have bK:=ar D.out 0;have bL:=ar D.out 1;have bM:=ar D.out 2;have bO:=ar D.out 3))
  go_ret;exact⟨eR,oB z⟩
def nh.f (a0:Int) (a1:Int):Option (Int):=(df.f a0).bind fun u=>(if u=true then((fX.f a1).bind fun z=>(if z=true then(some (wrap64 (Int.tdiv (wrap64 (a0*(wrap64 (1000+(wrap64 (2*(wrap64 (a1-15)))))))) 1000)))else(some 0)))else(some 0))
theorem nh.c (a0:Int) (a1:Int) (r:Int) (w:World) (h:nh.f a0 a1=some r):
  Calls Tryz.prog 106 #[.int .i64 a0,.int .i64 a1] w fun e w'=>e= .returned (.int .i64 r)∧bD w w':=by
 have H:((df.f a0).bind fun z=>(if z=true then((fX.f a1).bind fun D=>(if D=true then(some (wrap64 (Int.tdiv (wrap64 (a0*(wrap64 (1000+(wrap64 (2*(wrap64 (a1-15)))))))) 1000)))else(some 0)))else(some 0)))=some r:=h;clear h;replace H:=aD H;obtain⟨z,F,H⟩:=H
 (try dsimp only at H)
 have u:=A_ F;clear F;by_cases c4:z=true
 ·subst c4;rw[af rfl]at H;replace H:=aD H;obtain⟨D,I,H⟩:=H
  (try dsimp only at H)
  have G:=A_ I;clear I;by_cases c6:D=true
  ·subst c6;rw[af rfl]at H;obtain rfl:=aH H;go_enter Tryz.func106,Tryz.ntmps106
   go_wp2_with (first|((with_reducible refine aZ (f:=98) rfl ?_);refine gL (some 6) Tryz.func98 #[.int .i64 a0] ?_;(with_reducible refine(df.c a0 true _ u.out).mono ?_);rintro e w' ⟨rfl,⟨nd,rfl⟩⟩;refine⟨_,rfl,?_⟩)|(go_at_call 57;(with_reducible refine(fX.c a1 true _ G.out).mono ?_);rintro e w' ⟨rfl,⟨nd,rfl⟩⟩))
   go_ret;exact⟨eS,by repeat(first|exact bD.refl _|apply bD.step)⟩
  ·replace c6:=Bool.eq_false_iff.mpr c6;subst c6;rw[ag (show¬(false=true)by decide)]at H;obtain rfl:=aH H;go_enter Tryz.func106,Tryz.ntmps106
   go_wp2_with (first|((with_reducible refine aZ (f:=98) rfl ?_);refine gL (some 6) Tryz.func98 #[.int .i64 a0] ?_;(with_reducible refine(df.c a0 true _ u.out).mono ?_);rintro e w' ⟨rfl,⟨nd,rfl⟩⟩;refine⟨_,rfl,?_⟩)|(go_at_call 57;(with_reducible refine(fX.c a1 false _ G.out).mono ?_);rintro e w' ⟨rfl,⟨nd,rfl⟩⟩))
   go_ret;exact⟨eS,by repeat(first|exact bD.refl _|apply bD.step)⟩
 ·replace c4:=Bool.eq_false_iff.mpr c4;subst c4;rw[ag (show¬(false=true)by decide)]at H;obtain rfl:=aH H;go_enter Tryz.func106,Tryz.ntmps106
  go_wp2_with (first|((with_reducible refine aZ (f:=98) rfl ?_);refine gL (some 6) Tryz.func98 #[.int .i64 a0] ?_;(with_reducible refine(df.c a0 false _ u.out).mono ?_);rintro e w' ⟨rfl,⟨nd,rfl⟩⟩;refine⟨_,rfl,?_⟩))
  go_ret;exact⟨eS,by repeat(first|exact bD.refl _|apply bD.step)⟩
def eA.l0:Nat→Int→List (aj)→Int→Option ((List (aj)))
 |0,_,_,_=>none
 |k+1,x0,x3,u=>if u<11 then(if u=0 then(if x3.length<4398046511104 then(eA.l0 k x0 (x3++[(⟨u,wrap64 (u+1),1,x0⟩:aj)]) (wrap64 (u+1)))else(none))else(if u=2 then(if x3.length<4398046511104 then(eA.l0 k x0 (x3++[(⟨u,wrap64 (u+1),1,x0⟩:aj)]) (wrap64 (u+1)))else(none))else(if u=4 then(if x3.length<4398046511104 then(eA.l0 k x0 (x3++[(⟨u,wrap64 (u+1),1,x0⟩:aj)]) (wrap64 (u+1)))else(none))else(if u=7 then(if x3.length<4398046511104 then(eA.l0 k x0 (x3++[(⟨u,wrap64 (u+1),1,x0⟩:aj)]) (wrap64 (u+1)))else(none))else(if u=9 then(if x3.length<4398046511104 then(eA.l0 k x0 (x3++[(⟨u,wrap64 (u+1),1,x0⟩:aj)]) (wrap64 (u+1)))else(none))else(if x3.length<4398046511104 then(eA.l0 k x0 (x3++[(⟨u,wrap64 (u+1),2,x0⟩:aj)]) (wrap64 (u+1)))else(none)))))))else(some x3)
def eA.f (k:Nat) (a0:Int):Option ((List (aj))):=(cv.f a0 0 5000).bind fun u=>(if u=true then(eA.l0 k a0 (([]:List (aj))) 0)else(some ([]:List (aj))))
theorem eA.c (k:Nat) (a0:Int) (r:List (aj)) (w:World) (h:eA.f k a0=some r):
  Calls Tryz.prog 43 #[.int .i64 a0] w fun e w'=>∃au:Value,e= .returned (au)∧Kd.R aX 110 w' w.heap.size (fun _=>True) au r∧Below w.heap.size w w':=by
 have bt:=Tryz.underlying110;have z:=A_ (Below.refl w.heap.size w);have H:((cv.f a0 0 5000).bind fun ao=>(if ao=true then(eA.l0 k a0 (([]:List (aj))) 0)else(some ([]:List (aj)))))=some r:=h;clear h;replace H:=aD H;obtain⟨ao,ap,H⟩:=H
 (try dsimp only at H)
 have A2:=A_ ap;clear ap;by_cases c3:ao=true
 ·subst c3;rw[af rfl]at H;obtain⟨aw,V⟩:∃K:List (aj),K=(([]:List (aj))):=⟨_,rfl⟩;replace H:(eA.l0 k a0 aw 0)=some r:=by first|(rw[V];with_reducible exact H)|(have D:=(aG _ _).symm.trans H;rw[V];with_reducible exact D)|(have D:=(aG _ _).symm.trans H;with_reducible exact D)|with_reducible exact H|(rw[V];exact H)|exact H
  have aq:=A_ V;clear V;have H':=A_ H;clear H;go_enter Tryz.func43,Tryz.ntmps43
  go_wp2_with (first|((with_reducible refine aZ (f:=58) rfl ?_);refine gL (some 7) Tryz.func58 #[.int .i64 a0,.int .i64 0,.int .i64 5000] ?_;(with_reducible refine(cv.c a0 0 5000 true _ A2.out).mono ?_);rintro e w' ⟨rfl,⟨nd,rfl⟩⟩;refine⟨_,rfl,?_⟩)|((with_reducible refine ax (N:=9) rfl ?_);refine Kd.cx aX _ 110 ?hg (N:=9) ?hd (xs:=([]:List (aj))) (inner:=[]) (ok:=fun _=>True) (bB:=fun _=>True) ?hr ?hp (fun _ hk=>hk) trivial (Below.refl _ _) (Nat.le_refl _) (by simp) ?_;(case hd=>rfl);(case hg=>rfl);(case hr=>first|(go_simp;done)|(go_simp;rfl));(case hp=>exact(aI.none _ _));intro bu w4 U hb br bs;clear br bs;(first|rw[←aq.out]at U|(simp only[Int.reduceToNat]at U;rw[←aq.out]at U));have G:=A_ (Kd.bE U (aA (oB z)));have I:=A_ (aC (oB z) hb);clear z;have aQ:=G;have z:=I;clear G I hb U))
  go_loopg [3,4] k (fun ar v3 v4 w'=>∃(F:List (aj)) (u:Int),v4= .int .i64 u∧ae (eA.l0 ar a0 F u=some r)∧ae (ar≤k)∧ae (Kd.R aX 110 w' w.heap.size (fun _=>True) v3 F)∧ae (Below w.heap.size w w'))
  case atStart=>exact⟨(aw),(0),eS,H',⟨Nat.le_refl _⟩,⟨oR aQ⟩,⟨oB z⟩⟩
  case round=>
   clear H'
   try clear p2
   try clear c3
   try clear c4
   try clear c5
   obtain⟨F,u,rfl,am,O,J,z⟩:=hrel;cases gk with
   |zero=>exact absurd am.out (by simp[eA.l0])
   |succ k1=>
    have H:=am.out;clear am;simp only[eA.l0]at H;by_cases c6:u<11
    ·rw[af c6]at H;have bo:decide (u<11)=true:=ah c6;clear c6;by_cases c7:u=0
     ·rw[af c7]at H;have bp:(u==0)=true:=beq_iff_eq.mpr c7;have bq:(u != 0)=false:=bne_eq_false_iff_eq.mpr c7;clear c7;by_cases c8:F.length<4398046511104
      ·rw[af c8]at H;have a6:=A_ c8;clear c8;obtain⟨az,X⟩:∃K:List (aj),K=(F++[(⟨u,wrap64 (u+1),1,a0⟩:aj)]):=⟨_,rfl⟩;replace H:(eA.l0 k1 a0 az (wrap64 (u+1)))=some r:=by first|(rw[X];with_reducible exact H)|(have D:=(aG _ _).symm.trans H;rw[X];with_reducible exact D)|(have D:=(aG _ _).symm.trans H;with_reducible exact D)|with_reducible exact H|(rw[X];exact H)|exact H
       have a7:=A_ X;clear X;have H':=A_ H;clear H
       go_wp2_with (first|((with_reducible refine dP (b:= .append) (xs:= #[.tmp 32,.tmp 39]) rfl ?_);at_builtin;refine Kd.eF aX (w0:=w) w.heap.size rfl (.tmp 32) (.tmp 39) 24 110 (.agg #[(.int .i64 0),(.int .i64 0),(.int .i64 0),(.int .i64 0)]) 32 rfl Tryz.underlying24 kz rfl (by decide) (by omega) u3 F (⟨u,wrap64 (u+1),1,a0⟩:aj) [.int .i64 u,.int .i64 (wrap64 (u+1)),.int .i64 1,.int .i64 a0] (fun _=>True) (fun _=>False) rfl rfl ?aP (fun _ hk=>hk.elim) ?aF ?aO ?aB ?aS ?aL ?_;(case aP=>exact mv _ _ _ (⟨u,wrap64 (u+1),1,a0⟩:aj));(case aB=>exact(oB z));(case aF=>exact(fun _ _=>trivial));(case aO=>exact(oR J));(case aS=>exact(aA (oB z)));(case aL=>have:=a6.out;omega);intro bv bK ho hb hg hat;rw[←a7.out]at ho;have G:=A_ (hb);have I:=A_ (ho);clear z J;have z:=G;have aR:=I;clear G I ho hb hg hat))
       go_roundg k1
       case measure=>have:=O.out;omega
       case rel=>exact⟨(az),(wrap64 (u+1)),eS,H',⟨by have:=O.out;omega⟩,⟨oR aR⟩,⟨oB z⟩⟩
      ·rw[ag c8]at H;exact absurd H (by simp)
     ·rw[ag c7]at H;have bp:(u==0)=false:=beq_eq_false_iff_ne.mpr c7;have bq:(u != 0)=true:=bne_iff_ne.mpr c7;by_cases c10:u=2
      ·rw[af c10]at H;have bd:(u==2)=true:=beq_iff_eq.mpr c10;have be:(u != 2)=false:=bne_eq_false_iff_eq.mpr c10;clear c10;by_cases c11:F.length<4398046511104
       ·rw[af c11]at H;have a1:=A_ c11;clear c11;obtain⟨aE,Y⟩:∃K:List (aj),K=(F++[(⟨u,wrap64 (u+1),1,a0⟩:aj)]):=⟨_,rfl⟩;replace H:(eA.l0 k1 a0 aE (wrap64 (u+1)))=some r:=by first|(rw[Y];with_reducible exact H)|(have D:=(aG _ _).symm.trans H;rw[Y];with_reducible exact D)|(have D:=(aG _ _).symm.trans H;with_reducible exact D)|with_reducible exact H|(rw[Y];exact H)|exact H
        have a8:=A_ Y;clear Y;have H':=A_ H;clear H
        go_wp2_with (first|((with_reducible refine dP (b:= .append) (xs:= #[.tmp 32,.tmp 39]) rfl ?_);at_builtin;refine Kd.eF aX (w0:=w) w.heap.size rfl (.tmp 32) (.tmp 39) 24 110 (.agg #[(.int .i64 0),(.int .i64 0),(.int .i64 0),(.int .i64 0)]) 32 rfl Tryz.underlying24 kz rfl (by decide) (by omega) u3 F (⟨u,wrap64 (u+1),1,a0⟩:aj) [.int .i64 u,.int .i64 (wrap64 (u+1)),.int .i64 1,.int .i64 a0] (fun _=>True) (fun _=>False) rfl rfl ?aP (fun _ hk=>hk.elim) ?aF ?aO ?aB ?aS ?aL ?_;(case aP=>exact mv _ _ _ (⟨u,wrap64 (u+1),1,a0⟩:aj));(case aB=>exact(oB z));(case aF=>exact(fun _ _=>trivial));(case aO=>exact(oR J));(case aS=>exact(aA (oB z)));(case aL=>have:=a1.out;omega);intro bw bD ho hb hg hat;rw[←a8.out]at ho;have G:=A_ (hb);have I:=A_ (ho);clear z J;have z:=G;have aT:=I;clear G I ho hb hg hat))
        go_roundg k1
        case measure=>have:=O.out;omega
        case rel=>exact⟨(aE),(wrap64 (u+1)),eS,H',⟨by have:=O.out;omega⟩,⟨oR aT⟩,⟨oB z⟩⟩
       ·rw[ag c11]at H;exact absurd H (by simp)
      ·rw[ag c10]at H;have bd:(u==2)=false:=beq_eq_false_iff_ne.mpr c10;have be:(u != 2)=true:=bne_iff_ne.mpr c10;by_cases c13:u=4
       ·rw[af c13]at H;have bf:(u==4)=true:=beq_iff_eq.mpr c13;have bg:(u != 4)=false:=bne_eq_false_iff_eq.mpr c13;clear c13;by_cases c14:F.length<4398046511104
        ·rw[af c14]at H;have a2:=A_ c14;clear c14;obtain⟨aJ,Z⟩:∃K:List (aj),K=(F++[(⟨u,wrap64 (u+1),1,a0⟩:aj)]):=⟨_,rfl⟩;replace H:(eA.l0 k1 a0 aJ (wrap64 (u+1)))=some r:=by first|(rw[Z];with_reducible exact H)|(have D:=(aG _ _).symm.trans H;rw[Z];with_reducible exact D)|(have D:=(aG _ _).symm.trans H;with_reducible exact D)|with_reducible exact H|(rw[Z];exact H)|exact H
         have a9:=A_ Z;clear Z;have H':=A_ H;clear H
         go_wp2_with (first|((with_reducible refine dP (b:= .append) (xs:= #[.tmp 32,.tmp 39]) rfl ?_);at_builtin;refine Kd.eF aX (w0:=w) w.heap.size rfl (.tmp 32) (.tmp 39) 24 110 (.agg #[(.int .i64 0),(.int .i64 0),(.int .i64 0),(.int .i64 0)]) 32 rfl Tryz.underlying24 kz rfl (by decide) (by omega) u3 F (⟨u,wrap64 (u+1),1,a0⟩:aj) [.int .i64 u,.int .i64 (wrap64 (u+1)),.int .i64 1,.int .i64 a0] (fun _=>True) (fun _=>False) rfl rfl ?aP (fun _ hk=>hk.elim) ?aF ?aO ?aB ?aS ?aL ?_;(case aP=>exact mv _ _ _ (⟨u,wrap64 (u+1),1,a0⟩:aj));(case aB=>exact(oB z));(case aF=>exact(fun _ _=>trivial));(case aO=>exact(oR J));(case aS=>exact(aA (oB z)));(case aL=>have:=a2.out;omega);intro bx bF ho hb hg hat;rw[←a9.out]at ho;have G:=A_ (hb);have I:=A_ (ho);clear z J;have z:=G;have aU:=I;clear G I ho hb hg hat))
         go_roundg k1
         case measure=>have:=O.out;omega
         case rel=>exact⟨(aJ),(wrap64 (u+1)),eS,H',⟨by have:=O.out;omega⟩,⟨oR aU⟩,⟨oB z⟩⟩
        ·rw[ag c14]at H;exact absurd H (by simp)
       ·rw[ag c13]at H;have bf:(u==4)=false:=beq_eq_false_iff_ne.mpr c13;have bg:(u != 4)=true:=bne_iff_ne.mpr c13;by_cases c16:u=7
        ·rw[af c16]at H;have bh:(u==7)=true:=beq_iff_eq.mpr c16;have bk:(u != 7)=false:=bne_eq_false_iff_eq.mpr c16;clear c16;by_cases c17:F.length<4398046511104
         ·rw[af c17]at H;have a3:=A_ c17;clear c17;obtain⟨aK,ad⟩:∃K:List (aj),K=(F++[(⟨u,wrap64 (u+1),1,a0⟩:aj)]):=⟨_,rfl⟩;replace H:(eA.l0 k1 a0 aK (wrap64 (u+1)))=some r:=by first|(rw[ad];with_reducible exact H)|(have D:=(aG _ _).symm.trans H;rw[ad];with_reducible exact D)|(have D:=(aG _ _).symm.trans H;with_reducible exact D)|with_reducible exact H|(rw[ad];exact H)|exact H
          have a_:=A_ ad;clear ad;have H':=A_ H;clear H
          go_wp2_with (first|((with_reducible refine dP (b:= .append) (xs:= #[.tmp 32,.tmp 39]) rfl ?_);at_builtin;refine Kd.eF aX (w0:=w) w.heap.size rfl (.tmp 32) (.tmp 39) 24 110 (.agg #[(.int .i64 0),(.int .i64 0),(.int .i64 0),(.int .i64 0)]) 32 rfl Tryz.underlying24 kz rfl (by decide) (by omega) u3 F (⟨u,wrap64 (u+1),1,a0⟩:aj) [.int .i64 u,.int .i64 (wrap64 (u+1)),.int .i64 1,.int .i64 a0] (fun _=>True) (fun _=>False) rfl rfl ?aP (fun _ hk=>hk.elim) ?aF ?aO ?aB ?aS ?aL ?_;(case aP=>exact mv _ _ _ (⟨u,wrap64 (u+1),1,a0⟩:aj));(case aB=>exact(oB z));(case aF=>exact(fun _ _=>trivial));(case aO=>exact(oR J));(case aS=>exact(aA (oB z)));(case aL=>have:=a3.out;omega);intro bz bH ho hb hg hat;rw[←a_.out]at ho;have G:=A_ (hb);have I:=A_ (ho);clear z J;have z:=G;have aV:=I;clear G I ho hb hg hat))
          go_roundg k1
          case measure=>have:=O.out;omega
          case rel=>exact⟨(aK),(wrap64 (u+1)),eS,H',⟨by have:=O.out;omega⟩,⟨oR aV⟩,⟨oB z⟩⟩
         ·rw[ag c17]at H;exact absurd H (by simp)
        ·rw[ag c16]at H;have bh:(u==7)=false:=beq_eq_false_iff_ne.mpr c16;have bk:(u != 7)=true:=bne_iff_ne.mpr c16;by_cases c19:u=9
         ·rw[af c19]at H;have bm:(u==9)=true:=beq_iff_eq.mpr c19;have bn:(u != 9)=false:=bne_eq_false_iff_eq.mpr c19;clear c19;by_cases c20:F.length<4398046511104
          ·rw[af c20]at H;have a4:=A_ c20;clear c20;obtain⟨aM,ai⟩:∃K:List (aj),K=(F++[(⟨u,wrap64 (u+1),1,a0⟩:aj)]):=⟨_,rfl⟩;replace H:(eA.l0 k1 a0 aM (wrap64 (u+1)))=some r:=by first|(rw[ai];with_reducible exact H)|(have D:=(aG _ _).symm.trans H;rw[ai];with_reducible exact D)|(have D:=(aG _ _).symm.trans H;with_reducible exact D)|with_reducible exact H|(rw[ai];exact H)|exact H
           have bb:=A_ ai;clear ai;have H':=A_ H;clear H
           go_wp2_with (first|((with_reducible refine dP (b:= .append) (xs:= #[.tmp 32,.tmp 39]) rfl ?_);at_builtin;refine Kd.eF aX (w0:=w) w.heap.size rfl (.tmp 32) (.tmp 39) 24 110 (.agg #[(.int .i64 0),(.int .i64 0),(.int .i64 0),(.int .i64 0)]) 32 rfl Tryz.underlying24 kz rfl (by decide) (by omega) u3 F (⟨u,wrap64 (u+1),1,a0⟩:aj) [.int .i64 u,.int .i64 (wrap64 (u+1)),.int .i64 1,.int .i64 a0] (fun _=>True) (fun _=>False) rfl rfl ?aP (fun _ hk=>hk.elim) ?aF ?aO ?aB ?aS ?aL ?_;(case aP=>exact mv _ _ _ (⟨u,wrap64 (u+1),1,a0⟩:aj));(case aB=>exact(oB z));(case aF=>exact(fun _ _=>trivial));(case aO=>exact(oR J));(case aS=>exact(aA (oB z)));(case aL=>have:=a4.out;omega);intro bA bI ho hb hg hat;rw[←bb.out]at ho;have G:=A_ (hb);have I:=A_ (ho);clear z J;have z:=G;have aW:=I;clear G I ho hb hg hat))
           go_roundg k1
           case measure=>have:=O.out;omega
           case rel=>exact⟨(aM),(wrap64 (u+1)),eS,H',⟨by have:=O.out;omega⟩,⟨oR aW⟩,⟨oB z⟩⟩
          ·rw[ag c20]at H;exact absurd H (by simp)
         ·rw[ag c19]at H;have bm:(u==9)=false:=beq_eq_false_iff_ne.mpr c19;have bn:(u != 9)=true:=bne_iff_ne.mpr c19;by_cases al:F.length<4398046511104
          ·rw[af al]at H;have a5:=A_ al;clear al;obtain⟨aN,ak⟩:∃K:List (aj),K=(F++[(⟨u,wrap64 (u+1),2,a0⟩:aj)]):=⟨_,rfl⟩;replace H:(eA.l0 k1 a0 aN (wrap64 (u+1)))=some r:=by first|(rw[ak];with_reducible exact H)|(have D:=(aG _ _).symm.trans H;rw[ak];with_reducible exact D)|(have D:=(aG _ _).symm.trans H;with_reducible exact D)|with_reducible exact H|(rw[ak];exact H)|exact H
           have bc:=A_ ak;clear ak;have H':=A_ H;clear H
           go_wp2_with (first|((with_reducible refine dP (b:= .append) (xs:= #[.tmp 32,.tmp 39]) rfl ?_);at_builtin;refine Kd.eF aX (w0:=w) w.heap.size rfl (.tmp 32) (.tmp 39) 24 110 (.agg #[(.int .i64 0),(.int .i64 0),(.int .i64 0),(.int .i64 0)]) 32 rfl Tryz.underlying24 kz rfl (by decide) (by omega) u3 F (⟨u,wrap64 (u+1),2,a0⟩:aj) [.int .i64 u,.int .i64 (wrap64 (u+1)),.int .i64 2,.int .i64 a0] (fun _=>True) (fun _=>False) rfl rfl ?aP (fun _ hk=>hk.elim) ?aF ?aO ?aB ?aS ?aL ?_;(case aP=>exact mv _ _ _ (⟨u,wrap64 (u+1),2,a0⟩:aj));(case aB=>exact(oB z));(case aF=>exact(fun _ _=>trivial));(case aO=>exact(oR J));(case aS=>exact(aA (oB z)));(case aL=>have:=a5.out;omega);intro bC bJ ho hb hg hat;rw[←bc.out]at ho;have G:=A_ (hb);have I:=A_ (ho);clear z J;have z:=G;have aY:=I;clear G I ho hb hg hat))
           go_roundg k1
           case measure=>have:=O.out;omega
           case rel=>exact⟨(aN),(wrap64 (u+1)),eS,H',⟨by have:=O.out;omega⟩,⟨oR aY⟩,⟨oB z⟩⟩
          ·rw[ag al]at H;exact absurd H (by simp)
    ·rw[ag c6]at H;have bo:decide (u<11)=false:=ay c6;clear c6;obtain rfl:=aH H;go_wp2;go_ret;exact⟨_,eR,oR J,oB z⟩
 ·replace c3:=Bool.eq_false_iff.mpr c3;subst c3;rw[ag (show¬(false=true)by decide)]at H;obtain rfl:=aH H;go_enter Tryz.func43,Tryz.ntmps43
  go_wp2_with (first|((with_reducible refine aZ (f:=58) rfl ?_);refine gL (some 7) Tryz.func58 #[.int .i64 a0,.int .i64 0,.int .i64 5000] ?_;(with_reducible refine(cv.c a0 0 5000 false _ A2.out).mono ?_);rintro e w' ⟨rfl,⟨nd,rfl⟩⟩;refine⟨_,rfl,?_⟩))
  go_ret;exact⟨_,eR,by first|exact Kd.bj _ _ _ _ _|exact Kd.jF _ _ _ _ _|exact Kd.jI _ _ _ _ _|exact Kd.jG _ _ _ _ _|exact Kd.jH _ _ _ _ _,oB z⟩
def jO.f (l0:List (aj)):Option ((List (aj))):=(some (([]:List (aj)):List (aj))).bind fun u=>(if u.length+l0.length<4398046511104 then(some (u++l0))else(none))
theorem jO.c (A0:Option Addr) (c0:Nat) (l0:List (aj)) (r:List (aj)) (w:World) (X:Kd.C aX w A0 l0.length l0) (hc0:l0.length≤c0) (h:jO.f l0=some r):
  Calls Tryz.prog 107 #[.slice A0 l0.length c0] w fun e w'=>∃Y:Value,e= .returned (Y)∧Kd.R aX 110 w' w.heap.size (fun _=>True) Y r∧Below w.heap.size w w':=by
 have ad:=A_ X;have ao:=A_ hc0;clear X hc0;have u:=A_ (Below.refl w.heap.size w);have H:((some (([]:List (aj)):List (aj))).bind fun z=>(if z.length+l0.length<4398046511104 then(some (z++l0))else(none)))=some r:=h;clear h;obtain⟨z,G⟩:∃O:List (aj),O=(([]:List (aj))):=⟨_,rfl⟩;replace H:(if z.length+l0.length<4398046511104 then(some (z++l0))else(none))=some r:=by first|(rw[G];with_reducible exact H)|(have D:=(aG _ _).symm.trans H;rw[G];with_reducible exact D)|(have D:=(aG _ _).symm.trans H;with_reducible exact D)|with_reducible exact H|(rw[G];exact H)|exact H
 have V:=A_ G;clear G;by_cases c2:z.length+l0.length<4398046511104
 ·rw[af c2]at H;have ae:=A_ c2;clear c2;obtain⟨am,I⟩:∃O:List (aj),O=(z++l0):=⟨_,rfl⟩;replace H:(some am)=some r:=by first|(rw[I];with_reducible exact H)|(have D:=(aG _ _).symm.trans H;rw[I];with_reducible exact D)|(have D:=(aG _ _).symm.trans H;with_reducible exact D)|with_reducible exact H|(rw[I];exact H)|exact H
  have ai:=A_ I;clear I;obtain rfl:=aH H;go_enter Tryz.func107,Tryz.ntmps107
  go_wp2_with (first|((with_reducible refine ax (N:=3) rfl ?_);refine Kd.cx aX _ 110 ?hg (N:=3) ?hd (xs:=([]:List (aj))) (inner:=[]) (ok:=fun _=>True) (bB:=fun _=>True) ?hr ?hp (fun _ hk=>hk) trivial (Below.refl _ _) (Nat.le_refl _) (by simp) ?_;(case hd=>rfl);(case hg=>rfl);(case hr=>first|(go_simp;done)|(go_simp;rfl));(case hp=>exact(aI.none _ _));intro v105 w3 F hb ak al;clear ak al;(first|rw[←V.out]at F|(simp only[Int.reduceToNat]at F;rw[←V.out]at F));have J:=A_ (Kd.bE F (aA (oB u)));have K:=A_ (aC (oB u) hb);clear u;have U:=J;have u:=K;clear J K hb F)|((with_reducible refine dP (b:= .append) (xs:= #[.tmp 3,.tmp 4]) rfl ?_);at_builtin;refine Kd.lH aX (w0:=w) w.heap.size rfl (.tmp 3) (.tmp 4) 24 110 (.agg #[(.int .i64 0),(.int .i64 0),(.int .i64 0),(.int .i64 0)]) 32 rfl Tryz.underlying24 kz rfl (by decide) (by omega) v105 z l0 _ _ _ (fun _=>True) (fun _=>False) rfl rfl ?aO ?aR (fun _ _ h=>h) (fun _ h=>h.elim) ?aF ?aB ?aS ?aL ?_;(case aR=>exact bO ad.out);(case aB=>exact(oB u));(case aF=>exact(fun _ _=>trivial));(case aO=>exact(oR U));(case aS=>exact(aA (oB u)));(case aL=>have:=ae.out;omega);intro ap aq ho hb hg hat;rw[←ai.out]at ho;have J:=A_ (hb);have K:=A_ (ho);clear u U;have u:=J;have Z:=K;clear J K ho hb hg hat))
  go_ret;exact⟨_,eR,oR Z,oB u⟩
 ·rw[ag c2]at H;exact absurd H (by simp)
def kP (x:aj) (t:List Bool):Bool:=
  (decide (x.f2=1)||decide (x.f2=2))&&(decide (0≤x.f3∧x.f3≤5000)&&(decide (0≤x.f0∧x.f0≤11)&&(decide (0≤x.f1∧x.f1≤11)&&(decide (x.f1=(x.f0+1)%12)&&(t.getD x.f0.toNat false&& !t.getD x.f1.toNat false)))))
def kF:List aj→List Bool→Bool
  |[],_=>true
  |x::r,t=>kP x t&&kF r (t.set x.f1.toNat true)
def se (l:List aj):Bool:=kF l (true::List.replicate 11 false)&&decide (l.length≤11)
theorem yb {t:List Bool} {k:Nat} (hk:k<t.length) (h:t.getD k false=false):(t.set k true).count true=t.count true+1:=by
  rw[List.count_set hk];simp[List.getD_eq_getElem?_getD,hk]at h;simp[h]
def jN.f (l0:List (aj)):Option (Bool):=some (se l0)
theorem jN.c (A0:Option Addr) (c0:Nat) (l0:List (aj)) (r:Bool) (w:World) (aA:Kd.C aX w A0 l0.length l0) (hc0:l0.length≤c0) (h:jN.f l0=some r):
    Calls Tryz.prog 109 #[.slice A0 l0.length c0] w fun e w'=>e= .returned (.bool r)∧Below w.heap.size w w':=by
  have aM:=Tryz.underlying110;have H:=aH h;clear h;go_enter Tryz.func109,Tryz.ntmps109
  go_wp2_with (first|((with_reducible refine ax (N:=6) rfl ?_);refine Kd.rh Kd.bool _ 4 rfl (N:=6) rfl 143 _ _ rfl 12 rfl rfl Tryz.underlying143 (.bool false) 1 yR rfl (by decide) (by omega) false (ok:=fun _=>True) (bB:=fun _=>True) rfl (fun _ hk=>hk) trivial (by omega) (by omega) (Below.refl _ _) (Nat.le_refl _) ?_;intro v105 aT K hb aw az;clear aw az;have u:=A_ hb;obtain⟨J,ao,ap,V,aq,am,Z⟩:=Kd.kR K (by decide);subst ap;have HO:=A_ K;have GB:=A_ V;clear K aq am Z hb V;have aJ:(0<(List.replicate (Int.toNat 12) false).length)=True:=av (by decide);obtain⟨Y,X⟩:=Kd.gC false HO.out (0:Int) (by omega) (by decide);simp only[Int.toNat_zero]at Y X))
  go_loopg [4] (l0.length+1) (fun aB v4 w'=>∃(i:Nat) (tn:List Bool),v4= .int .i64 (i:Int)∧ae (i+aB=l0.length+1)∧ae (i≤l0.length)∧ae (tn.length=12)∧ae (tn.count true=i+1)∧ae (Kd.R Kd.bool 4 w' w.heap.size (fun _=>True) (.slice (some ⟨J,0,none⟩) 12 ao) tn)∧ae ((kF (l0.drop i) tn&&decide (l0.length≤11))=r)∧ae (Below w.heap.size w w'))
  case atStart=>
    exact⟨0,true::List.replicate 11 false,rfl,⟨by omega⟩,⟨by omega⟩,⟨rfl⟩,⟨by decide⟩,⟨(Kd.lI HO.out (0:Int) true).1⟩,⟨by rw[←H];rfl⟩,⟨fo u.out GB.out⟩⟩
  case round=>
    obtain⟨i,tn,rfl,HK,aK,G,U,F,z,u⟩:=hrel;clear HO aJ Y X;by_cases hlt:i<l0.length;rotate_left
    · have hb3:decide ((i:Int)<(l0.length:Int))=false:=ay (by omega);have hb4:decide (i<l0.length)=false:=ay (by omega);have h1:=z.out;rw[List.drop_eq_nil_of_le (by omega)]at h1;by_cases h11:l0.length≤11
      · obtain rfl:true=r:=(by rw[←h1];simp[kF,h11]);have ar:decide ((l0.length:Int)≤11)=true:=ah (by omega);have au:decide (l0.length≤11)=true:=ah (by omega);clear h1;go_wp2;go_ret;exact⟨rfl,u.out⟩
      · obtain rfl:false=r:=(by rw[←h1];simp[kF,h11]);have ar:decide ((l0.length:Int)≤11)=false:=ay (by omega);have au:decide (l0.length≤11)=false:=ay (by omega);clear h1;go_wp2;go_ret;exact⟨rfl,u.out⟩
    · have hb3:decide ((i:Int)<(l0.length:Int))=true:=ah (by omega);have hb4:decide (i<l0.length)=true:=ah (by omega);obtain⟨ad,e,hx0,hx1,hx2,hx3⟩:=eV aA (i:Int) (by omega) (by omega);cases e;replace hx0:=hW u hx0;replace hx1:=hW u hx1;replace hx2:=hW u hx2;replace hx3:=hW u hx3;obtain⟨x,hx⟩:∃x,ak l0 (i:Int)=x:=⟨_,rfl⟩;rw[hx]at hx0 hx1 hx2 hx3;simp only[Int.toNat_natCast]at hx0 hx1 hx2 hx3
      have hd:(kF (l0.drop i) tn&&decide (l0.length≤11))=(kP x tn&&(kF (l0.drop (i+1)) (tn.set x.f1.toNat true)&&decide (l0.length≤11))):=by
        rw[List.drop_eq_getElem_cons hlt];have e0:l0[i]=x:=(by rw[←hx];simp[ak,List.getD_eq_getElem?_getD,hlt]);rw[e0];show(kP x tn&&kF _ _&&_)=_;rw[Bool.and_assoc]
      have aL:=A_ hx;clear hx;have HD:=A_ hd;clear hd
      have win:∀(a b c:Int) (d:Bool) (W:World),decide (b≤a∧a≤c)=d→Calls Tryz.prog 72 #[.int .i64 a,.int .i64 b,.int .i64 c] W fun e w'=>e= .returned (.bool d)∧bD W w':=fun a b c d W hd=>
        cu.c a b c d W (by rw[←hd];unfold cu.f;by_cases hh:b≤a<;>simp[hh])
      have tc:∀k,k<12→∀o:Obj,(wr.alloc o).cell? ⟨J,k,none⟩=some (.bool (tn.getD k false)):=fun k hk o=>by
        have h9:=(Kd.gC false (Kd.bm F.out o) (k:Int) (by omega) (by omega)).1;simpa[bF]using h9
      have tf:∀k,k<12→∀o:Obj,(wr.alloc o).frozen? ⟨J,k,none⟩=false:=fun k hk o=>by
        have h9:=(Kd.gC false (Kd.bm F.out o) (k:Int) (by omega) (by omega)).2;simpa using h9
      by_cases q0:x.f2=1∨x.f2=2;rotate_left
      · have W0:=A_ fun W=>win x.f2 1 2 false W (ay (by omega));have D:=A_ q0;clear q0 win tc tf
        go_wp2_with (first|(go_at_call 72;(with_reducible refine(W0.out _).mono ?_);rintro e w' ⟨rfl,⟨nd,rfl⟩⟩))
        all_goals
          obtain rfl:false=r:=by
            rw[←z.out,HD.out];have:=D.out;simp only[not_or]at this;simp[kP,this.1,this.2]
          go_ret;exact⟨rfl,by repeat(first|exact u.out|apply cj|apply dM|apply cr)⟩
      have W0:=A_ fun W=>win x.f2 1 2 true W (ah (by omega));have ai:=A_ q0;clear q0;by_cases q1:0≤x.f3∧x.f3≤5000;rotate_left
      · have W1:=A_ fun W=>win x.f3 0 5000 false W (ay q1);have D:=A_ q1;clear q1 win tc tf
        go_wp2_with (first|(go_at_call 72;(with_reducible refine(W0.out _).mono ?_);rintro e w' ⟨rfl,⟨nd,rfl⟩⟩)|(go_at_call 72;(with_reducible refine(W1.out _).mono ?_);rintro e w' ⟨rfl,⟨nd,rfl⟩⟩))
        all_goals
          obtain rfl:false=r:=by
            rw[←z.out,HD.out];simp[kP,D.out]
          go_ret;exact⟨rfl,by repeat(first|exact u.out|apply cj|apply dM|apply cr)⟩
      have W1:=A_ fun W=>win x.f3 0 5000 true W (ah q1);by_cases q2:0≤x.f0∧x.f0≤11;rotate_left
      · have W2:=A_ fun W=>win x.f0 0 11 false W (ay q2);have D:=A_ q2;clear q1 q2 win tc tf
        go_wp2_with (first|(go_at_call 72;(with_reducible refine(W0.out _).mono ?_);rintro e w' ⟨rfl,⟨nd,rfl⟩⟩)|(go_at_call 72;(with_reducible refine(W1.out _).mono ?_);rintro e w' ⟨rfl,⟨nd,rfl⟩⟩)|(go_at_call 72;(with_reducible refine(W2.out _).mono ?_);rintro e w' ⟨rfl,⟨nd,rfl⟩⟩))
        all_goals
          obtain rfl:false=r:=by
            rw[←z.out,HD.out];simp[kP,D.out]
          go_ret;exact⟨rfl,by repeat(first|exact u.out|apply cj|apply dM|apply cr)⟩
      have W2:=A_ fun W=>win x.f0 0 11 true W (ah q2);clear win;obtain⟨aC,aN⟩:=q2;have al:=A_ q1;clear q1;by_cases q4:x.f1=(x.f0+1)%12;rotate_left
      · have aF:(x.f1==(x.f0+1)%12)=false:=beq_eq_false_iff_ne.mpr q4;have aI:(x.f1 != (x.f0+1)%12)=true:=bne_iff_ne.mpr q4;have I:=A_ q4;clear q4 tc tf
        go_wp2_with (first|(go_at_call 72;(with_reducible refine(W0.out _).mono ?_);rintro e w' ⟨rfl,⟨nd,rfl⟩⟩)|(go_at_call 72;(with_reducible refine(W1.out _).mono ?_);rintro e w' ⟨rfl,⟨nd,rfl⟩⟩)|(go_at_call 72;(with_reducible refine(W2.out _).mono ?_);rintro e w' ⟨rfl,⟨nd,rfl⟩⟩))
        all_goals
          obtain rfl:false=r:=by
            rw[←z.out,HD.out];simp[kP,I.out]
          go_ret;exact⟨rfl,by repeat(first|exact u.out|apply cj|apply dM|apply cr)⟩
      have aF:(x.f1==(x.f0+1)%12)=true:=beq_iff_eq.mpr q4;have aI:(x.f1 != (x.f0+1)%12)=false:=bne_eq_false_iff_eq.mpr q4;have aE:0≤x.f1:=(by omega);have aO:x.f1≤11:=(by omega);have I:=A_ q4;clear q4;have hc0:=tc x.f0.toNat (by omega);have hc1:=tc x.f1.toNat (by omega);have hfz:=tf x.f1.toNat (by omega);clear tc tf;obtain⟨b0,hb0⟩:∃b,tn.getD x.f0.toNat false=b:=⟨_,rfl⟩;obtain⟨b1,hb1⟩:∃b,tn.getD x.f1.toNat false=b:=⟨_,rfl⟩;rw[hb0]at hc0;rw[hb1]at hc1;have O:=A_ hb0;have B1:=A_ hb1;clear hb0 hb1;have aP:=ah aC;have aQ:decide (x.f0<12)=true:=ah (by omega);have aR:=ah aE;have aS:decide (x.f1<12)=true:=ah (by omega)
      go_wp2_with (first|(go_at_call 72;(with_reducible refine(W0.out _).mono ?_);rintro e w' ⟨rfl,⟨nd,rfl⟩⟩)|(go_at_call 72;(with_reducible refine(W1.out _).mono ?_);rintro e w' ⟨rfl,⟨nd,rfl⟩⟩)|(go_at_call 72;(with_reducible refine(W2.out _).mono ?_);rintro e w' ⟨rfl,⟨nd,rfl⟩⟩))
      all_goals first
        |(go_ret
          have e:false=r:=by
            have h3:=O.out;have h4:=B1.out;rw[←z.out,HD.out];unfold kP;rw[h3,h4];simp[*]
          subst e;exact⟨rfl,by repeat(first|exact u.out|apply cj|apply dM|apply cr)⟩)
        |(go_roundg (gk-1)
          case measure=>have:=HK.out;omega
          case rel=>
            have hi:i≤11:=(by have h1:=U.out;have h2:=G.out;have h3:=@List.count_le_length _ _ true tn;omega);have hn:(tn.set x.f1.toNat true).count true=i+1+1:=(by rw[yb (by have:=G.out;omega) (by rw[B1.out];first|assumption|simp[*]),U.out]);refine⟨i+1,tn.set x.f1.toNat true,by rw[show wrap64 ((i:Int)+1)=((i+1:Nat):Int)by unfold wrap64;omega],⟨by have:=HK.out;omega⟩,⟨by omega⟩,⟨by rw[List.length_set];exact G.out⟩,⟨hn⟩,⟨?_⟩,⟨?_⟩,⟨?_⟩⟩
            · refine(Kd.lI ?_ x.f1 true).1
              with_reducible repeat(first|apply Kd.bm|apply Kd.br|apply Kd.a8)
              exact F.out
            · rw[←z.out,HD.out]
              have e:kP x tn=true:=by
                have h0:=ai.out;have h1:=I.out;have h2:=al.out;have h3:=O.out;have h4:=B1.out;unfold kP;rw[h3,h4];simp[*];omega
              rw[e,Bool.true_and]
            · refine fo ?_ GB.out
              repeat(first|exact u.out|apply cj|apply dM|apply cr))
def cW.f (a0:Int):Option (Bool):=(cu.f a0 1 10000000).bind fun t110=>(some t110)
theorem cW.c (a0:Int) (r:Bool) (w:World) (h:cW.f a0=some r):
  Calls Tryz.prog 111 #[.int .i64 a0] w fun e w'=>e= .returned (.bool r)∧bD w w':=by
 have H:((cu.f a0 1 10000000).bind fun t110=>(some t110))=some r:=h;clear h;replace H:=aD H;obtain⟨t110,u,H⟩:=H
 (try dsimp only at H)
 have A2:=A_ u;clear u;obtain rfl:=aH H;go_enter Tryz.func111,Tryz.ntmps111
 go_wp2_with (first|((with_reducible refine aZ (f:=72) rfl ?_);refine gL (some 4) Tryz.func72 #[.int .i64 a0,.int .i64 1,.int .i64 10000000] ?_;(with_reducible refine(cu.c a0 1 10000000 t110 _ A2.out).mono ?_);rintro e w' ⟨rfl,⟨nd,rfl⟩⟩;refine⟨_,rfl,?_⟩))
 go_ret;exact⟨eS,by repeat(first|exact bD.refl _|apply bD.step)⟩
mutual
def cD.j0:Nat→Int→Int→Int→Bool→Option (Int)
 |0,_,_,_,_=>none
 |k+1,x0,x1,x2,u=>if u=true then(some 0)else(if x1=1 then((cW.f (wrap64 (Int.tdiv (mx 0 (wrap64 ((wrap64 (3*x0))-x2))) 2))).bind fun t113=>(if t113=true then(some (wrap64 (Int.tdiv (mx 0 (wrap64 ((wrap64 (3*x0))-x2))) 2)))else(some 0)))else(if x1=2 then((cW.f (wrap64 (Int.tdiv (mx 0 (wrap64 ((wrap64 (3*x0))-x2))) 4))).bind fun t114=>(if t114=true then(some (wrap64 (Int.tdiv (mx 0 (wrap64 ((wrap64 (3*x0))-x2))) 4)))else(some 0)))else(if x1=3 then(cD.j1 k x0 x1 x2 0 (x2==0))else(cD.j1 k x0 x1 x2 0 false))))
def cD.j1:Nat→Int→Int→Int→Int→Bool→Option (Int)
 |0,_,_,_,_,_=>none
 |k+1,x0,x1,x2,u,z=>if z=true then((cW.f (wrap64 (2*x0))).bind fun t115=>(if t115=true then(some (wrap64 (2*x0)))else(some 0)))else(if x1=4 then(cD.j2 k x0 u (x2==0))else(cD.j2 k x0 u false))
def cD.j2:Nat→Int→Int→Bool→Option (Int)
 |0,_,_,_=>none
 |k+1,x0,u,z=>if z=true then((cW.f (wrap64 (Int.tdiv x0 2))).bind fun t116=>(if t116=true then(some (wrap64 (Int.tdiv x0 2)))else(some 0)))else((cW.f u).bind fun t117=>(if t117=true then(some u)else(some 0)))
end
def cD.f (k:Nat) (a0:Int) (a1:Int) (a2:Int):Option (Int):=(cW.f a0).bind fun t111=>(if t111=true then((cu.f a2 0 100000).bind fun t112=>(cD.j0 k a0 a1 a2 (!t112)))else(cD.j0 k a0 a1 a2 true))
theorem cD.c (k:Nat) (a0:Int) (a1:Int) (a2:Int) (r:Int) (w:World) (h:cD.f k a0 a1 a2=some r):
  Calls Tryz.prog 134 #[.int .i64 a0,.int .i64 a1,.int .i64 a2] w fun e w'=>e= .returned (.int .i64 r)∧Below w.heap.size w w':=by
 have u:=A_ (Below.refl w.heap.size w);have H:((cW.f a0).bind fun t111=>(if t111=true then((cu.f a2 0 100000).bind fun t112=>(cD.j0 k a0 a1 a2 (!t112)))else(cD.j0 k a0 a1 a2 true)))=some r:=h;clear h;have ak:=A_ H;clear H;go_enter Tryz.func134,Tryz.ntmps134
 go_upto_region 1 with (fail)
 go_cut [15] (fun v15 wc=>∃(z:Nat) (Y:Bool),v15= .bool Y∧ae (cD.j0 z a0 a1 a2 Y=some r)∧ae (z≤k)∧ae (Below w.heap.size w wc))
 case first=>
  have H:=ak.out;clear ak;replace H:=aD H;obtain⟨t111,aK,H⟩:=H
  (try dsimp only at H)
  have aJ:=A_ aK;clear aK;by_cases c6:t111=true
  ·subst c6;rw[af rfl]at H;replace H:=aD H;obtain⟨t112,aL,H⟩:=H
   (try dsimp only at H)
   have aP:=A_ aL;clear aL;have H':=A_ H;clear H
   go_wp2_with (first|((with_reducible refine aZ (f:=111) rfl ?_);refine gL (some 9) Tryz.func111 #[.int .i64 a0] ?_;(with_reducible refine(cW.c a0 true _ aJ.out).mono ?_);rintro e w' ⟨rfl,⟨nd,rfl⟩⟩;refine⟨_,rfl,?_⟩)|(go_at_call 72;(with_reducible refine(cu.c a2 0 100000 t112 _ aP.out).mono ?_);rintro e w' ⟨rfl,⟨nd,rfl⟩⟩))
   go_meet
   case rel=>exact⟨_,(!t112),eS,H',⟨by first|omega|exact Nat.le_refl _⟩,⟨oB u⟩⟩
  ·replace c6:=Bool.eq_false_iff.mpr c6;subst c6;rw[ag (show¬(false=true)by decide)]at H;have H':=A_ H;clear H
   go_wp2_with (first|((with_reducible refine aZ (f:=111) rfl ?_);refine gL (some 9) Tryz.func111 #[.int .i64 a0] ?_;(with_reducible refine(cW.c a0 false _ aJ.out).mono ?_);rintro e w' ⟨rfl,⟨nd,rfl⟩⟩;refine⟨_,rfl,?_⟩))
   go_meet
   case rel=>exact⟨_,(true),eS,H',⟨by first|omega|exact Nat.le_refl _⟩,⟨oB u⟩⟩
 case rest=>
  clear ak
  try clear c1
  try clear p2
  try clear c6
  obtain⟨z,Y,rfl,D,V,u⟩:=hcut;cases z with
  |zero=>exact absurd D.out (by simp[cD.j0])
  |succ aR=>
   have H:=D.out;clear D;simp only[cD.j0]at H;by_cases c8:Y=true
   ·subst c8;rw[af rfl]at H;obtain rfl:=aH H;go_wp2;go_ret;exact⟨eR,oB u⟩
   ·replace c8:=Bool.eq_false_iff.mpr c8;subst c8;rw[ag (show¬(false=true)by decide)]at H;by_cases c9:a1=1
    ·rw[af c9]at H;have ap:(a1==1)=true:=beq_iff_eq.mpr c9;have aq:(a1 != 1)=false:=bne_eq_false_iff_eq.mpr c9;clear c9;obtain⟨K,I⟩:∃ar:Int,(mx 0 (wrap64 ((wrap64 (3*a0))-a2)))=ar:=⟨_,rfl⟩;replace H:((cW.f (wrap64 (Int.tdiv (K) 2))).bind fun t113=>(if t113=true then(some (wrap64 (Int.tdiv (K) 2)))else(some 0)))=some r:=by first|(rw[I]at H;exact H)|(simp only[I]at H ⊢;exact H)
     have aT:(if 0<(wrap64 ((wrap64 (3*a0))-a2))then(wrap64 ((wrap64 (3*a0))-a2))else 0)=K:=I;replace H:=aD H;obtain⟨t113,aw,H⟩:=H
     (try dsimp only at H)
     have au:=A_ aw;clear aw;by_cases c12:t113=true
     ·subst c12;rw[af rfl]at H;obtain rfl:=aH H
      go_wp2_with (first|((with_reducible refine aZ (f:=111) rfl ?_);refine ku (some 53) rfl rfl Tryz.func111 (by kernel_rfl) rfl #[.int .i64 (wrap64 (Int.tdiv (K) 2))] rfl (by(try simp only[List.map_toArray,List.map_cons,List.map_nil]);first|done|(simp only[I];rfl)|rfl|(simp only[List.length_drop,List.length_take];rfl)) ?_;(with_reducible refine(cW.c (wrap64 (Int.tdiv (K) 2)) true _ au.out).mono ?_);rintro e w' ⟨rfl,⟨nd,rfl⟩⟩;refine⟨_,rfl,?_⟩))
      go_ret;exact⟨by first|rfl|(simp[eJ,eK]<;>rfl)|(simp only[←I];first|rfl|(simp[eJ,eK]<;>rfl))|(simp[*,eJ,eK]<;>rfl),oB u⟩
     ·replace c12:=Bool.eq_false_iff.mpr c12;subst c12;rw[ag (show¬(false=true)by decide)]at H;obtain rfl:=aH H
      go_wp2_with (first|((with_reducible refine aZ (f:=111) rfl ?_);refine ku (some 53) rfl rfl Tryz.func111 (by kernel_rfl) rfl #[.int .i64 (wrap64 (Int.tdiv (K) 2))] rfl (by(try simp only[List.map_toArray,List.map_cons,List.map_nil]);first|done|(simp only[I];rfl)|rfl|(simp only[List.length_drop,List.length_take];rfl)) ?_;(with_reducible refine(cW.c (wrap64 (Int.tdiv (K) 2)) false _ au.out).mono ?_);rintro e w' ⟨rfl,⟨nd,rfl⟩⟩;refine⟨_,rfl,?_⟩))
      go_ret;exact⟨by first|rfl|(simp[eJ,eK]<;>rfl)|(simp only[←I];first|rfl|(simp[eJ,eK]<;>rfl))|(simp[*,eJ,eK]<;>rfl),oB u⟩
    ·rw[ag c9]at H;have ap:(a1==1)=false:=beq_eq_false_iff_ne.mpr c9;have aq:(a1 != 1)=true:=bne_iff_ne.mpr c9;by_cases c13:a1=2
     ·rw[af c13]at H;have al:(a1==2)=true:=beq_iff_eq.mpr c13;have am:(a1 != 2)=false:=bne_eq_false_iff_eq.mpr c13;clear c13;obtain⟨O,J⟩:∃ar:Int,(mx 0 (wrap64 ((wrap64 (3*a0))-a2)))=ar:=⟨_,rfl⟩;replace H:((cW.f (wrap64 (Int.tdiv (O) 4))).bind fun t114=>(if t114=true then(some (wrap64 (Int.tdiv (O) 4)))else(some 0)))=some r:=by first|(rw[J]at H;exact H)|(simp only[J]at H ⊢;exact H)
      have aU:(if 0<(wrap64 ((wrap64 (3*a0))-a2))then(wrap64 ((wrap64 (3*a0))-a2))else 0)=O:=J;replace H:=aD H;obtain⟨t114,az,H⟩:=H
      (try dsimp only at H)
      have ax:=A_ az;clear az;by_cases c16:t114=true
      ·subst c16;rw[af rfl]at H;obtain rfl:=aH H
       go_wp2_with (first|((with_reducible refine aZ (f:=111) rfl ?_);refine ku (some 53) rfl rfl Tryz.func111 (by kernel_rfl) rfl #[.int .i64 (wrap64 (Int.tdiv (O) 4))] rfl (by(try simp only[List.map_toArray,List.map_cons,List.map_nil]);first|done|(simp only[J];rfl)|rfl|(simp only[List.length_drop,List.length_take];rfl)) ?_;(with_reducible refine(cW.c (wrap64 (Int.tdiv (O) 4)) true _ ax.out).mono ?_);rintro e w' ⟨rfl,⟨nd,rfl⟩⟩;refine⟨_,rfl,?_⟩))
       go_ret;exact⟨by first|rfl|(simp[eJ,eK]<;>rfl)|(simp only[←J];first|rfl|(simp[eJ,eK]<;>rfl))|(simp[*,eJ,eK]<;>rfl),oB u⟩
      ·replace c16:=Bool.eq_false_iff.mpr c16;subst c16;rw[ag (show¬(false=true)by decide)]at H;obtain rfl:=aH H
       go_wp2_with (first|((with_reducible refine aZ (f:=111) rfl ?_);refine ku (some 53) rfl rfl Tryz.func111 (by kernel_rfl) rfl #[.int .i64 (wrap64 (Int.tdiv (O) 4))] rfl (by(try simp only[List.map_toArray,List.map_cons,List.map_nil]);first|done|(simp only[J];rfl)|rfl|(simp only[List.length_drop,List.length_take];rfl)) ?_;(with_reducible refine(cW.c (wrap64 (Int.tdiv (O) 4)) false _ ax.out).mono ?_);rintro e w' ⟨rfl,⟨nd,rfl⟩⟩;refine⟨_,rfl,?_⟩))
       go_ret;exact⟨by first|rfl|(simp[eJ,eK]<;>rfl)|(simp only[←J];first|rfl|(simp[eJ,eK]<;>rfl))|(simp[*,eJ,eK]<;>rfl),oB u⟩
     ·rw[ag c13]at H;have al:(a1==2)=false:=beq_eq_false_iff_ne.mpr c13;have am:(a1 != 2)=true:=bne_iff_ne.mpr c13;have ai:=A_ H;clear H
      go_upto_region 8 with (fail)
      go_cut [34] (fun v34 wc=>∃(z:Nat) (Z:Bool),v34= .bool Z∧ae (cD.j1 z a0 a1 a2 0 Z=some r)∧ae (z≤aR)∧ae (Below w.heap.size w wc))
      case first=>
       have H:=ai.out;clear ai;by_cases c18:a1=3
       ·rw[af c18]at H;have G:(a1==3)=true:=beq_iff_eq.mpr c18;have ao:(a1 != 3)=false:=bne_eq_false_iff_eq.mpr c18;clear c18
        (first|rw[G]|(simp only[bG,bN];rw[G])|skip)
        have H':=A_ H;clear H;go_wp2
        go_meet
        case rel=>exact⟨_,((a2==0)),eS,H',⟨by have:=V.out;first|omega|exact Nat.le_refl _⟩,⟨oB u⟩⟩
       ·rw[ag c18]at H;have G:(a1==3)=false:=beq_eq_false_iff_ne.mpr c18;have ao:(a1 != 3)=true:=bne_iff_ne.mpr c18
        (first|rw[G]|(simp only[bG,bN];rw[G])|skip)
        have H':=A_ H;clear H;go_wp2
        go_meet
        case rel=>exact⟨_,(false),eS,H',⟨by have:=V.out;first|omega|exact Nat.le_refl _⟩,⟨oB u⟩⟩
      case rest=>
       clear ai
       try clear c1
       try clear p2
       try clear c6
       try clear aO
       try clear c8
       try clear c9
       try clear ap
       try clear aq
       try clear c11
       try clear c12
       try clear c13
       try clear al
       try clear am
       try clear c16
       try clear c18
       try clear G
       try clear ao
       try clear p2
       obtain⟨z,Z,rfl,D,aM,u⟩:=hcut;cases z with
       |zero=>exact absurd D.out (by simp[cD.j1])
       |succ aQ=>
        have H:=D.out;clear D;simp only[cD.j1]at H;by_cases c19:Z=true
        ·subst c19;rw[af rfl]at H;replace H:=aD H;obtain⟨t115,aB,H⟩:=H
         (try dsimp only at H)
         have aA:=A_ aB;clear aB;by_cases c21:t115=true
         ·subst c21;rw[af rfl]at H;obtain rfl:=aH H
          go_wp2_with (first|((with_reducible refine aZ (f:=111) rfl ?_);refine gL (some 53) Tryz.func111 #[.int .i64 (wrap64 (2*a0))] ?_;(with_reducible refine(cW.c (wrap64 (2*a0)) true _ aA.out).mono ?_);rintro e w' ⟨rfl,⟨nd,rfl⟩⟩;refine⟨_,rfl,?_⟩))
          go_ret;exact⟨eR,oB u⟩
         ·replace c21:=Bool.eq_false_iff.mpr c21;subst c21;rw[ag (show¬(false=true)by decide)]at H;obtain rfl:=aH H
          go_wp2_with (first|((with_reducible refine aZ (f:=111) rfl ?_);refine gL (some 53) Tryz.func111 #[.int .i64 (wrap64 (2*a0))] ?_;(with_reducible refine(cW.c (wrap64 (2*a0)) false _ aA.out).mono ?_);rintro e w' ⟨rfl,⟨nd,rfl⟩⟩;refine⟨_,rfl,?_⟩))
          go_ret;exact⟨eR,oB u⟩
        ·replace c19:=Bool.eq_false_iff.mpr c19;subst c19;rw[ag (show¬(false=true)by decide)]at H;have aj:=A_ H;clear H
         go_upto_region 10 with (fail)
         go_cut [43] (fun v43 wc=>∃(z:Nat) (ad:Bool),v43= .bool ad∧ae (cD.j2 z a0 0 ad=some r)∧ae (z≤aQ)∧ae (Below w.heap.size w wc))
         case first=>
          have H:=aj.out;clear aj;by_cases F:a1=4
          ·rw[af F]at H;have U:(a1==4)=true:=beq_iff_eq.mpr F;have aN:(a1 != 4)=false:=bne_eq_false_iff_eq.mpr F;clear F
           (first|rw[U]|(simp only[bG,bN];rw[U])|skip)
           have H':=A_ H;clear H;go_wp2
           go_meet
           case rel=>exact⟨_,((a2==0)),eS,H',⟨by have:=V.out;have:=aM.out;first|omega|exact Nat.le_refl _⟩,⟨oB u⟩⟩
          ·rw[ag F]at H;have U:(a1==4)=false:=beq_eq_false_iff_ne.mpr F;have aN:(a1 != 4)=true:=bne_iff_ne.mpr F
           (first|rw[U]|(simp only[bG,bN];rw[U])|skip)
           have H':=A_ H;clear H;go_wp2
           go_meet
           case rel=>exact⟨_,(false),eS,H',⟨by have:=V.out;have:=aM.out;first|omega|exact Nat.le_refl _⟩,⟨oB u⟩⟩
         case rest=>
          clear aj
          try clear c1
          try clear c2
          try clear p2
          try clear c6
          try clear aO
          try clear c8
          try clear c9
          try clear ap
          try clear aq
          try clear c11
          try clear c12
          try clear c13
          try clear al
          try clear am
          try clear c16
          try clear c18
          try clear G
          try clear ao
          try clear c19
          try clear c21
          try clear F
          try clear U
          try clear aN
          try clear p2
          try clear aO
          obtain⟨z,ad,rfl,D,aS,u⟩:=hcut;cases z with
          |zero=>exact absurd D.out (by simp[cD.j2])
          |succ aV=>
           have H:=D.out;clear D;simp only[cD.j2]at H;by_cases c24:ad=true
           ·subst c24;rw[af rfl]at H;replace H:=aD H;obtain⟨t116,aE,H⟩:=H
            (try dsimp only at H)
            have aC:=A_ aE;clear aE;by_cases X:t116=true
            ·subst X;rw[af rfl]at H;obtain rfl:=aH H
             go_wp2_with (first|((with_reducible refine aZ (f:=111) rfl ?_);refine gL (some 53) Tryz.func111 #[.int .i64 (wrap64 (Int.tdiv a0 2))] ?_;(with_reducible refine(cW.c (wrap64 (Int.tdiv a0 2)) true _ aC.out).mono ?_);rintro e w' ⟨rfl,⟨nd,rfl⟩⟩;refine⟨_,rfl,?_⟩))
             go_ret;exact⟨eR,oB u⟩
            ·replace X:=Bool.eq_false_iff.mpr X;subst X;rw[ag (show¬(false=true)by decide)]at H;obtain rfl:=aH H
             go_wp2_with (first|((with_reducible refine aZ (f:=111) rfl ?_);refine gL (some 53) Tryz.func111 #[.int .i64 (wrap64 (Int.tdiv a0 2))] ?_;(with_reducible refine(cW.c (wrap64 (Int.tdiv a0 2)) false _ aC.out).mono ?_);rintro e w' ⟨rfl,⟨nd,rfl⟩⟩;refine⟨_,rfl,?_⟩))
             go_ret;exact⟨eR,oB u⟩
           ·replace c24:=Bool.eq_false_iff.mpr c24;subst c24;rw[ag (show¬(false=true)by decide)]at H;replace H:=aD H;obtain⟨t117,aI,H⟩:=H
            (try dsimp only at H)
            have aF:=A_ aI;clear aI;by_cases c28:t117=true
            ·subst c28;rw[af rfl]at H;obtain rfl:=aH H
             go_wp2_with (first|((with_reducible refine aZ (f:=111) rfl ?_);refine gL (some 53) Tryz.func111 #[.int .i64 0] ?_;(with_reducible refine(cW.c 0 true _ aF.out).mono ?_);rintro e w' ⟨rfl,⟨nd,rfl⟩⟩;refine⟨_,rfl,?_⟩))
             go_ret;exact⟨eR,oB u⟩
            ·replace c28:=Bool.eq_false_iff.mpr c28;subst c28;rw[ag (show¬(false=true)by decide)]at H;obtain rfl:=aH H
             go_wp2_with (first|((with_reducible refine aZ (f:=111) rfl ?_);refine gL (some 53) Tryz.func111 #[.int .i64 0] ?_;(with_reducible refine(cW.c 0 false _ aF.out).mono ?_);rintro e w' ⟨rfl,⟨nd,rfl⟩⟩;refine⟨_,rfl,?_⟩))
             go_ret;exact⟨eR,oB u⟩
mutual
def cV.j0:Nat→Int→List (aj)→Bool→Option (List Int×Bool)
 |0,_,_,_=>none
 |k+1,x0,x1,z=>if z=true then(some ((([]:List Int)),false))else(if 12≤35184372088832 then((some (List.replicate 12 0:List Int)).bind fun u=>(if 0<(u.length:Int)then(cV.l0 k x1 (u.set (0:Int).toNat x0) 0)else(none)))else(none))
def cV.l0:Nat→List (aj)→List Int→Int→Option (List Int×Bool)
 |0,_,_,_=>none
 |k+1,x1,z,u=>if u<(x1.length:Int)then(if 0≤u then(if 0≤((ak x1 u).f0)then(if((ak x1 u).f0)<(z.length:Int)then((cD.f k (rd z ((ak x1 u).f0)) ((ak x1 u).f2) ((ak x1 u).f3)).bind fun t131=>(if t131=0 then(some ((([]:List Int)),false))else(if 0≤((ak x1 u).f1)then(if((ak x1 u).f1)<(z.length:Int)then(cV.l0 k x1 (z.set (((ak x1 u).f1):Int).toNat t131) (wrap64 (u+1)))else(none))else(none))))else(none))else(none))else(none))else(some (z,true))
end
def cV.f (k:Nat) (a0:Int) (l1:List (aj)):Option (List Int×Bool):=(jN.f l1).bind fun t118=>(if t118=true then((cW.f a0).bind fun t119=>(cV.j0 k a0 l1 (!t119)))else(cV.j0 k a0 l1 true))
def cV.T8:Bool×List (List Nat×List Nat):=(true,[([],[]),([],[]),([],[]),([1,2],[1,2]),([3],[3]),([4],[4]),([0,5],[0,5]),([6],[6]),([],[]),([],[]),([8,9],[8,9]),([10],[10]),([11],[11]),([],[]),([],[]),([13,14],[13,14]),([15],[15]),([16],[16]),([7,12,17],[7,12,17]),([18,18,0,1,2,3,4,5,6,7,8,9,10,11,12,13,14,15,16,17,18],[18])])
def cV.B8:List Nat:=[0,0,0,6,14,30,63,127,0,0,768,1792,3840,0,0,24576,57344,122880,262143,524287]
theorem cV.ju:bo .any (opsOf Tryz.f151 8)=cV.T8:=by kernel_rfl
theorem cV.iX:cp cV.T8.2 cV.B8=true:=by kernel_rfl
theorem cV.c (k:Nat) (a0:Int) (A1:Option Addr) (c1:Nat) (l1:List (aj)) (r1:List Int) (r2:Bool) (w:World) (hr1:Kd.C aX w A1 l1.length l1) (hc1:l1.length≤c1) (h:cV.f k a0 l1=some (r1,r2)):
  Calls Tryz.prog 151 #[.int .i64 a0,.slice A1 l1.length c1] w fun e w'=>∃cp:Value,e= .returned (.tuple #[cp,.bool r2])∧Kd.R (Kd.int .i64) 3 w' w.heap.size (fun _=>True) cp r1∧Below w.heap.size w w':=by
 have Z:=A_ hr1;have b_:=A_ hc1;clear hr1 hc1;have z:=A_ (Below.refl w.heap.size w);have H:((jN.f l1).bind fun t118=>(if t118=true then((cW.f a0).bind fun t119=>(cV.j0 k a0 l1 (!t119)))else(cV.j0 k a0 l1 true)))=some (r1,r2):=h;clear h;have bH:=A_ H;clear H;go_enter Tryz.func151,Tryz.ntmps151
 go_upto_region 1 with (fail)
 go_cut [16] (fun v16 wc=>∃(aL:Nat) (bF:Bool),v16= .bool bF∧ae (cV.j0 aL a0 l1 bF=some (r1,r2))∧ae (aL≤k)∧ae (Below w.heap.size w wc))
 case first=>
  have H:=bH.out;clear bH;replace H:=aD H;obtain⟨t118,b7,H⟩:=H
  (try dsimp only at H)
  have b6:=A_ b7;clear b7;by_cases c5:t118=true
  ·subst c5;rw[af rfl]at H;replace H:=aD H;obtain⟨t119,b8,H⟩:=H
   (try dsimp only at H)
   have cu:=A_ b8;clear b8;have H':=A_ H;clear H
   go_wp2_with (first|((with_reducible refine aZ (f:=109) rfl ?_);refine gL (some 10) Tryz.func109 #[.slice A1 l1.length c1] ?_;(with_reducible refine(jN.c _ _ l1 true _ ?a6 ?a7 b6.out).mono ?_);(case a6=>exact bO Z.out);(case a7=>exact b_.out);rintro e w7 ⟨rfl,hb⟩;refine⟨_,rfl,?_⟩;have G:=A_ (aC (oB z) hb);clear z;have z:=G;clear G;(try clear hb);(try clear hb2);(try clear hk);(try clear hi))|(go_at_call 111;(with_reducible refine(cW.c a0 t119 _ cu.out).mono ?_);rintro e w' ⟨rfl,⟨nd,rfl⟩⟩))
   go_meet
   case rel=>exact⟨_,(!t119),eS,H',⟨by first|omega|exact Nat.le_refl _⟩,⟨oB z⟩⟩
  ·replace c5:=Bool.eq_false_iff.mpr c5;subst c5;rw[ag (show¬(false=true)by decide)]at H;have H':=A_ H;clear H
   go_wp2_with (first|((with_reducible refine aZ (f:=109) rfl ?_);refine gL (some 10) Tryz.func109 #[.slice A1 l1.length c1] ?_;(with_reducible refine(jN.c _ _ l1 false _ ?a6 ?a7 b6.out).mono ?_);(case a6=>exact bO Z.out);(case a7=>exact b_.out);rintro e di ⟨rfl,hb⟩;refine⟨_,rfl,?_⟩;have G:=A_ (aC (oB z) hb);clear z;have z:=G;clear G;(try clear hb);(try clear hb2);(try clear hk);(try clear hi)))
   go_meet
   case rel=>exact⟨_,(true),eS,H',⟨by first|omega|exact Nat.le_refl _⟩,⟨oB z⟩⟩
 case rest=>
  clear bH
  try clear c1
  try clear p2
  try clear c5
  obtain⟨aL,bF,rfl,aJ,ca,z⟩:=hcut;cases aL with
  |zero=>exact absurd aJ.out (by simp[cV.j0])
  |succ bD=>
   have H:=aJ.out;clear aJ;simp only[cV.j0]at H;by_cases c9:bF=true
   ·subst c9;rw[af rfl]at H;obtain⟨cP,bo⟩:∃aF:List Int,aF=(([]:List Int)):=⟨_,rfl⟩;replace H:(some (cP,false))=some (r1,r2):=by first|(rw[bo];with_reducible exact H)|(have O:=(aG _ _).symm.trans H;rw[bo];with_reducible exact O)|(have O:=(aG _ _).symm.trans H;with_reducible exact O)|with_reducible exact H|(rw[bo];exact H)|exact H
    have cc:=A_ bo;clear bo;simp only[Option.some.injEq,Prod.mk.injEq]at H;obtain⟨rfl,rfl⟩:=H
    go_wp2_with (first|((with_reducible refine ax (N:=17) rfl ?_);refine Kd.cx (Kd.int .i64) _ 3 ?hg (N:=17) ?hd (xs:=([]:List Int)) (inner:=[]) (ok:=fun _=>True) (bB:=fun _=>True) ?hr ?hp (fun _ hk=>hk) trivial (Below.refl _ _) (Nat.le_refl _) (by simp) ?_;(case hd=>rfl);(case hg=>rfl);(case hr=>first|(go_simp;done)|(go_simp;rfl));(case hp=>exact(aI.none _ _));intro da dc a2 hb aW a1;clear aW a1;(first|rw[←cc.out]at a2|(simp only[Int.reduceToNat]at a2;rw[←cc.out]at a2));have G:=A_ (Kd.bE a2 (aA (oB z)));have J:=A_ (aC (oB z) hb);clear z;have cv:=G;have z:=J;clear G J hb a2))
    go_ret2;exact⟨_,eR,oR cv,oB z⟩
   ·replace c9:=Bool.eq_false_iff.mpr c9;subst c9;rw[ag (show¬(false=true)by decide)]at H;by_cases c12:12≤35184372088832
    ·rw[af c12]at H;have cC:=av c12;have cE:decide (12≤35184372088832)=true:=ah c12;clear c12;obtain⟨Y,bp⟩:∃aF:List Int,aF=(List.replicate 12 0):=⟨_,rfl⟩;replace H:(if 0<(Y.length:Int)then(cV.l0 bD l1 (Y.set (0:Int).toNat a0) 0)else(none))=some (r1,r2):=by first|(rw[bp];with_reducible exact H)|(have O:=(aG _ _).symm.trans H;rw[bp];with_reducible exact O)|(have O:=(aG _ _).symm.trans H;with_reducible exact O)|with_reducible exact H|(rw[bp];exact H)|exact H
     have cd:=A_ bp;clear bp;by_cases c13:0<(Y.length:Int)
     ·rw[af c13]at H;have cF:decide (0<(Y.length:Int))=true:=ah c13;have cG:decide (0<Y.length)=true:=ah (by omega);clear c13;obtain⟨b2,bq⟩:∃aF:List Int,aF=(Y.set (0:Int).toNat a0):=⟨_,rfl⟩;replace H:(cV.l0 bD l1 b2 0)=some (r1,r2):=by first|(rw[bq];with_reducible exact H)|(have O:=(aG _ _).symm.trans H;rw[bq];with_reducible exact O)|(have O:=(aG _ _).symm.trans H;with_reducible exact O)|with_reducible exact H|(rw[bq];exact H)|exact H
      have cz:=A_ bq;clear bq;have H':=A_ H;clear H
      go_wp2_with (first|((with_reducible refine ax (N:=18) rfl ?_);refine Kd.rh (Kd.int .i64) _ 3 rfl (N:=18) rfl 25 _ _ rfl 12 rfl rfl Tryz.underlying25 (.int .i64 0) 8 info3 rfl (by decide) (by omega) 0 (ok:=fun _=>True) (bB:=fun _=>True) rfl (fun _ hk=>hk) trivial (by omega) (by omega) (Below.refl _ _) (Nat.le_refl _) ?_;intro v124 cq a3 hb aW a1;clear aW a1;(first|rw[←cd.out]at a3|(simp only[Int.reduceToNat]at a3;rw[←cd.out]at a3));have G:=A_ (Kd.bE a3 (aA (oB z)));have J:=A_ (aC (oB z) hb);clear z;have aK:=G;have z:=J;clear G J hb a3;have bu:0≤(0:Int):=(by omega);have bv:(0:Int)<((Y.length:Int):Int):=oD;have cO:(0<Y.length)=True:=av (by omega);obtain⟨V,bQ,cf,cg,cN,c0,b'⟩:=Kd.kR aK.out (by omega);(first|cases cf|(injection cf with bA cM cL;(first|subst bA|(injection bA with bA;subst bA));subst cL;clear cM));have b9:=A_ cg;have cR:=A_ b';clear cg cN b';obtain⟨bV,ch⟩:=Kd.gC 0 aK.out (0:Int) bu bv;(try rw[show((0:Int)).toNat=0 from rfl]at bV);(try simp only[Nat.reduceMul,Nat.zero_mul,Nat.zero_add,Nat.reduceAdd]at bV);(try rw[show((0:Int)).toNat=0 from rfl]at ch);(try simp only[Nat.reduceMul,Nat.zero_mul,Nat.zero_add,Nat.reduceAdd]at ch);replace bu:=av bu;replace bv:=av bv;obtain⟨cm,cn⟩:=Kd.gC 0 aK.out (0:Int) (by omega) (oD);(try simp only[Int.reduceToNat,Int.toNat_zero,Int.toNat_ofNat,Nat.reduceMul,Nat.zero_mul,Nat.zero_add]at cm cn);(try rw[show((0:Int)).toNat=0 from rfl]at cm);(try rw[show((0:Int)).toNat=0 from rfl]at cn);have bI:=Kd.lI aK.out (0:Int) a0)|((with_reducible refine ma (t:=3) (p:=21) rfl ?_);refine mO (t:=3) (p:=21) (v:= ?Db) (w1:=(cq.setCell ⟨V,(0:Int).toNat,none⟩ (.int .i64 a0))) ?hg ?ho ?hn ?hr ?_;(case ho=>rfl);(case hg=>rfl);(case hn=>rfl);(case hr=>first|(go_simp;done)|(go_simp;rfl));intro b0 hw;have hg:cq.grownBy b0 (some V):=(by rw[hw];exact bI.2);have a4:Kd.R (Kd.int .i64) 3 b0 w.heap.size (fun _=>True) (.slice (some ⟨V,0,none⟩) Y.length bQ) b2:=(by rw[hw,cz.out];exact bI.1);clear bI;have G:=A_ (a4);have J:=A_ ((by rw[hw];exact fo (z.out) b9.out:Below w.heap.size w b0));clear aK z;have aK:=G;have z:=J;clear G J hg hw a4))
      go_loopg [7] bD (fun aL v7 w'=>∃(U:List Int) (u:Int),v7= .int .i64 u∧ae (cV.l0 aL l1 U u=some (r1,r2))∧ae (aL≤bD)∧ae (Kd.R (Kd.int .i64) 3 w' w.heap.size (fun _=>True) (.slice (some ⟨V,0,none⟩) Y.length bQ) U)∧ae (Below w.heap.size w w'))
      case atStart=>exact⟨(b2),(0),eS,H',⟨Nat.le_refl _⟩,⟨oR aK⟩,⟨oB z⟩⟩
      case round=>
       clear H'
       try clear c1
       try clear p1
       try clear q1
       try clear hx1
       try clear c'
       try clear p2
       try clear c5
       try clear c9
       try clear c10
       try clear c12
       try clear cC
       try clear cE
       try clear c13
       try clear cF
       try clear cG
       try clear bu
       try clear bv
       try clear c6
       try clear cO
       try clear c3
       try clear c15
       try clear bV
       try clear bu
       try clear p2
       try clear bv
       obtain⟨U,u,rfl,aJ,cb,I,z⟩:=hrel;have bC:=(Kd.aY I.out).1;rw[bC]at I
       (try simp only[bC])
       cases gk with
       |zero=>exact absurd aJ.out (by simp[cV.l0])
       |succ k2=>
        have H:=aJ.out;clear aJ;simp only[cV.l0]at H;by_cases c19:u<(l1.length:Int)
        ·rw[af c19]at H;have cH:decide (u<(l1.length:Int))=true:=ah c19;clear c19;by_cases c20:0≤u
         ·rw[af c20]at H;have cS:decide (0≤u)=true:=ah c20;clear c20;by_cases c21:0≤((ak l1 u).f0)
          ·rw[af c21]at H;have cT:decide (0≤((ak l1 u).f0))=true:=ah c21;clear c21;by_cases bw:((ak l1 u).f0)<(U.length:Int)
           ·rw[af bw]at H;have cU:decide (((ak l1 u).f0)<(U.length:Int))=true:=ah bw;clear bw;replace H:=aD H;obtain⟨t131,b5,H⟩:=H
            (try dsimp only at H)
            have b4:=A_ b5;clear b5;by_cases c24:t131=0
            ·rw[af c24]at H;have cI:(t131==0)=true:=beq_iff_eq.mpr c24;have cJ:(t131 != 0)=false:=bne_eq_false_iff_eq.mpr c24;clear c24;obtain⟨cQ,bs⟩:∃aF:List Int,aF=(([]:List Int)):=⟨_,rfl⟩;replace H:(some (cQ,false))=some (r1,r2):=by first|(rw[bs];with_reducible exact H)|(have O:=(aG _ _).symm.trans H;rw[bs];with_reducible exact O)|(have O:=(aG _ _).symm.trans H;with_reducible exact O)|with_reducible exact H|(rw[bs];exact H)|exact H
             have ce:=A_ bs;clear bs;simp only[Option.some.injEq,Prod.mk.injEq]at H;obtain⟨rfl,rfl⟩:=H
             try go_wp2
             have G:=A_ (Kd.a8 I.out);have J:=A_ (cr z.out);clear I z;have I:=G;have z:=J;clear G J;have aM:0≤(u:Int):=oD;have aQ:u<(l1.length:Int):=oD;obtain⟨D,bR,ai,al,am,ao⟩:=eV Z.out u aM aQ;have bb:=ao;have a_:=am;have a9:=al;have a5:=ai;cases bR;replace ai:=hW z ai;replace al:=hW z al;replace am:=hW z am;replace ao:=hW z ao;replace aM:=av aM;replace aQ:=av aQ;have aN:0≤(((ak l1 u).f0):Int):=oD;have aR:((ak l1 u).f0)<(U.length:Int):=oD;obtain⟨bL,bS,X⟩:=Kd.dG (Kd.aY I.out).2.2 ((ak l1 u).f0) aN aR;obtain rfl:(⟨V,0,none⟩:Addr)=bL:=(by injection bS)
             (first|simp only[add_plain]at X|simp only[pj]at X|simp only[Addr.add,Nat.zero_add]at X|skip)
             replace aN:=av aN;replace aR:=av aR;have aO:0≤(u:Int):=oD;have aS:u<(l1.length:Int):=oD;obtain⟨bM,bT,ap,aq,ar,au⟩:=eV Z.out u aO aS;have bf:=au;have be:=ar;have bd:=aq;have bc:=ap;obtain rfl:D=bM:=(by injection bT);replace ap:=hW z ap;replace aq:=hW z aq;replace ar:=hW z ar;replace au:=hW z au;replace aO:=av aO;replace aS:=av aS;have aP:0≤(u:Int):=oD;have aT:u<(l1.length:Int):=oD;obtain⟨bP,bU,aw,az,aB,aE⟩:=eV Z.out u aP aT;have bn:=aE;have bk:=aB;have bj:=az;have bg:=aw;obtain rfl:D=bP:=(by injection bU);replace aw:=hW z aw;replace az:=hW z az;replace aB:=hW z aB;replace aE:=hW z aE;replace aP:=av aP;replace aT:=av aT;refine fk (n:=20) (S:=fun w'=>w'.cell? (D.add ((u).toNat*4))=some (.int .i64 ((ak l1 u).f0))∧w'.cell? ⟨(D.add ((u).toNat*4)).block,(D.add ((u).toNat*4)).off+1,none⟩=some (.int .i64 ((ak l1 u).f1))∧w'.cell? ⟨(D.add ((u).toNat*4)).block,(D.add ((u).toNat*4)).off+2,none⟩=some (.int .i64 ((ak l1 u).f2))∧w'.cell? ⟨(D.add ((u).toNat*4)).block,(D.add ((u).toNat*4)).off+3,none⟩=some (.int .i64 ((ak l1 u).f3))∧w'.cell? ⟨V,(((ak l1 u).f0)).toNat,none⟩=some (.int .i64 (rd U ((ak l1 u).f0)))∧w'.cell? (D.add ((u).toNat*4))=some (.int .i64 ((ak l1 u).f0))∧w'.cell? ⟨(D.add ((u).toNat*4)).block,(D.add ((u).toNat*4)).off+1,none⟩=some (.int .i64 ((ak l1 u).f1))∧w'.cell? ⟨(D.add ((u).toNat*4)).block,(D.add ((u).toNat*4)).off+2,none⟩=some (.int .i64 ((ak l1 u).f2))∧w'.cell? ⟨(D.add ((u).toNat*4)).block,(D.add ((u).toNat*4)).off+3,none⟩=some (.int .i64 ((ak l1 u).f3))∧w'.cell? (D.add ((u).toNat*4))=some (.int .i64 ((ak l1 u).f0))∧w'.cell? ⟨(D.add ((u).toNat*4)).block,(D.add ((u).toNat*4)).off+1,none⟩=some (.int .i64 ((ak l1 u).f1))∧w'.cell? ⟨(D.add ((u).toNat*4)).block,(D.add ((u).toNat*4)).off+2,none⟩=some (.int .i64 ((ak l1 u).f2))∧w'.cell? ⟨(D.add ((u).toNat*4)).block,(D.add ((u).toNat*4)).off+3,none⟩=some (.int .i64 ((ak l1 u).f3))) (ds:=[]) #[false,false,false,false,false,false,false,false,false,false,false,false,false,false,false,false,false,false,false,false] (by kernel_rfl) rfl rfl ⟨(hW z a5),(hW z a9),(hW z a_),(hW z bb),X,(hW z bc),(hW z bd),(hW z be),(hW z bf),(hW z bg),(hW z bj),(hW z bk),(hW z bn)⟩ (fun hHeld=> ?_);refine fP cV.ju cV.iX (fun F ad=> ?_);generalize wr.drew=dd at I z ai al am ao X ap aq ar au aw az aB aE hHeld ⊢;refine pA 0 (some 28) F.out ?_;refine pA 1 (some 29) F.out ?_;refine pA 2 (some 30) F.out ?_;refine pA 3 (some 31) F.out ?_;refine pA 4 (some 32) F.out ?_;refine pA 8 (some 36) F.out ?_;refine pA 9 (some 37) F.out ?_;refine pA 10 (some 38) F.out ?_;refine pA 11 (some 39) F.out ?_;refine pA 13 (some 41) F.out ?_;refine pA 14 (some 42) F.out ?_;refine pA 15 (some 43) F.out ?_;refine pA 16 (some 44) F.out ?_;refine pT 5 (some 33) F.out ad.out hHeld ?_;refine pA 6 (some 34) F.out ?_;refine pT 7 (some 35) F.out ad.out hHeld ?_;refine pT 12 (some 40) F.out ad.out hHeld ?_;refine pT 17 (some 45) F.out ad.out hHeld ?_;refine dh (i:=18) (N:=some 46) #[true,true,true,true,true,true,true,true,true,true,true,true,true,true,true,true,true,true,true,false] rfl rfl (cX F.out (by kernel_rfl)) (by decide) (fun K hK=> ?_);refine cy Tryz.func134 (by kernel_rfl) rfl #[.int .i64 (rd U ((ak l1 u).f0)),.int .i64 ((ak l1 u).f2),.int .i64 ((ak l1 u).f3)] (by rfl) rfl rfl (by(try simp only[List.map_toArray,List.map_cons,List.map_nil]);first|done|rfl|(simp only[List.length_drop,List.length_take];rfl)) ?_
             with_reducible refine(cD.c k2 (rd U ((ak l1 u).f0)) ((ak l1 u).f2) ((ak l1 u).f3) t131 _ b4.out).mono ?_
             rintro e de ⟨rfl,hb⟩;have bK:=(hb.cell (World.block_lt_of_cell? _ _ (hHeld.2.2.2.2.1))).trans (hHeld.2.2.2.2.1);refine⟨_,rfl,?_⟩;have G:=A_ (Kd.aV (oR I) hb);have J:=A_ (aC (oB z) hb);clear I z;have I:=G;have z:=J;clear G J
             (try clear hb)
             (try clear hb2)
             (try clear hk)
             (try clear hi)
             refine hK.out _ _ ⟨(hW z a5),(hW z a9),(hW z a_),(hW z bb),bK,(hW z bc),(hW z bd),(hW z be),(hW z bf),(hW z bg),(hW z bj),(hW z bk),(hW z bn)⟩ (fun hHeld=> ?_);clear hK K;refine dL (a':= ?_) ?_ ?_;rotate_left
             ·show Act.put _ (some 46) _=_;simp only[Act.put,List.setIfInBounds_toArray,List.set_cons_zero,List.set_cons_succ,bG,bN];rfl
             refine pA 19 (some 8) F.out ?_;refine eY (fH F.out (by kernel_rfl)) ?_
             try go_wp2_with (first|((with_reducible refine ax (N:=49) rfl ?_);refine Kd.cx (Kd.int .i64) _ 3 ?hg (N:=49) ?hd (xs:=([]:List Int)) (inner:=[]) (ok:=fun _=>True) (bB:=fun _=>True) ?hr ?hp (fun _ hk=>hk) trivial (Below.refl _ _) (Nat.le_refl _) (by simp) ?_;(case hd=>rfl);(case hg=>rfl);(case hr=>first|(go_simp;done)|(go_simp;rfl));(case hp=>exact(aI.none _ _));intro db df aU hb aW a1;clear aW a1;(first|rw[←ce.out]at aU|(simp only[Int.reduceToNat]at aU;rw[←ce.out]at aU));have G:=A_ (Kd.dZ (oR I) (Kd.dr aU) hb);have J:=A_ (Kd.bE (Kd.fl aU (Kd.en (oR I))) (aA (oB z)));have co:=A_ (aC (oB z) hb);clear I z;have I:=G;have cw:=J;have z:=co;clear G J co hb aU))
             go_ret2;exact⟨_,eR,by(with_reducible repeat(first|apply Kd.bm|apply Kd.br|apply Kd.a8));exact Kd.bh cw.out (fun _ hk=>trivial),oB z⟩
            ·rw[ag c24]at H;have cI:(t131==0)=false:=beq_eq_false_iff_ne.mpr c24;have cJ:(t131 != 0)=true:=bne_iff_ne.mpr c24;by_cases bx:0≤((ak l1 u).f1)
             ·rw[af bx]at H;have cY:decide (0≤((ak l1 u).f1))=true:=ah bx;clear bx;by_cases bz:((ak l1 u).f1)<(U.length:Int)
              ·rw[af bz]at H;have cZ:decide (((ak l1 u).f1)<(U.length:Int))=true:=ah bz;clear bz;obtain⟨b3,bt⟩:∃aF:List Int,aF=(U.set (((ak l1 u).f1):Int).toNat t131):=⟨_,rfl⟩;replace H:(cV.l0 k2 l1 b3 (wrap64 (u+1)))=some (r1,r2):=by first|(rw[bt];with_reducible exact H)|(have O:=(aG _ _).symm.trans H;rw[bt];with_reducible exact O)|(have O:=(aG _ _).symm.trans H;with_reducible exact O)|with_reducible exact H|(rw[bt];exact H)|exact H
               have cA:=A_ bt;clear bt;have H':=A_ H;clear H
               try go_wp2
               have G:=A_ (Kd.a8 I.out);have J:=A_ (cr z.out);clear I z;have I:=G;have z:=J;clear G J;have aM:0≤(u:Int):=oD;have aQ:u<(l1.length:Int):=oD;obtain⟨D,bR,ai,al,am,ao⟩:=eV Z.out u aM aQ;have bb:=ao;have a_:=am;have a9:=al;have a5:=ai;cases bR;replace ai:=hW z ai;replace al:=hW z al;replace am:=hW z am;replace ao:=hW z ao;replace aM:=av aM;replace aQ:=av aQ;have aN:0≤(((ak l1 u).f0):Int):=oD;have aR:((ak l1 u).f0)<(U.length:Int):=oD;obtain⟨bL,bS,X⟩:=Kd.dG (Kd.aY I.out).2.2 ((ak l1 u).f0) aN aR;obtain rfl:(⟨V,0,none⟩:Addr)=bL:=(by injection bS)
               (first|simp only[add_plain]at X|simp only[pj]at X|simp only[Addr.add,Nat.zero_add]at X|skip)
               replace aN:=av aN;replace aR:=av aR;have aO:0≤(u:Int):=oD;have aS:u<(l1.length:Int):=oD;obtain⟨bM,bT,ap,aq,ar,au⟩:=eV Z.out u aO aS;have bf:=au;have be:=ar;have bd:=aq;have bc:=ap;obtain rfl:D=bM:=(by injection bT);replace ap:=hW z ap;replace aq:=hW z aq;replace ar:=hW z ar;replace au:=hW z au;replace aO:=av aO;replace aS:=av aS;have aP:0≤(u:Int):=oD;have aT:u<(l1.length:Int):=oD;obtain⟨bP,bU,aw,az,aB,aE⟩:=eV Z.out u aP aT;have bn:=aE;have bk:=aB;have bj:=az;have bg:=aw;obtain rfl:D=bP:=(by injection bU);replace aw:=hW z aw;replace az:=hW z az;replace aB:=hW z aB;replace aE:=hW z aE;replace aP:=av aP;replace aT:=av aT;refine fk (n:=20) (S:=fun w'=>w'.cell? (D.add ((u).toNat*4))=some (.int .i64 ((ak l1 u).f0))∧w'.cell? ⟨(D.add ((u).toNat*4)).block,(D.add ((u).toNat*4)).off+1,none⟩=some (.int .i64 ((ak l1 u).f1))∧w'.cell? ⟨(D.add ((u).toNat*4)).block,(D.add ((u).toNat*4)).off+2,none⟩=some (.int .i64 ((ak l1 u).f2))∧w'.cell? ⟨(D.add ((u).toNat*4)).block,(D.add ((u).toNat*4)).off+3,none⟩=some (.int .i64 ((ak l1 u).f3))∧w'.cell? ⟨V,(((ak l1 u).f0)).toNat,none⟩=some (.int .i64 (rd U ((ak l1 u).f0)))∧w'.cell? (D.add ((u).toNat*4))=some (.int .i64 ((ak l1 u).f0))∧w'.cell? ⟨(D.add ((u).toNat*4)).block,(D.add ((u).toNat*4)).off+1,none⟩=some (.int .i64 ((ak l1 u).f1))∧w'.cell? ⟨(D.add ((u).toNat*4)).block,(D.add ((u).toNat*4)).off+2,none⟩=some (.int .i64 ((ak l1 u).f2))∧w'.cell? ⟨(D.add ((u).toNat*4)).block,(D.add ((u).toNat*4)).off+3,none⟩=some (.int .i64 ((ak l1 u).f3))∧w'.cell? (D.add ((u).toNat*4))=some (.int .i64 ((ak l1 u).f0))∧w'.cell? ⟨(D.add ((u).toNat*4)).block,(D.add ((u).toNat*4)).off+1,none⟩=some (.int .i64 ((ak l1 u).f1))∧w'.cell? ⟨(D.add ((u).toNat*4)).block,(D.add ((u).toNat*4)).off+2,none⟩=some (.int .i64 ((ak l1 u).f2))∧w'.cell? ⟨(D.add ((u).toNat*4)).block,(D.add ((u).toNat*4)).off+3,none⟩=some (.int .i64 ((ak l1 u).f3))) (ds:=[]) #[false,false,false,false,false,false,false,false,false,false,false,false,false,false,false,false,false,false,false,false] (by kernel_rfl) rfl rfl ⟨(hW z a5),(hW z a9),(hW z a_),(hW z bb),X,(hW z bc),(hW z bd),(hW z be),(hW z bf),(hW z bg),(hW z bj),(hW z bk),(hW z bn)⟩ (fun hHeld=> ?_);refine fP cV.ju cV.iX (fun F ad=> ?_);generalize wr.drew=dg at I z ai al am ao X ap aq ar au aw az aB aE hHeld ⊢;refine pA 0 (some 28) F.out ?_;refine pA 1 (some 29) F.out ?_;refine pA 2 (some 30) F.out ?_;refine pA 3 (some 31) F.out ?_;refine pA 4 (some 32) F.out ?_;refine pA 8 (some 36) F.out ?_;refine pA 9 (some 37) F.out ?_;refine pA 10 (some 38) F.out ?_;refine pA 11 (some 39) F.out ?_;refine pA 13 (some 41) F.out ?_;refine pA 14 (some 42) F.out ?_;refine pA 15 (some 43) F.out ?_;refine pA 16 (some 44) F.out ?_;refine pT 5 (some 33) F.out ad.out hHeld ?_;refine pA 6 (some 34) F.out ?_;refine pT 7 (some 35) F.out ad.out hHeld ?_;refine pT 12 (some 40) F.out ad.out hHeld ?_;refine pT 17 (some 45) F.out ad.out hHeld ?_;refine dh (i:=18) (N:=some 46) #[true,true,true,true,true,true,true,true,true,true,true,true,true,true,true,true,true,true,true,false] rfl rfl (cX F.out (by kernel_rfl)) (by decide) (fun K hK=> ?_);refine cy Tryz.func134 (by kernel_rfl) rfl #[.int .i64 (rd U ((ak l1 u).f0)),.int .i64 ((ak l1 u).f2),.int .i64 ((ak l1 u).f3)] (by rfl) rfl rfl (by(try simp only[List.map_toArray,List.map_cons,List.map_nil]);first|done|rfl|(simp only[List.length_drop,List.length_take];rfl)) ?_
               with_reducible refine(cD.c k2 (rd U ((ak l1 u).f0)) ((ak l1 u).f2) ((ak l1 u).f3) t131 _ b4.out).mono ?_
               rintro e ct ⟨rfl,hb⟩;have bK:=(hb.cell (World.block_lt_of_cell? _ _ (hHeld.2.2.2.2.1))).trans (hHeld.2.2.2.2.1);refine⟨_,rfl,?_⟩;have G:=A_ (Kd.aV (oR I) hb);have J:=A_ (aC (oB z) hb);clear I z;have I:=G;have z:=J;clear G J
               (try clear hb)
               (try clear hb2)
               (try clear hk)
               (try clear hi)
               refine hK.out _ _ ⟨(hW z a5),(hW z a9),(hW z a_),(hW z bb),bK,(hW z bc),(hW z bd),(hW z be),(hW z bf),(hW z bg),(hW z bj),(hW z bk),(hW z bn)⟩ (fun hHeld=> ?_);clear hK K;refine dL (a':= ?_) ?_ ?_;rotate_left
               ·show Act.put _ (some 46) _=_;simp only[Act.put,List.setIfInBounds_toArray,List.set_cons_zero,List.set_cons_succ,bG,bN];rfl
               refine pA 19 (some 8) F.out ?_;refine eY (fH F.out (by kernel_rfl)) ?_;have bW:0≤(u:Int):=oD;have bY:u<(l1.length:Int):=oD;obtain⟨cB,cK,ci,cj,ck,cl⟩:=eV Z.out u bW bY;obtain rfl:D=cB:=(by injection cK);replace ci:=hW z ci;replace cj:=hW z cj;replace ck:=hW z ck;replace cl:=hW z cl;replace bW:=av bW;replace bY:=av bY;have bX:0≤(((ak l1 u).f1):Int):=oD;have bZ:(((ak l1 u).f1):Int)<((U.length:Int):Int):=oD;obtain⟨c7,c4⟩:=Kd.gC 0 I.out (((ak l1 u).f1):Int) bX bZ;replace bX:=av bX;replace bZ:=av bZ;obtain⟨c8,c_⟩:=Kd.gC 0 I.out (((ak l1 u).f1):Int) (oD) (oD);have bJ:=Kd.lI I.out (((ak l1 u).f1):Int) t131
               try go_wp2_with (first|((with_reducible refine ma (t:=3) (p:=57) rfl ?_);refine mO (t:=3) (p:=57) (v:= ?Dc) (w1:=(ct.setCell ⟨V,(((ak l1 u).f1):Int).toNat,none⟩ (.int .i64 t131))) ?hg ?ho ?hn ?hr ?_;(case ho=>rfl);(case hg=>rfl);(case hn=>rfl);(case hr=>first|(go_simp;done)|(go_simp;rfl));intro b1 hw;have hg:ct.grownBy b1 (some V):=(by rw[hw];exact bJ.2);have a4:Kd.R (Kd.int .i64) 3 b1 w.heap.size (fun _=>True) (.slice (some ⟨V,0,none⟩) U.length bQ) b3:=(by rw[hw,cA.out];exact bJ.1);clear bJ;have G:=A_ (a4);have J:=A_ ((by rw[hw];exact fo (z.out) b9.out:Below w.heap.size w b1));clear I z;have I:=G;have z:=J;clear G J hg hw a4))
               (try simp only[←bC])
               go_roundg k2
               case measure=>have:=ca.out;have:=cb.out;omega
               case rel=>exact⟨(b3),(wrap64 (u+1)),eS,H',⟨by have:=ca.out;have:=cb.out;omega⟩,⟨by(try simp only[bC]);(with_reducible repeat(first|apply Kd.bm|apply Kd.br|apply Kd.a8));exact I.out⟩,⟨oB z⟩⟩
              ·rw[ag bz]at H;exact absurd H (by simp)
             ·rw[ag bx]at H;exact absurd H (by simp)
           ·rw[ag bw]at H;exact absurd H (by simp)
          ·rw[ag c21]at H;exact absurd H (by simp)
         ·rw[ag c20]at H;exact absurd H (by simp)
        ·rw[ag c19]at H;have cH:decide (u<(l1.length:Int))=false:=ay c19;clear c19;simp only[Option.some.injEq,Prod.mk.injEq]at H;obtain⟨rfl,rfl⟩:=H;go_wp2;go_ret2;exact⟨_,eR,oR I,oB z⟩
     ·rw[ag c13]at H;exact absurd H (by simp)
    ·rw[ag c12]at H;exact absurd H (by simp)
def f_.l0:Nat→Int→List (aj)→Int→Option ((List (aj)))
 |0,_,_,_=>none
 |k+1,x0,x3,u=>if u<11 then((cu.f x0 0 5000).bind fun t163=>(if t163=true then((some (([1,2,1,2,1,2,2,1,2,1,2]:List Int):List Int)).bind fun z=>(if 0≤u then(if u<(z.length:Int)then(if x3.length<4398046511104 then(f_.l0 k x0 (x3++[(⟨u,wrap64 (u+1),rd z u,x0⟩:aj)]) (wrap64 (u+1)))else(none))else(none))else(none)))else(some x3)))else(some x3)
def f_.f (k:Nat) (a0:Int):Option ((List (aj))):=f_.l0 k a0 (([]:List (aj))) 0
theorem f_.c (k:Nat) (a0:Int) (r:List (aj)) (w:World) (h:f_.f k a0=some r):
  Calls Tryz.prog 92 #[.int .i64 a0] w fun e w'=>∃aJ:Value,e= .returned (aJ)∧Kd.R aX 110 w' w.heap.size (fun _=>True) aJ r∧Below w.heap.size w w':=by
 have a6:=Tryz.underlying110;have z:=A_ (Below.refl w.heap.size w);have H:(f_.l0 k a0 (([]:List (aj))) 0)=some r:=h;clear h;obtain⟨aK,X⟩:∃ai:List (aj),ai=(([]:List (aj))):=⟨_,rfl⟩;replace H:(f_.l0 k a0 aK 0)=some r:=by first|(rw[X];with_reducible exact H)|(have D:=(aG _ _).symm.trans H;rw[X];with_reducible exact D)|(have D:=(aG _ _).symm.trans H;with_reducible exact D)|with_reducible exact H|(rw[X];exact H)|exact H
 have aw:=A_ X;clear X;have H':=A_ H;clear H;go_enter Tryz.func92,Tryz.ntmps92
 go_wp2_with (first|((with_reducible refine ax (N:=6) rfl ?_);refine Kd.cx aX _ 110 ?hg (N:=6) ?hd (xs:=([]:List (aj))) (inner:=[]) (ok:=fun _=>True) (bB:=fun _=>True) ?hr ?hp (fun _ hk=>hk) trivial (Below.refl _ _) (Nat.le_refl _) (by simp) ?_;(case hd=>rfl);(case hg=>rfl);(case hr=>first|(go_simp;done)|(go_simp;rfl));(case hp=>exact(aI.none _ _));intro a8 w2 V hb al am;clear al am;(first|rw[←aw.out]at V|(simp only[Int.reduceToNat]at V;rw[←aw.out]at V));have I:=A_ (Kd.bE V (aA (oB z)));have J:=A_ (aC (oB z) hb);clear z;have aN:=I;have z:=J;clear I J hb V))
 go_loopg [3,4] k (fun aE v3 v4 w'=>∃(K:List (aj)) (u:Int),v4= .int .i64 u∧ae (f_.l0 aE a0 K u=some r)∧ae (aE≤k)∧ae (Kd.R aX 110 w' w.heap.size (fun _=>True) v3 K)∧ae (Below w.heap.size w w'))
 case atStart=>exact⟨(aK),(0),eS,H',⟨Nat.le_refl _⟩,⟨oR aN⟩,⟨oB z⟩⟩
 case round=>
  clear H'
  try clear p2
  obtain⟨K,u,rfl,ak,au,G,z⟩:=hrel;cases gk with
  |zero=>exact absurd ak.out (by simp[f_.l0])
  |succ k1=>
   have H:=ak.out;clear ak;simp only[f_.l0]at H;by_cases c4:u<11
   ·rw[af c4]at H;have aU:decide (u<11)=true:=ah c4;clear c4;replace H:=aD H;obtain⟨t163,ar,H⟩:=H
    (try dsimp only at H)
    have aq:=A_ ar;clear ar;by_cases c6:t163=true
    ·subst c6;rw[af rfl]at H;obtain⟨F,Y⟩:∃ai:List Int,ai=(([1,2,1,2,1,2,2,1,2,1,2]:List Int)):=⟨_,rfl⟩;replace H:(if 0≤u then(if u<(F.length:Int)then(if K.length<4398046511104 then(f_.l0 k1 a0 (K++[(⟨u,wrap64 (u+1),rd F u,a0⟩:aj)]) (wrap64 (u+1)))else(none))else(none))else(none))=some r:=by first|(rw[Y];with_reducible exact H)|(have D:=(aG _ _).symm.trans H;rw[Y];with_reducible exact D)|(have D:=(aG _ _).symm.trans H;with_reducible exact D)|with_reducible exact H|(rw[Y];exact H)|exact H
     have az:=A_ Y;clear Y;by_cases c7:0≤u
     ·rw[af c7]at H;have a3:decide (0≤u)=true:=ah c7;clear c7;by_cases c8:u<(F.length:Int)
      ·rw[af c8]at H;have a4:decide (u<(F.length:Int))=true:=ah c8;clear c8;by_cases c9:K.length<4398046511104
       ·rw[af c9]at H;have aR:=A_ c9;clear c9;obtain⟨aM,Z⟩:∃ai:List (aj),ai=(K++[(⟨u,wrap64 (u+1),rd F u,a0⟩:aj)]):=⟨_,rfl⟩;replace H:(f_.l0 k1 a0 aM (wrap64 (u+1)))=some r:=by first|(rw[Z];with_reducible exact H)|(have D:=(aG _ _).symm.trans H;rw[Z];with_reducible exact D)|(have D:=(aG _ _).symm.trans H;with_reducible exact D)|with_reducible exact H|(rw[Z];exact H)|exact H
        have aT:=A_ Z;clear Z;have H':=A_ H;clear H
        go_wp2_with (first|(go_at_call 72;(with_reducible refine(cu.c a0 0 5000 true _ aq.out).mono ?_);rintro e w' ⟨rfl,⟨nd,rfl⟩⟩)|((with_reducible refine ax (N:=15) rfl ?_);refine Kd.cx (Kd.int .i64) _ 3 ?hg (N:=15) ?hd (xs:=([1,2,1,2,1,2,2,1,2,1,2]:List Int)) (inner:=[.int .i64 1,.int .i64 2,.int .i64 1,.int .i64 2,.int .i64 1,.int .i64 2,.int .i64 2,.int .i64 1,.int .i64 2,.int .i64 1,.int .i64 2]) (ok:=fun _=>True) (bB:=fun _=>True) ?hr ?hp (fun _ hk=>hk) trivial (Below.refl _ _) (Nat.le_refl _) (by simp) ?_;(case hd=>rfl);(case hg=>rfl);(case hr=>first|(go_simp;done)|(go_simp;rfl));(case hp=>exact(aI.one (show Kd.M (Kd.int .i64) _ _ _ 1 [.int .i64 1]from rfl) (aI.one (show Kd.M (Kd.int .i64) _ _ _ 2 [.int .i64 2]from rfl) (aI.one (show Kd.M (Kd.int .i64) _ _ _ 1 [.int .i64 1]from rfl) (aI.one (show Kd.M (Kd.int .i64) _ _ _ 2 [.int .i64 2]from rfl) (aI.one (show Kd.M (Kd.int .i64) _ _ _ 1 [.int .i64 1]from rfl) (aI.one (show Kd.M (Kd.int .i64) _ _ _ 2 [.int .i64 2]from rfl) (aI.one (show Kd.M (Kd.int .i64) _ _ _ 2 [.int .i64 2]from rfl) (aI.one (show Kd.M (Kd.int .i64) _ _ _ 1 [.int .i64 1]from rfl) (aI.one (show Kd.M (Kd.int .i64) _ _ _ 2 [.int .i64 2]from rfl) (aI.one (show Kd.M (Kd.int .i64) _ _ _ 1 [.int .i64 1]from rfl) (aI.one (show Kd.M (Kd.int .i64) _ _ _ 2 [.int .i64 2]from rfl) (aI.none _ _)))))))))))));intro a9 bb U hb al am;clear al am;(first|rw[←az.out]at U|(simp only[Int.reduceToNat]at U;rw[←az.out]at U));have I:=A_ (Kd.aV (oR G) hb);have J:=A_ (Kd.bE U (aA (oB z)));have ad:=A_ (aC (oB z) hb);clear G z;have G:=I;have O:=J;have z:=ad;clear I J ad hb U;obtain⟨a1,a5,aZ⟩:=Kd.bz O.out;subst aZ;have ao:0≤(u:Int):=oD;have ap:u<(F.length:Int):=oD;obtain⟨a2,aW,a7⟩:=Kd.dG (Kd.aY O.out).2.2 u ao ap;cases aW;replace ao:=av ao;replace ap:=av ap)|((with_reducible refine dP (b:= .append) (xs:= #[.tmp 19,.tmp 26]) rfl ?_);at_builtin;refine Kd.eF aX (w0:=w) w.heap.size rfl (.tmp 19) (.tmp 26) 24 110 (.agg #[(.int .i64 0),(.int .i64 0),(.int .i64 0),(.int .i64 0)]) 32 rfl Tryz.underlying24 kz rfl (by decide) (by omega) u3 K (⟨u,wrap64 (u+1),rd F u,a0⟩:aj) [.int .i64 u,.int .i64 (wrap64 (u+1)),.int .i64 (rd F u),.int .i64 a0] (fun _=>True) (fun _=>False) rfl rfl ?aP (fun _ hk=>hk.elim) ?aF ?aO ?aB ?aS ?aL ?_;(case aP=>exact mv _ _ _ (⟨u,wrap64 (u+1),rd F u,a0⟩:aj));(case aB=>exact(oB z));(case aF=>exact(fun _ _=>trivial));(case aO=>exact(oR G));(case aS=>exact(aA (oB z)));(case aL=>have:=aR.out;omega);intro a_ bc ho hb hg hat;rw[←aT.out]at ho;have I:=A_ (Kd.eG (oR O) (Kd.eH (oR G)) (by decide) hg);have J:=A_ (hb);have ad:=A_ (ho);clear O z G;have O:=I;have z:=J;have aQ:=ad;clear I J ad ho hb hg hat))
        go_roundg k1
        case measure=>have:=au.out;omega
        case rel=>exact⟨(aM),(wrap64 (u+1)),eS,H',⟨by have:=au.out;omega⟩,⟨oR aQ⟩,⟨oB z⟩⟩
       ·rw[ag c9]at H;exact absurd H (by simp)
      ·rw[ag c8]at H;exact absurd H (by simp)
     ·rw[ag c7]at H;exact absurd H (by simp)
    ·replace c6:=Bool.eq_false_iff.mpr c6;subst c6;rw[ag (show¬(false=true)by decide)]at H;obtain rfl:=aH H
     go_wp2_with (first|(go_at_call 72;(with_reducible refine(cu.c a0 0 5000 false _ aq.out).mono ?_);rintro e w' ⟨rfl,⟨nd,rfl⟩⟩))
     go_ret;exact⟨_,eR,oR G,oB z⟩
   ·rw[ag c4]at H;have aU:decide (u<11)=false:=ay c4;clear c4;obtain rfl:=aH H;go_wp2;go_ret;exact⟨_,eR,oR G,oB z⟩
def nE.f (l0:List Int):Option (List Int):=(some (([]:List Int):List Int)).bind fun u=>(if u.length+l0.length<17592186044416 then(some (u++l0))else(none))
theorem nE.c (A0:Option Addr) (c0:Nat) (l0:List Int) (r:List Int) (w:World) (X:Kd.C (Kd.int .i64) w A0 l0.length l0) (hc0:l0.length≤c0) (h:nE.f l0=some r):
  Calls Tryz.prog 108 #[.slice A0 l0.length c0] w fun e w'=>∃Y:Value,e= .returned (Y)∧Kd.R (Kd.int .i64) 3 w' w.heap.size (fun _=>True) Y r∧Below w.heap.size w w':=by
 have ad:=A_ X;have ao:=A_ hc0;clear X hc0;have u:=A_ (Below.refl w.heap.size w);have H:((some (([]:List Int):List Int)).bind fun z=>(if z.length+l0.length<17592186044416 then(some (z++l0))else(none)))=some r:=h;clear h;obtain⟨z,G⟩:∃O:List Int,O=(([]:List Int)):=⟨_,rfl⟩;replace H:(if z.length+l0.length<17592186044416 then(some (z++l0))else(none))=some r:=by first|(rw[G];with_reducible exact H)|(have D:=(aG _ _).symm.trans H;rw[G];with_reducible exact D)|(have D:=(aG _ _).symm.trans H;with_reducible exact D)|with_reducible exact H|(rw[G];exact H)|exact H
 have V:=A_ G;clear G;by_cases c2:z.length+l0.length<17592186044416
 ·rw[af c2]at H;have ae:=A_ c2;clear c2;obtain⟨am,I⟩:∃O:List Int,O=(z++l0):=⟨_,rfl⟩;replace H:(some am)=some r:=by first|(rw[I];with_reducible exact H)|(have D:=(aG _ _).symm.trans H;rw[I];with_reducible exact D)|(have D:=(aG _ _).symm.trans H;with_reducible exact D)|with_reducible exact H|(rw[I];exact H)|exact H
  have ai:=A_ I;clear I;obtain rfl:=aH H;go_enter Tryz.func108,Tryz.ntmps108
  go_wp2_with (first|((with_reducible refine ax (N:=3) rfl ?_);refine Kd.cx (Kd.int .i64) _ 3 ?hg (N:=3) ?hd (xs:=([]:List Int)) (inner:=[]) (ok:=fun _=>True) (bB:=fun _=>True) ?hr ?hp (fun _ hk=>hk) trivial (Below.refl _ _) (Nat.le_refl _) (by simp) ?_;(case hd=>rfl);(case hg=>rfl);(case hr=>first|(go_simp;done)|(go_simp;rfl));(case hp=>exact(aI.none _ _));intro al w3 F hb aj ak;clear aj ak;(first|rw[←V.out]at F|(simp only[Int.reduceToNat]at F;rw[←V.out]at F));have J:=A_ (Kd.bE F (aA (oB u)));have K:=A_ (aC (oB u) hb);clear u;have U:=J;have u:=K;clear J K hb F)|((with_reducible refine dP (b:= .append) (xs:= #[.tmp 3,.tmp 4]) rfl ?_);at_builtin;refine Kd.lH (Kd.int .i64) (w0:=w) w.heap.size rfl (.tmp 3) (.tmp 4) 25 3 (.int .i64 0) 8 rfl Tryz.underlying25 info3 rfl (by decide) (by omega) al z l0 _ _ _ (fun _=>True) (fun _=>False) rfl rfl ?aO ?aR (fun _ _ h=>h) (fun _ h=>h.elim) ?aF ?aB ?aS ?aL ?_;(case aR=>exact bO ad.out);(case aB=>exact(oB u));(case aF=>exact(fun _ _=>trivial));(case aO=>exact(oR U));(case aS=>exact(aA (oB u)));(case aL=>have:=ae.out;omega);intro v212 ap ho hb hg hat;rw[←ai.out]at ho;have J:=A_ (hb);have K:=A_ (ho);clear u U;have u:=J;have Z:=K;clear J K ho hb hg hat))
  go_ret;exact⟨_,eR,oR Z,oB u⟩
 ·rw[ag c2]at H;exact absurd H (by simp)
def iL.f (l0:List (S64)):Option ((List (S64))):=(some (([]:List (S64)):List (S64))).bind fun u=>(if u.length+l0.length<4398046511104 then(some (u++l0))else(none))
theorem iL.c (A0:Option Addr) (c0:Nat) (l0:List (S64)) (r:List (S64)) (w:World) (X:Kd.C aW w A0 l0.length l0) (hc0:l0.length≤c0) (h:iL.f l0=some r):
  Calls Tryz.prog 69 #[.slice A0 l0.length c0] w fun e w'=>∃Y:Value,e= .returned (Y)∧Kd.R aW 64 w' w.heap.size (fun _=>True) Y r∧Below w.heap.size w w':=by
 have ad:=A_ X;have ao:=A_ hc0;clear X hc0;have u:=A_ (Below.refl w.heap.size w);have H:((some (([]:List (S64)):List (S64))).bind fun z=>(if z.length+l0.length<4398046511104 then(some (z++l0))else(none)))=some r:=h;clear h;obtain⟨z,G⟩:∃O:List (S64),O=(([]:List (S64))):=⟨_,rfl⟩;replace H:(if z.length+l0.length<4398046511104 then(some (z++l0))else(none))=some r:=by first|(rw[G];with_reducible exact H)|(have D:=(aG _ _).symm.trans H;rw[G];with_reducible exact D)|(have D:=(aG _ _).symm.trans H;with_reducible exact D)|with_reducible exact H|(rw[G];exact H)|exact H
 have V:=A_ G;clear G;by_cases c2:z.length+l0.length<4398046511104
 ·rw[af c2]at H;have ae:=A_ c2;clear c2;obtain⟨am,I⟩:∃O:List (S64),O=(z++l0):=⟨_,rfl⟩;replace H:(some am)=some r:=by first|(rw[I];with_reducible exact H)|(have D:=(aG _ _).symm.trans H;rw[I];with_reducible exact D)|(have D:=(aG _ _).symm.trans H;with_reducible exact D)|with_reducible exact H|(rw[I];exact H)|exact H
  have ai:=A_ I;clear I;obtain rfl:=aH H;go_enter Tryz.func69,Tryz.ntmps69
  go_wp2_with (first|((with_reducible refine ax (N:=3) rfl ?_);refine Kd.cx aW _ 64 ?hg (N:=3) ?hd (xs:=([]:List (S64))) (inner:=[]) (ok:=fun _=>True) (bB:=fun _=>True) ?hr ?hp (fun _ hk=>hk) trivial (Below.refl _ _) (Nat.le_refl _) (by simp) ?_;(case hd=>rfl);(case hg=>rfl);(case hr=>first|(go_simp;done)|(go_simp;rfl));(case hp=>exact(aI.none _ _));intro al w3 F hb aj ak;clear aj ak;(first|rw[←V.out]at F|(simp only[Int.reduceToNat]at F;rw[←V.out]at F));have J:=A_ (Kd.bE F (aA (oB u)));have K:=A_ (aC (oB u) hb);clear u;have U:=J;have u:=K;clear J K hb F)|((with_reducible refine dP (b:= .append) (xs:= #[.tmp 3,.tmp 4]) rfl ?_);at_builtin;refine Kd.lH aW (w0:=w) w.heap.size rfl (.tmp 3) (.tmp 4) 28 64 (.agg #[(.int .i64 0),(.int .i64 0),(.int .i64 0),(.int .i64 0)]) 32 rfl Tryz.underlying28 ni rfl (by decide) (by omega) al z l0 _ _ _ (fun _=>True) (fun _=>False) rfl rfl ?aO ?aR (fun _ _ h=>h) (fun _ h=>h.elim) ?aF ?aB ?aS ?aL ?_;(case aR=>exact bO ad.out);(case aB=>exact(oB u));(case aF=>exact(fun _ _=>trivial));(case aO=>exact(oR U));(case aS=>exact(aA (oB u)));(case aL=>have:=ae.out;omega);intro v226 ap ho hb hg hat;rw[←ai.out]at ho;have J:=A_ (hb);have K:=A_ (ho);clear u U;have u:=J;have Z:=K;clear J K ho hb hg hat))
  go_ret;exact⟨_,eR,oR Z,oB u⟩
 ·rw[ag c2]at H;exact absurd H (by simp)
def fD.l0:Nat→List (aj)→Int→Int→Option (Int)
 |0,_,_,_=>none
 |k+1,x0,x1,u=>if u<(x0.length:Int)then(if 0≤u then(if((ak x0 u).f1)=x1 then(some u)else(fD.l0 k x0 x1 (wrap64 (u+1))))else(none))else(some (-1))
def fD.f (k:Nat) (l0:List (aj)) (a1:Int):Option (Int):=fD.l0 k l0 a1 0
theorem fD.c (k:Nat) (A0:Option Addr) (c0:Nat) (l0:List (aj)) (a1:Int) (r:Int) (w:World) (K:Kd.C aX w A0 l0.length l0) (hc0:l0.length≤c0) (h:fD.f k l0 a1=some r):
  Calls Tryz.prog 110 #[.slice A0 l0.length c0,.int .i64 a1] w fun e w'=>e= .returned (.int .i64 r)∧bD w w':=by
 have J:=A_ K;have am:=A_ hc0;clear K hc0;have H:(fD.l0 k l0 a1 0)=some r:=h;clear h;have H':=A_ H;clear H;go_enter Tryz.func110,Tryz.ntmps110;go_wp2
 go_loopg [5] k (fun O v5 w'=>∃(u:Int),v5= .int .i64 u∧ae (fD.l0 O l0 a1 u=some r)∧ae (O≤k)∧bD w w')
 case atStart=>exact⟨(0),eS,H',⟨Nat.le_refl _⟩,by repeat(first|exact bD.refl _|apply bD.step)⟩
 case round=>
  clear H'
  try clear c1
  try clear p2
  obtain⟨u,rfl,F,I,⟨m1,rfl⟩⟩:=hrel;cases gk with
  |zero=>exact absurd F.out (by simp[fD.l0])
  |succ k1=>
   have H:=F.out;clear F;simp only[fD.l0]at H;by_cases c3:u<(l0.length:Int)
   ·rw[af c3]at H;have V:decide (u<(l0.length:Int))=true:=ah c3;clear c3;by_cases c4:0≤u
    ·rw[af c4]at H;have ao:decide (0≤u)=true:=ah c4;clear c4;by_cases c5:((ak l0 u).f1)=a1
     ·rw[af c5]at H;have X:(((ak l0 u).f1)==a1)=true:=beq_iff_eq.mpr c5;have Y:(((ak l0 u).f1) != a1)=false:=bne_eq_false_iff_eq.mpr c5;clear c5;obtain rfl:=aH H;have z:0≤(u:Int):=oD;have D:u<(l0.length:Int):=oD;obtain⟨U,G,Z,ad,ai,al⟩:=eV J.out u z D;cases G;replace z:=av z;replace D:=av D;go_wp2;go_ret;exact⟨eS,by repeat(first|exact bD.refl _|apply bD.step)⟩
     ·rw[ag c5]at H;have X:(((ak l0 u).f1)==a1)=false:=beq_eq_false_iff_ne.mpr c5;have Y:(((ak l0 u).f1) != a1)=true:=bne_iff_ne.mpr c5;have H':=A_ H;clear H;have z:0≤(u:Int):=oD;have D:u<(l0.length:Int):=oD;obtain⟨U,G,Z,ad,ai,al⟩:=eV J.out u z D;cases G;replace z:=av z;replace D:=av D;go_wp2
      go_roundg k1
      case measure=>have:=I.out;omega
      case rel=>exact⟨(wrap64 (u+1)),eS,H',⟨by have:=I.out;omega⟩,by repeat(first|exact bD.refl _|apply bD.step)⟩
    ·rw[ag c4]at H;exact absurd H (by simp)
   ·rw[ag c3]at H;have V:decide (u<(l0.length:Int))=false:=ay c3;clear c3;obtain rfl:=aH H;go_wp2;go_ret;exact⟨eS,by repeat(first|exact bD.refl _|apply bD.step)⟩
mutual
def cK.j0:Nat→Bool→List (aj)→Int→List Int→Option (Bool)
 |0,_,_,_,_=>none
 |k+1,u,z,D,F=>if u=true then(some false)else(cK.l0 k 0 z D F)
def cK.l0:Nat→Int→List (aj)→Int→List Int→Option (Bool)
 |0,_,_,_,_=>none
 |k+1,x3,z,D,u=>if x3<12 then((fD.f k z x3).bind fun t244=>(if x3=0 then(if 0≤x3 then(if x3<(u.length:Int)then((cW.f (rd u x3)).bind fun t246=>(if t246=true then(cK.l0 k (wrap64 (x3+1)) z D u)else(some false)))else(none))else(none))else(if t244≥0 then(if t244<D then(if 0≤x3 then(if x3<(u.length:Int)then((cW.f (rd u x3)).bind fun t248=>(if t248=true then(cK.l0 k (wrap64 (x3+1)) z D u)else(some false)))else(none))else(none))else(if 0≤x3 then(if x3<(u.length:Int)then(if(rd u x3)=0 then(cK.l0 k (wrap64 (x3+1)) z D u)else(some false))else(none))else(none)))else(if 0≤x3 then(if x3<(u.length:Int)then(if(rd u x3)=0 then(cK.l0 k (wrap64 (x3+1)) z D u)else(some false))else(none))else(none)))))else(some true)
end
def cK.f (k:Nat) (u:List (aj)) (z:Int) (D:List Int):Option (Bool):=(jN.f u).bind fun t242=>(if t242=true then((cu.f z 0 (u.length:Int)).bind fun t243=>(if t243=true then(cK.j0 k ((D.length:Int) != 12) u z D)else(cK.j0 k true u z D)))else(cK.j0 k true u z D))
theorem cK.c (k:Nat) (I:Option Addr) (K:Nat) (F:List (aj)) (J:Int) (aK:Option Addr) (aL:Nat) (D:List Int) (r:Bool) (w:World) (bT:Kd.C aX w I F.length F) (bh:F.length≤K) (bU:Kd.C (Kd.int .i64) w aK D.length D) (bj:D.length≤aL) (h:cK.f k F J D=some r):
  Calls Tryz.prog 70 #[.agg #[.slice I F.length K,.int .i64 J,.slice aK D.length aL]] w fun e w'=>e= .returned (.bool r)∧Below w.heap.size w w':=by
 have de:=Tryz.underlying27;have U:=A_ bT;have O:=A_ bh;clear bT bh;have ai:=A_ bU;have cc:=A_ bj;clear bU bj;have G:=A_ (Below.refl w.heap.size w);have H:((jN.f F).bind fun t242=>(if t242=true then((cu.f J 0 (F.length:Int)).bind fun t243=>(if t243=true then(cK.j0 k ((D.length:Int) != 12) F J D)else(cK.j0 k true F J D)))else(cK.j0 k true F J D)))=some r:=h;clear h;have a0:=A_ H;clear H;go_enter Tryz.func70,Tryz.ntmps70
 go_upto_region 1 with (first|((with_reducible refine ax (N:=1) rfl ?_);(try(refine dE (by rfl) ?_;dsimp only));refine bX (N:=1) (cs:= #[.slice I F.length K,.int .i64 J,.slice aK D.length aL]) (t:=27) ?_;intro aV hg w3 bg hb;have V:=A_ (aC (oB G) hb);have X:=A_ (bg);have bW:=A_ ((by rw[hg];exact(aA (oB G)):w.heap.size≤aV));have bY:=A_ ((by rw[hg];exact(aA (oB G)):w.heap.size≤aV));clear G;have G:=V;have u:=X;have cb:=bW;have ca:=bY;clear V X bW bY hb bg hg))
 (try simp only[Act.put,List.setIfInBounds_toArray,List.set_cons_zero,List.set_cons_succ])
 go_cut [24] (fun v24 wc=>∃(ao:Nat) (aW:Bool),v24= .bool aW∧ae (cK.j0 ao aW F J D=some r)∧ae (ao≤k)∧ae (wc.heap[aV]? =some (.cells #[(.slice I F.length K),.int .i64 J,(.slice aK D.length aL)] 27 (0,0)))∧ae (Below w.heap.size w wc))
 case first=>
  have H:=a0.out;clear a0;replace H:=aD H;obtain⟨t242,bd,H⟩:=H
  (try dsimp only at H)
  have aY:=A_ bd;clear bd;by_cases c5:t242=true
  ·subst c5;rw[af rfl]at H;replace H:=aD H;obtain⟨t243,bf,H⟩:=H
   (try dsimp only at H)
   have be:=A_ bf;clear bf;by_cases c7:t243=true
   ·subst c7;rw[af rfl]at H;have H':=A_ H;clear H;have bx:=cz u 0;have bz:=cz u 1;have bA:=cz u 2;have bQ:=ar u.out 0;have bR:=ar u.out 1;have bS:=ar u.out 2
    go_wp2_with (first|((with_reducible refine aZ (f:=109) rfl ?_);refine gL (some 8) Tryz.func109 #[.slice I F.length K] ?_;(with_reducible refine(jN.c _ _ F true _ ?a6 ?a7 aY.out).mono ?_);(case a6=>exact bO U.out);(case a7=>exact O.out);rintro e dh ⟨rfl,hb⟩;refine⟨_,rfl,?_⟩;have V:=A_ (bb u hb);have X:=A_ (aC (oB G) hb);clear u G;have u:=V;have G:=X;clear V X;(try clear hb);(try clear hb2);(try clear hk);(try clear hi);have bk:=cz u 0;have bm:=cz u 1;have bn:=cz u 2;have bB:=ar u.out 0;have bC:=ar u.out 1;have bD:=ar u.out 2)|(go_at_call 72;(with_reducible refine(cu.c J 0 (F.length:Int) true _ be.out).mono ?_);rintro e w' ⟨rfl,⟨nd,rfl⟩⟩))
    go_meet
    case rel=>exact⟨_,(((D.length:Int) != 12)),eS,H',⟨by first|omega|exact Nat.le_refl _⟩,⟨oK u⟩,⟨oB G⟩⟩
   ·replace c7:=Bool.eq_false_iff.mpr c7;subst c7;rw[ag (show¬(false=true)by decide)]at H;have H':=A_ H;clear H;have bo:=cz u 0;have bp:=cz u 1;have bq:=cz u 2;have bE:=ar u.out 0;have bF:=ar u.out 1;have bH:=ar u.out 2
    go_wp2_with (first|((with_reducible refine aZ (f:=109) rfl ?_);refine gL (some 8) Tryz.func109 #[.slice I F.length K] ?_;(with_reducible refine(jN.c _ _ F true _ ?a6 ?a7 aY.out).mono ?_);(case a6=>exact bO U.out);(case a7=>exact O.out);rintro e df ⟨rfl,hb⟩;refine⟨_,rfl,?_⟩;have V:=A_ (bb u hb);have X:=A_ (aC (oB G) hb);clear u G;have u:=V;have G:=X;clear V X;(try clear hb);(try clear hb2);(try clear hk);(try clear hi);have br:=cz u 0;have bs:=cz u 1;have bt:=cz u 2;have bI:=ar u.out 0;have bJ:=ar u.out 1;have bK:=ar u.out 2)|(go_at_call 72;(with_reducible refine(cu.c J 0 (F.length:Int) false _ be.out).mono ?_);rintro e w' ⟨rfl,⟨nd,rfl⟩⟩))
    go_meet
    case rel=>exact⟨_,(true),eS,H',⟨by first|omega|exact Nat.le_refl _⟩,⟨oK u⟩,⟨oB G⟩⟩
  ·replace c5:=Bool.eq_false_iff.mpr c5;subst c5;rw[ag (show¬(false=true)by decide)]at H;have H':=A_ H;clear H;have bu:=cz u 0;have bv:=cz u 1;have bw:=cz u 2;have bL:=ar u.out 0;have bM:=ar u.out 1;have bP:=ar u.out 2
   go_wp2_with (first|((with_reducible refine aZ (f:=109) rfl ?_);refine gL (some 8) Tryz.func109 #[.slice I F.length K] ?_;(with_reducible refine(jN.c _ _ F false _ ?a6 ?a7 aY.out).mono ?_);(case a6=>exact bO U.out);(case a7=>exact O.out);rintro e dg ⟨rfl,hb⟩;refine⟨_,rfl,?_⟩;have V:=A_ (bb u hb);have X:=A_ (aC (oB G) hb);clear u G;have u:=V;have G:=X;clear V X;(try clear hb);(try clear hb2);(try clear hk);(try clear hi)))
   go_meet
   case rel=>exact⟨_,(true),eS,H',⟨by first|omega|exact Nat.le_refl _⟩,⟨oK u⟩,⟨oB G⟩⟩
 case rest=>
  clear a0
  try clear c1
  try clear p2
  try clear c5
  try clear c7
  try clear c10
  try clear bk
  try clear bm
  try clear bn
  try clear bo
  try clear bp
  try clear bq
  try clear br
  try clear bs
  try clear bt
  try clear bu
  try clear bv
  try clear bw
  try clear bx
  try clear bz
  try clear bA
  try clear bB
  try clear bC
  try clear bD
  try clear bE
  try clear bF
  try clear bH
  try clear bI
  try clear bJ
  try clear bK
  try clear bL
  try clear bM
  try clear bP
  try clear bQ
  try clear bR
  try clear bS
  obtain⟨ao,aW,rfl,ak,Z,u,G⟩:=hcut;cases ao with
  |zero=>exact absurd ak.out (by simp[cK.j0])
  |succ bV=>
   have H:=ak.out;clear ak;simp only[cK.j0]at H;by_cases c16:aW=true
   ·subst c16;rw[af rfl]at H;obtain rfl:=aH H;go_wp2;go_ret;exact⟨eR,oB G⟩
   ·replace c16:=Bool.eq_false_iff.mpr c16;subst c16;rw[ag (show¬(false=true)by decide)]at H;have H':=A_ H;clear H;go_wp2
    go_loopg [3] bV (fun ao v3 w'=>∃(z:Int),v3= .int .i64 z∧ae (cK.l0 ao z F J D=some r)∧ae (ao≤bV)∧ae (w'.heap[aV]? =some (.cells #[(.slice I F.length K),.int .i64 J,(.slice aK D.length aL)] 27 (0,0)))∧ae (Below w.heap.size w w'))
    case atStart=>exact⟨(0),eS,H',⟨Nat.le_refl _⟩,⟨oK u⟩,⟨oB G⟩⟩
    case round=>
     clear H'
     try clear c1
     try clear p2
     try clear c5
     try clear c7
     try clear c10
     try clear c16
     try clear bk
     try clear bm
     try clear bn
     try clear bo
     try clear bp
     try clear bq
     try clear br
     try clear bs
     try clear bt
     try clear bu
     try clear bv
     try clear bw
     try clear bx
     try clear bz
     try clear bA
     try clear bB
     try clear bC
     try clear bD
     try clear bE
     try clear bF
     try clear bH
     try clear bI
     try clear bJ
     try clear bK
     try clear bL
     try clear bM
     try clear bP
     try clear bQ
     try clear bR
     try clear bS
     try clear p2
     obtain⟨z,rfl,ak,ad,u,G⟩:=hrel;cases gk with
     |zero=>exact absurd ak.out (by simp[cK.l0])
     |succ k2=>
      have H:=ak.out;clear ak;simp only[cK.l0]at H;by_cases c17:z<12
      ·rw[af c17]at H;have b3:decide (z<12)=true:=ah c17;clear c17;replace H:=aD H;obtain⟨t244,a5,H⟩:=H
       (try dsimp only at H)
       have Y:=A_ a5;clear a5;by_cases c19:z=0
       ·rw[af c19]at H;have b4:(z==0)=true:=beq_iff_eq.mpr c19;have b5:(z != 0)=false:=bne_eq_false_iff_eq.mpr c19;clear c19;by_cases c20:0≤z
        ·rw[af c20]at H;have cd:decide (0≤z)=true:=ah c20;clear c20;by_cases c21:z<(D.length:Int)
         ·rw[af c21]at H;have ce:decide (z<(D.length:Int))=true:=ah c21;clear c21;replace H:=aD H;obtain⟨t246,a9,H⟩:=H
          (try dsimp only at H)
          have a8:=A_ a9;clear a9;by_cases aQ:t246=true
          ·subst aQ;rw[af rfl]at H;have H':=A_ H;clear H;have cl:=cz u 0;have cm:=cz u 1;have cn:=cz u 2;have cN:=ar u.out 0;have cO:=ar u.out 1;have cP:=ar u.out 2
           go_wp2_with (first|((with_reducible refine aZ (f:=110) rfl ?_);refine gL (some 32) Tryz.func110 #[.slice I F.length K,.int .i64 z] ?_;(with_reducible refine(fD.c k2 _ _ F z t244 _ ?a6 ?a7 Y.out).mono ?_);(case a6=>exact bO U.out);(case a7=>exact O.out);rintro e w' ⟨rfl,⟨nd,rfl⟩⟩;refine⟨_,rfl,?_⟩;have ap:0≤(z:Int):=oD;have az:z<(D.length:Int):=oD;obtain⟨bZ,a1,aM⟩:=Kd.dG ai.out z ap az;cases a1;replace aM:=hW G aM;replace ap:=av ap;replace az:=av az)|(go_at_call 111;(with_reducible refine(cW.c (rd D z) true _ a8.out).mono ?_);rintro e w' ⟨rfl,⟨nd,rfl⟩⟩))
           go_roundg k2
           case measure=>have:=Z.out;have:=ad.out;omega
           case rel=>exact⟨(wrap64 (z+1)),eS,H',⟨by have:=Z.out;have:=ad.out;omega⟩,⟨oK u⟩,⟨oB G⟩⟩
          ·replace aQ:=Bool.eq_false_iff.mpr aQ;subst aQ;rw[ag (show¬(false=true)by decide)]at H;obtain rfl:=aH H;have co:=cz u 0;have cp:=cz u 1;have cq:=cz u 2;have cQ:=ar u.out 0;have cR:=ar u.out 1;have cS:=ar u.out 2
           go_wp2_with (first|((with_reducible refine aZ (f:=110) rfl ?_);refine gL (some 32) Tryz.func110 #[.slice I F.length K,.int .i64 z] ?_;(with_reducible refine(fD.c k2 _ _ F z t244 _ ?a6 ?a7 Y.out).mono ?_);(case a6=>exact bO U.out);(case a7=>exact O.out);rintro e w' ⟨rfl,⟨nd,rfl⟩⟩;refine⟨_,rfl,?_⟩;have ap:0≤(z:Int):=oD;have az:z<(D.length:Int):=oD;obtain⟨bZ,a1,aM⟩:=Kd.dG ai.out z ap az;cases a1;replace aM:=hW G aM;replace ap:=av ap;replace az:=av az)|(go_at_call 111;(with_reducible refine(cW.c (rd D z) false _ a8.out).mono ?_);rintro e w' ⟨rfl,⟨nd,rfl⟩⟩))
           go_ret;exact⟨eR,oB G⟩
         ·rw[ag c21]at H;exact absurd H (by simp)
        ·rw[ag c20]at H;exact absurd H (by simp)
       ·rw[ag c19]at H;have b4:(z==0)=false:=beq_eq_false_iff_ne.mpr c19;have b5:(z != 0)=true:=bne_iff_ne.mpr c19;by_cases aI:t244≥0
        ·rw[af aI]at H;have b6:decide (0≤t244)=true:=ah aI;clear aI;by_cases aJ:t244<J
         ·rw[af aJ]at H;have b7:decide (t244<J)=true:=ah aJ;clear aJ;by_cases c28:0≤z
          ·rw[af c28]at H;have cf:decide (0≤z)=true:=ah c28;clear c28;by_cases aR:z<(D.length:Int)
           ·rw[af aR]at H;have cg:decide (z<(D.length:Int))=true:=ah aR;clear aR;replace H:=aD H;obtain⟨t248,bc,H⟩:=H
            (try dsimp only at H)
            have a_:=A_ bc;clear bc;by_cases c31:t248=true
            ·subst c31;rw[af rfl]at H;have H':=A_ H;clear H;have cr:=cz u 0;have ct:=cz u 1;have cv:=cz u 2;have cT:=ar u.out 0;have cU:=ar u.out 1;have cV:=ar u.out 2
             go_wp2_with (first|((with_reducible refine aZ (f:=110) rfl ?_);refine gL (some 32) Tryz.func110 #[.slice I F.length K,.int .i64 z] ?_;(with_reducible refine(fD.c k2 _ _ F z t244 _ ?a6 ?a7 Y.out).mono ?_);(case a6=>exact bO U.out);(case a7=>exact O.out);rintro e w' ⟨rfl,⟨nd,rfl⟩⟩;refine⟨_,rfl,?_⟩;have aq:0≤(z:Int):=oD;have aB:z<(D.length:Int):=oD;obtain⟨b0,a2,aN⟩:=Kd.dG ai.out z aq aB;cases a2;replace aN:=hW G aN;replace aq:=av aq;replace aB:=av aB)|(go_at_call 111;(with_reducible refine(cW.c (rd D z) true _ a_.out).mono ?_);rintro e w' ⟨rfl,⟨nd,rfl⟩⟩))
             go_roundg k2
             case measure=>have:=Z.out;have:=ad.out;omega
             case rel=>exact⟨(wrap64 (z+1)),eS,H',⟨by have:=Z.out;have:=ad.out;omega⟩,⟨oK u⟩,⟨oB G⟩⟩
            ·replace c31:=Bool.eq_false_iff.mpr c31;subst c31;rw[ag (show¬(false=true)by decide)]at H;obtain rfl:=aH H;have cw:=cz u 0;have cx:=cz u 1;have cy:=cz u 2;have cX:=ar u.out 0;have cY:=ar u.out 1;have cZ:=ar u.out 2
             go_wp2_with (first|((with_reducible refine aZ (f:=110) rfl ?_);refine gL (some 32) Tryz.func110 #[.slice I F.length K,.int .i64 z] ?_;(with_reducible refine(fD.c k2 _ _ F z t244 _ ?a6 ?a7 Y.out).mono ?_);(case a6=>exact bO U.out);(case a7=>exact O.out);rintro e w' ⟨rfl,⟨nd,rfl⟩⟩;refine⟨_,rfl,?_⟩;have aq:0≤(z:Int):=oD;have aB:z<(D.length:Int):=oD;obtain⟨b0,a2,aN⟩:=Kd.dG ai.out z aq aB;cases a2;replace aN:=hW G aN;replace aq:=av aq;replace aB:=av aB)|(go_at_call 111;(with_reducible refine(cW.c (rd D z) false _ a_.out).mono ?_);rintro e w' ⟨rfl,⟨nd,rfl⟩⟩))
             go_ret;exact⟨eR,oB G⟩
           ·rw[ag aR]at H;exact absurd H (by simp)
          ·rw[ag c28]at H;exact absurd H (by simp)
         ·rw[ag aJ]at H;have b7:decide (t244<J)=false:=ay aJ;clear aJ;by_cases aS:0≤z
          ·rw[af aS]at H;have ch:decide (0≤z)=true:=ah aS;clear aS;by_cases aT:z<(D.length:Int)
           ·rw[af aT]at H;have ci:decide (z<(D.length:Int))=true:=ah aT;clear aT;by_cases al:(rd D z)=0
            ·rw[af al]at H;have b8:((rd D z)==0)=true:=beq_iff_eq.mpr al;have b9:((rd D z) != 0)=false:=bne_eq_false_iff_eq.mpr al;clear al;have H':=A_ H;clear H;have cA:=cz u 0;have cB:=cz u 1;have cC:=cz u 2;have c0:=ar u.out 0;have c3:=ar u.out 1;have c4:=ar u.out 2
             go_wp2_with (first|((with_reducible refine aZ (f:=110) rfl ?_);refine gL (some 32) Tryz.func110 #[.slice I F.length K,.int .i64 z] ?_;(with_reducible refine(fD.c k2 _ _ F z t244 _ ?a6 ?a7 Y.out).mono ?_);(case a6=>exact bO U.out);(case a7=>exact O.out);rintro e w' ⟨rfl,⟨nd,rfl⟩⟩;refine⟨_,rfl,?_⟩;have au:0≤(z:Int):=oD;have aE:z<(D.length:Int):=oD;obtain⟨b1,a3,aO⟩:=Kd.dG ai.out z au aE;cases a3;replace aO:=hW G aO;replace au:=av au;replace aE:=av aE))
             go_roundg k2
             case measure=>have:=Z.out;have:=ad.out;omega
             case rel=>exact⟨(wrap64 (z+1)),eS,H',⟨by have:=Z.out;have:=ad.out;omega⟩,⟨oK u⟩,⟨oB G⟩⟩
            ·rw[ag al]at H;have b8:((rd D z)==0)=false:=beq_eq_false_iff_ne.mpr al;have b9:((rd D z) != 0)=true:=bne_iff_ne.mpr al;obtain rfl:=aH H;have cD:=cz u 0;have cE:=cz u 1;have cF:=cz u 2;have c6:=ar u.out 0;have c8:=ar u.out 1;have c9:=ar u.out 2
             go_wp2_with (first|((with_reducible refine aZ (f:=110) rfl ?_);refine gL (some 32) Tryz.func110 #[.slice I F.length K,.int .i64 z] ?_;(with_reducible refine(fD.c k2 _ _ F z t244 _ ?a6 ?a7 Y.out).mono ?_);(case a6=>exact bO U.out);(case a7=>exact O.out);rintro e w' ⟨rfl,⟨nd,rfl⟩⟩;refine⟨_,rfl,?_⟩;have au:0≤(z:Int):=oD;have aE:z<(D.length:Int):=oD;obtain⟨b1,a3,aO⟩:=Kd.dG ai.out z au aE;cases a3;replace aO:=hW G aO;replace au:=av au;replace aE:=av aE))
             go_ret;exact⟨eR,oB G⟩
           ·rw[ag aT]at H;exact absurd H (by simp)
          ·rw[ag aS]at H;exact absurd H (by simp)
        ·rw[ag aI]at H;have b6:decide (0≤t244)=false:=ay aI;clear aI;by_cases aU:0≤z
         ·rw[af aU]at H;have cj:decide (0≤z)=true:=ah aU;clear aU;by_cases c40:z<(D.length:Int)
          ·rw[af c40]at H;have ck:decide (z<(D.length:Int))=true:=ah c40;clear c40;by_cases am:(rd D z)=0
           ·rw[af am]at H;have b_:((rd D z)==0)=true:=beq_iff_eq.mpr am;have b':((rd D z) != 0)=false:=bne_eq_false_iff_eq.mpr am;clear am;have H':=A_ H;clear H;have cG:=cz u 0;have cH:=cz u 1;have cI:=cz u 2;have c_:=ar u.out 0;have c':=ar u.out 1;have da:=ar u.out 2
            go_wp2_with (first|((with_reducible refine aZ (f:=110) rfl ?_);refine gL (some 32) Tryz.func110 #[.slice I F.length K,.int .i64 z] ?_;(with_reducible refine(fD.c k2 _ _ F z t244 _ ?a6 ?a7 Y.out).mono ?_);(case a6=>exact bO U.out);(case a7=>exact O.out);rintro e w' ⟨rfl,⟨nd,rfl⟩⟩;refine⟨_,rfl,?_⟩;have aw:0≤(z:Int):=oD;have aF:z<(D.length:Int):=oD;obtain⟨b2,a4,aP⟩:=Kd.dG ai.out z aw aF;cases a4;replace aP:=hW G aP;replace aw:=av aw;replace aF:=av aF))
            go_roundg k2
            case measure=>have:=Z.out;have:=ad.out;omega
            case rel=>exact⟨(wrap64 (z+1)),eS,H',⟨by have:=Z.out;have:=ad.out;omega⟩,⟨oK u⟩,⟨oB G⟩⟩
           ·rw[ag am]at H;have b_:((rd D z)==0)=false:=beq_eq_false_iff_ne.mpr am;have b':((rd D z) != 0)=true:=bne_iff_ne.mpr am;obtain rfl:=aH H;have cJ:=cz u 0;have cL:=cz u 1;have cM:=cz u 2;have db:=ar u.out 0;have dc:=ar u.out 1;have dd:=ar u.out 2
            go_wp2_with (first|((with_reducible refine aZ (f:=110) rfl ?_);refine gL (some 32) Tryz.func110 #[.slice I F.length K,.int .i64 z] ?_;(with_reducible refine(fD.c k2 _ _ F z t244 _ ?a6 ?a7 Y.out).mono ?_);(case a6=>exact bO U.out);(case a7=>exact O.out);rintro e w' ⟨rfl,⟨nd,rfl⟩⟩;refine⟨_,rfl,?_⟩;have aw:0≤(z:Int):=oD;have aF:z<(D.length:Int):=oD;obtain⟨b2,a4,aP⟩:=Kd.dG ai.out z aw aF;cases a4;replace aP:=hW G aP;replace aw:=av aw;replace aF:=av aF))
            go_ret;exact⟨eR,oB G⟩
          ·rw[ag c40]at H;exact absurd H (by simp)
         ·rw[ag aU]at H;exact absurd H (by simp)
      ·rw[ag c17]at H;have b3:decide (z<12)=false:=ay c17;clear c17;obtain rfl:=aH H;go_wp2;go_ret;exact⟨eR,oB G⟩
def nD.f (a0:Int) (a1:Int):Option (Int):=(cW.f a0).bind fun u=>(if u=true then((cu.f a1 (-10) 40).bind fun z=>(if z=true then(some (wrap64 (Int.tdiv (wrap64 (a0*(wrap64 (1000+(wrap64 (2*(wrap64 (a1-15)))))))) 1000)))else(some 0)))else(some 0))
theorem nD.c (a0:Int) (a1:Int) (r:Int) (w:World) (h:nD.f a0 a1=some r):
  Calls Tryz.prog 119 #[.int .i64 a0,.int .i64 a1] w fun e w'=>e= .returned (.int .i64 r)∧bD w w':=by
 have H:((cW.f a0).bind fun z=>(if z=true then((cu.f a1 (-10) 40).bind fun D=>(if D=true then(some (wrap64 (Int.tdiv (wrap64 (a0*(wrap64 (1000+(wrap64 (2*(wrap64 (a1-15)))))))) 1000)))else(some 0)))else(some 0)))=some r:=h;clear h;replace H:=aD H;obtain⟨z,F,H⟩:=H
 (try dsimp only at H)
 have u:=A_ F;clear F;by_cases c4:z=true
 ·subst c4;rw[af rfl]at H;replace H:=aD H;obtain⟨D,I,H⟩:=H
  (try dsimp only at H)
  have G:=A_ I;clear I;by_cases c6:D=true
  ·subst c6;rw[af rfl]at H;obtain rfl:=aH H;go_enter Tryz.func119,Tryz.ntmps119
   go_wp2_with (first|((with_reducible refine aZ (f:=111) rfl ?_);refine gL (some 6) Tryz.func111 #[.int .i64 a0] ?_;(with_reducible refine(cW.c a0 true _ u.out).mono ?_);rintro e w' ⟨rfl,⟨nd,rfl⟩⟩;refine⟨_,rfl,?_⟩)|(go_at_call 72;(with_reducible refine(cu.c a1 (-10) 40 true _ G.out).mono ?_);rintro e w' ⟨rfl,⟨nd,rfl⟩⟩))
   go_ret;exact⟨eS,by repeat(first|exact bD.refl _|apply bD.step)⟩
  ·replace c6:=Bool.eq_false_iff.mpr c6;subst c6;rw[ag (show¬(false=true)by decide)]at H;obtain rfl:=aH H;go_enter Tryz.func119,Tryz.ntmps119
   go_wp2_with (first|((with_reducible refine aZ (f:=111) rfl ?_);refine gL (some 6) Tryz.func111 #[.int .i64 a0] ?_;(with_reducible refine(cW.c a0 true _ u.out).mono ?_);rintro e w' ⟨rfl,⟨nd,rfl⟩⟩;refine⟨_,rfl,?_⟩)|(go_at_call 72;(with_reducible refine(cu.c a1 (-10) 40 false _ G.out).mono ?_);rintro e w' ⟨rfl,⟨nd,rfl⟩⟩))
   go_ret;exact⟨eS,by repeat(first|exact bD.refl _|apply bD.step)⟩
 ·replace c4:=Bool.eq_false_iff.mpr c4;subst c4;rw[ag (show¬(false=true)by decide)]at H;obtain rfl:=aH H;go_enter Tryz.func119,Tryz.ntmps119
  go_wp2_with (first|((with_reducible refine aZ (f:=111) rfl ?_);refine gL (some 6) Tryz.func111 #[.int .i64 a0] ?_;(with_reducible refine(cW.c a0 false _ u.out).mono ?_);rintro e w' ⟨rfl,⟨nd,rfl⟩⟩;refine⟨_,rfl,?_⟩))
  go_ret;exact⟨eS,by repeat(first|exact bD.refl _|apply bD.step)⟩
def kj.f (a0:Bool):Option (Int):=if a0=true then(some 1)else(some 0)
theorem kj.c (a0:Bool) (r:Int) (w:World) (h:kj.f a0=some r):
  Calls Tryz.prog 81 #[.bool a0] w fun e w'=>e= .returned (.int .i64 r)∧bD w w':=by
 have H:(if a0=true then(some 1)else(some 0))=some r:=h;clear h;by_cases c2:a0=true
 ·subst c2;rw[af rfl]at H;obtain rfl:=aH H;go_enter Tryz.func81,Tryz.ntmps81;go_wp2;go_ret;exact⟨eS,by repeat(first|exact bD.refl _|apply bD.step)⟩
 ·replace c2:=Bool.eq_false_iff.mpr c2;subst c2;rw[ag (show¬(false=true)by decide)]at H;obtain rfl:=aH H;go_enter Tryz.func81,Tryz.ntmps81;go_wp2;go_ret;exact⟨eS,by repeat(first|exact bD.refl _|apply bD.step)⟩
def lA.f (a0:Int):Option (Int):=if a0<10 then(some ((wrap64 (48+a0))%256))else(some ((wrap64 ((wrap64 (97+a0))-10))%256))
theorem lA.c (a0:Int) (r:Int) (w:World) (h:lA.f a0=some r):
  Calls Tryz.prog 83 #[.int .i64 a0] w fun e w'=>e= .returned (.int .u8 r)∧bD w w':=by
 have H:(if a0<10 then(some ((wrap64 (48+a0))%256))else(some ((wrap64 ((wrap64 (97+a0))-10))%256)))=some r:=h;clear h;by_cases c2:a0<10
 ·rw[af c2]at H;have u:decide (a0<10)=true:=ah c2;clear c2;obtain rfl:=aH H;go_enter Tryz.func83,Tryz.ntmps83;go_wp2;go_ret;exact⟨eS,by repeat(first|exact bD.refl _|apply bD.step)⟩
 ·rw[ag c2]at H;have u:decide (a0<10)=false:=ay c2;clear c2;obtain rfl:=aH H;go_enter Tryz.func83,Tryz.ntmps83;go_wp2;go_ret;exact⟨eS,by repeat(first|exact bD.refl _|apply bD.step)⟩
def cY.l0:Nat→Int→Bool→ByteArray→Option (ByteArray)
 |0,_,_,_=>none
 |k+1,x0,x3,u=>if x0=0 then(if x3=true then(if 1+u.size≤9223372036854775807 then(some ((⟨#[45]⟩:ByteArray)++u))else(none))else(some u))else(if(Int.tmod x0 10)<0 then((lA.f (wrap64 (-(Int.tmod x0 10)))).bind fun F=>((some (([F]:List Int):List Int)).bind fun z=>(if(strOfNums z).size+u.size≤9223372036854775807 then(cY.l0 k (wrap64 (Int.tdiv x0 10)) x3 ((strOfNums z)++u))else(none))))else((lA.f (Int.tmod x0 10)).bind fun G=>((some (([G]:List Int):List Int)).bind fun D=>(if(strOfNums D).size+u.size≤9223372036854775807 then(cY.l0 k (wrap64 (Int.tdiv x0 10)) x3 ((strOfNums D)++u))else(none)))))
def cY.f (k:Nat) (a0:Int):Option (ByteArray):=if a0=0 then(some (⟨#[48]⟩:ByteArray))else(cY.l0 k a0 (decide (a0<0)) (⟨#[]⟩:ByteArray))
theorem cY.c (k:Nat) (a0:Int) (r:ByteArray) (w:World) (h:cY.f k a0=some r):
  Calls Tryz.prog 35 #[.int .i64 a0] w fun e w'=>e= .returned (.string r)∧Below w.heap.size w w':=by
 have D:=A_ (Below.refl w.heap.size w);have H:(if a0=0 then(some (⟨#[48]⟩:ByteArray))else(cY.l0 k a0 (decide (a0<0)) (⟨#[]⟩:ByteArray)))=some r:=h;clear h;by_cases c2:a0=0
 ·rw[af c2]at H;have au:(a0==0)=true:=beq_iff_eq.mpr c2;have aw:(a0 != 0)=false:=bne_eq_false_iff_eq.mpr c2;clear c2;obtain rfl:=aH H;go_enter Tryz.func35,Tryz.ntmps35;go_wp2;go_ret;exact⟨eR,oB D⟩
 ·rw[ag c2]at H;have au:(a0==0)=false:=beq_eq_false_iff_ne.mpr c2;have aw:(a0 != 0)=true:=bne_iff_ne.mpr c2;obtain⟨O,az⟩:∃b,decide (a0<0)=b:=⟨_,rfl⟩;rw[az]at H;have H':=A_ H;clear H;go_enter Tryz.func35,Tryz.ntmps35;go_wp2
  go_loopg [0,4] k (fun aB v0 v4 w'=>∃(u:Int) (z:ByteArray),v0= .int .i64 u∧v4= .string z∧ae (cY.l0 aB u O z=some r)∧ae (aB≤k)∧ae (Below w.heap.size w w'))
  case atStart=>exact⟨(a0),((⟨#[]⟩:ByteArray)),eS,eS,H',⟨Nat.le_refl _⟩,⟨oB D⟩⟩
  case round=>
   clear H'
   try clear az
   try clear c2
   try clear au
   try clear aw
   try clear p2
   obtain⟨u,z,rfl,rfl,aj,ai,D⟩:=hrel;cases gk with
   |zero=>exact absurd aj.out (by simp[cY.l0])
   |succ k1=>
    have H:=aj.out;clear aj;simp only[cY.l0]at H;by_cases c3:u=0
    ·rw[af c3]at H;have aL:(u==0)=true:=beq_iff_eq.mpr c3;have aM:(u != 0)=false:=bne_eq_false_iff_eq.mpr c3;clear c3;by_cases c4:O=true
     ·rw[af c4]at H;subst c4;by_cases c5:1+z.size≤9223372036854775807
      ·rw[af c5]at H;have aR:=av c5;have aS:decide (1+z.size≤9223372036854775807)=true:=ah c5
       try have aT:(9223372036854775807<1+z.size)=False:=d_ (Nat.not_lt.2 c5)
       obtain rfl:=aH H;go_wp2;go_ret;exact⟨eR,oB D⟩
      ·rw[ag c5]at H;exact absurd H (by simp)
     ·rw[ag c4]at H;obtain rfl:O=false:=(by simpa using c4);obtain rfl:=aH H;go_wp2;go_ret;exact⟨eR,oB D⟩
    ·rw[ag c3]at H;have aL:(u==0)=false:=beq_eq_false_iff_ne.mpr c3;have aM:(u != 0)=true:=bne_iff_ne.mpr c3;by_cases c6:(Int.tmod u 10)<0
     ·rw[af c6]at H;have aN:decide ((Int.tmod u 10)<0)=true:=ah c6;clear c6;replace H:=aD H;obtain⟨G,ap,H⟩:=H
      (try dsimp only at H)
      have aF:=A_ ap;clear ap;obtain⟨J,X⟩:∃am:List Int,am=(([G]:List Int)):=⟨_,rfl⟩;replace H:(if(strOfNums J).size+z.size≤9223372036854775807 then(cY.l0 k1 (wrap64 (Int.tdiv u 10)) O ((strOfNums J)++z))else(none))=some r:=by first|(rw[X];with_reducible exact H)|(have F:=(aG _ _).symm.trans H;rw[X];with_reducible exact F)|(have F:=(aG _ _).symm.trans H;with_reducible exact F)|with_reducible exact H|(rw[X];exact H)|exact H
      have aq:=A_ X;clear X;by_cases c8:(strOfNums J).size+z.size≤9223372036854775807
      ·rw[af c8]at H;have aU:=av c8;have aV:decide ((strOfNums J).size+z.size≤9223372036854775807)=true:=ah c8
       try have aW:(9223372036854775807<(strOfNums J).size+z.size)=False:=d_ (Nat.not_lt.2 c8)
       have H':=A_ H;clear H
       go_wp2_with (first|((with_reducible refine aZ (f:=83) rfl ?_);refine gL (some 19) Tryz.func83 #[.int .i64 (wrap64 (-(Int.tmod u 10)))] ?_;(with_reducible refine(lA.c (wrap64 (-(Int.tmod u 10))) G _ aF.out).mono ?_);rintro e w' ⟨rfl,⟨nd,rfl⟩⟩;refine⟨_,rfl,?_⟩)|((with_reducible refine ax (N:=20) rfl ?_);refine Kd.cx (Kd.int .u8) _ 5 ?hg (N:=20) ?hd (xs:=([G]:List Int)) (inner:=[.int .u8 G]) (ok:=fun _=>True) (bB:=fun _=>True) ?hr ?hp (fun _ hk=>hk) trivial (Below.refl _ _) (Nat.le_refl _) (by simp) ?_;(case hd=>rfl);(case hg=>rfl);(case hr=>first|(go_simp;done)|(go_simp;rfl));(case hp=>exact(aI.one (show Kd.M (Kd.int .u8) _ _ _ G [.int .u8 G]from rfl) (aI.none _ _)));intro a1 a4 U hb ak al;clear ak al;(first|rw[←aq.out]at U|(simp only[Int.reduceToNat]at U;rw[←aq.out]at U));have Z:=A_ (Kd.bE U (aA (oB D)));have ad:=A_ (aC (oB D) hb);clear D;have aJ:=Z;have D:=ad;clear Z ad hb U;have aX:=r8 (P:=Tryz.prog) Tryz.underlying22 Tryz.underlying5 Tryz.underlying9 (Kd.nu aJ.out)))
       go_roundg k1
       case measure=>have:=ai.out;omega
       case rel=>exact⟨(wrap64 (Int.tdiv u 10)),((strOfNums J)++z),eS,eS,H',⟨by have:=ai.out;omega⟩,⟨oB D⟩⟩
      ·rw[ag c8]at H;exact absurd H (by simp)
     ·rw[ag c6]at H;have aN:decide ((Int.tmod u 10)<0)=false:=ay c6;clear c6;replace H:=aD H;obtain⟨I,ao,H⟩:=H
      (try dsimp only at H)
      have aE:=A_ ao;clear ao;obtain⟨K,Y⟩:∃am:List Int,am=(([I]:List Int)):=⟨_,rfl⟩;replace H:(if(strOfNums K).size+z.size≤9223372036854775807 then(cY.l0 k1 (wrap64 (Int.tdiv u 10)) O ((strOfNums K)++z))else(none))=some r:=by first|(rw[Y];with_reducible exact H)|(have F:=(aG _ _).symm.trans H;rw[Y];with_reducible exact F)|(have F:=(aG _ _).symm.trans H;with_reducible exact F)|with_reducible exact H|(rw[Y];exact H)|exact H
      have ar:=A_ Y;clear Y;by_cases c13:(strOfNums K).size+z.size≤9223372036854775807
      ·rw[af c13]at H;have aO:=av c13;have aP:decide ((strOfNums K).size+z.size≤9223372036854775807)=true:=ah c13
       try have aQ:(9223372036854775807<(strOfNums K).size+z.size)=False:=d_ (Nat.not_lt.2 c13)
       have H':=A_ H;clear H
       go_wp2_with (first|((with_reducible refine aZ (f:=83) rfl ?_);refine gL (some 19) Tryz.func83 #[.int .i64 (Int.tmod u 10)] ?_;(with_reducible refine(lA.c (Int.tmod u 10) I _ aE.out).mono ?_);rintro e w' ⟨rfl,⟨nd,rfl⟩⟩;refine⟨_,rfl,?_⟩)|((with_reducible refine ax (N:=20) rfl ?_);refine Kd.cx (Kd.int .u8) _ 5 ?hg (N:=20) ?hd (xs:=([I]:List Int)) (inner:=[.int .u8 I]) (ok:=fun _=>True) (bB:=fun _=>True) ?hr ?hp (fun _ hk=>hk) trivial (Below.refl _ _) (Nat.le_refl _) (by simp) ?_;(case hd=>rfl);(case hg=>rfl);(case hr=>first|(go_simp;done)|(go_simp;rfl));(case hp=>exact(aI.one (show Kd.M (Kd.int .u8) _ _ _ I [.int .u8 I]from rfl) (aI.none _ _)));intro a2 a3 V hb ak al;clear ak al;(first|rw[←ar.out]at V|(simp only[Int.reduceToNat]at V;rw[←ar.out]at V));have Z:=A_ (Kd.bE V (aA (oB D)));have ad:=A_ (aC (oB D) hb);clear D;have aK:=Z;have D:=ad;clear Z ad hb V;have aY:=r8 (P:=Tryz.prog) Tryz.underlying22 Tryz.underlying5 Tryz.underlying9 (Kd.nu aK.out)))
       go_roundg k1
       case measure=>have:=ai.out;omega
       case rel=>exact⟨(wrap64 (Int.tdiv u 10)),((strOfNums K)++z),eS,eS,H',⟨by have:=ai.out;omega⟩,⟨oB D⟩⟩
      ·rw[ag c13]at H;exact absurd H (by simp)
def fN.l0:Nat→List Int→ByteArray→Int→Option (ByteArray)
 |0,_,_,_=>none
 |k+1,x0,x3,u=>if u<(x0.length:Int)then(if u>0 then(if x3.size+1≤9223372036854775807 then(if 0≤u then((cY.f k (rd x0 u)).bind fun z=>(if(x3++(⟨#[32]⟩:ByteArray)).size+z.size≤9223372036854775807 then(fN.l0 k x0 ((x3++(⟨#[32]⟩:ByteArray))++z) (wrap64 (u+1)))else(none)))else(none))else(none))else(if 0≤u then((cY.f k (rd x0 u)).bind fun D=>(if x3.size+D.size≤9223372036854775807 then(fN.l0 k x0 (x3++D) (wrap64 (u+1)))else(none)))else(none)))else(some x3)
def fN.f (k:Nat) (l0:List Int):Option (ByteArray):=fN.l0 k l0 (⟨#[]⟩:ByteArray) 0
theorem fN.c (k:Nat) (A0:Option Addr) (c0:Nat) (l0:List Int) (r:ByteArray) (w:World) (ai:Kd.C (Kd.int .i64) w A0 l0.length l0) (hc0:l0.length≤c0) (h:fN.f k l0=some r):
  Calls Tryz.prog 34 #[.slice A0 l0.length c0] w fun e w'=>e= .returned (.string r)∧Below w.heap.size w w':=by
 have ad:=A_ ai;have aw:=A_ hc0;clear ai hc0;have D:=A_ (Below.refl w.heap.size w);have H:(fN.l0 k l0 (⟨#[]⟩:ByteArray) 0)=some r:=h;clear h;have H':=A_ H;clear H;go_enter Tryz.func34,Tryz.ntmps34;go_wp2
 go_loopg [3,4] k (fun al v3 v4 w'=>∃(z:ByteArray) (u:Int),v3= .string z∧v4= .int .i64 u∧ae (fN.l0 al l0 z u=some r)∧ae (al≤k)∧ae (Below w.heap.size w w'))
 case atStart=>exact⟨((⟨#[]⟩:ByteArray)),(0),eS,eS,H',⟨Nat.le_refl _⟩,⟨oB D⟩⟩
 case round=>
  clear H';obtain⟨z,u,rfl,rfl,K,J,D⟩:=hrel;cases gk with
  |zero=>exact absurd K.out (by simp[fN.l0])
  |succ k1=>
   have H:=K.out;clear K;simp only[fN.l0]at H;by_cases c2:u<(l0.length:Int)
   ·rw[af c2]at H;have ap:decide (u<(l0.length:Int))=true:=ah c2;clear c2;by_cases c3:u>0
    ·rw[af c3]at H;have aq:decide (0<u)=true:=ah c3;clear c3;by_cases c4:z.size+1≤9223372036854775807
     ·rw[af c4]at H;have aF:=av c4;have aI:decide (z.size+1≤9223372036854775807)=true:=ah c4
      try have aJ:(9223372036854775807<z.size+1)=False:=d_ (Nat.not_lt.2 c4)
      by_cases c5:0≤u
      ·rw[af c5]at H;have aK:decide (0≤u)=true:=ah c5;clear c5;replace H:=aD H;obtain⟨F,Z,H⟩:=H
       (try dsimp only at H)
       have ao:=A_ Z;clear Z;by_cases c7:(z++(⟨#[32]⟩:ByteArray)).size+F.size≤9223372036854775807
       ·rw[af c7]at H;have aL:=av c7;have aM:decide ((z++(⟨#[32]⟩:ByteArray)).size+F.size≤9223372036854775807)=true:=ah c7
        try have aN:(9223372036854775807<(z++(⟨#[32]⟩:ByteArray)).size+F.size)=False:=d_ (Nat.not_lt.2 c7)
        have aO:(9223372036854775807<z.size+1+F.size)=False:=(by have:=c7;rw[ByteArray.size_append]at this;exact d_ (Nat.not_lt.2 this));have aP:(z.size+1+F.size≤9223372036854775807)=True:=(by have:=c7;rw[ByteArray.size_append]at this;exact av this);have H':=A_ H;clear H;have O:0≤(u:Int):=oD;have V:u<(l0.length:Int):=oD;obtain⟨ax,ar,aj⟩:=Kd.dG ad.out u O V;cases ar;replace aj:=hW D aj;replace O:=av O;replace V:=av V
        go_wp2_with (first|((with_reducible refine aZ (f:=35) rfl ?_);refine gL (some 20) Tryz.func35 #[.int .i64 (rd l0 u)] ?_;(with_reducible refine(cY.c k1 (rd l0 u) F _ ao.out).mono ?_);rintro e aS ⟨rfl,hb⟩;refine⟨_,rfl,?_⟩;have G:=A_ (aC (oB D) hb);clear D;have D:=G;clear G;(try clear hb);(try clear hb2);(try clear hk);(try clear hi)))
        go_roundg k1
        case measure=>have:=J.out;omega
        case rel=>exact⟨((z++(⟨#[32]⟩:ByteArray))++F),(wrap64 (u+1)),eS,eS,H',⟨by have:=J.out;omega⟩,⟨oB D⟩⟩
       ·rw[ag c7]at H;exact absurd H (by simp)
      ·rw[ag c5]at H;exact absurd H (by simp)
     ·rw[ag c4]at H;exact absurd H (by simp)
    ·rw[ag c3]at H;have aq:decide (0<u)=false:=ay c3;clear c3;by_cases c9:0≤u
     ·rw[af c9]at H;have aQ:decide (0≤u)=true:=ah c9;clear c9;replace H:=aD H;obtain⟨I,Y,H⟩:=H
      (try dsimp only at H)
      have am:=A_ Y;clear Y;by_cases c11:z.size+I.size≤9223372036854775807
      ·rw[af c11]at H;have aA:=av c11;have aB:decide (z.size+I.size≤9223372036854775807)=true:=ah c11
       try have aE:(9223372036854775807<z.size+I.size)=False:=d_ (Nat.not_lt.2 c11)
       have H':=A_ H;clear H;have U:0≤(u:Int):=oD;have X:u<(l0.length:Int):=oD;obtain⟨az,au,ak⟩:=Kd.dG ad.out u U X;cases au;replace ak:=hW D ak;replace U:=av U;replace X:=av X
       go_wp2_with (first|((with_reducible refine aZ (f:=35) rfl ?_);refine gL (some 20) Tryz.func35 #[.int .i64 (rd l0 u)] ?_;(with_reducible refine(cY.c k1 (rd l0 u) I _ am.out).mono ?_);rintro e aR ⟨rfl,hb⟩;refine⟨_,rfl,?_⟩;have G:=A_ (aC (oB D) hb);clear D;have D:=G;clear G;(try clear hb);(try clear hb2);(try clear hk);(try clear hi)))
       go_roundg k1
       case measure=>have:=J.out;omega
       case rel=>exact⟨(z++I),(wrap64 (u+1)),eS,eS,H',⟨by have:=J.out;omega⟩,⟨oB D⟩⟩
      ·rw[ag c11]at H;exact absurd H (by simp)
     ·rw[ag c9]at H;exact absurd H (by simp)
   ·rw[ag c2]at H;have ap:decide (u<(l0.length:Int))=false:=ay c2;clear c2;obtain rfl:=aH H;go_wp2;go_ret;exact⟨eR,oB D⟩
end P

end Go.Proofs.YtnjfiaekdcekgaaGreatDoor
