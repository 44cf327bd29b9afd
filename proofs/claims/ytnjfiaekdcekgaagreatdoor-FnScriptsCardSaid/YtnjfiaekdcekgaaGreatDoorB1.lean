/- What functions of the program come to (f), that their calls come to just this (calls), and the plain laws over lists and numbers. No condition but those of the given row. -/
import Derived.Test.YtnjfiaekdcekgaaGreatDoorB0
import Derived.Shelf.Strconv.ErrVarAll
import Derived.Shelf.Strings.SplitShaped
import Derived.Test.YtnjfiaekdcekgaaGreatDoorProg
import Derived.Shelf.GgSortFunc.Lays
import Derived.Shelf.Strconv.Itoa3
import Derived.Shelf.Strings.BuilderK
import Derived.Shelf.Strings.OnBuilder
import Derived.Shelf.SlSortFuncK.WholeK
import Derived.Shelf.GgSortFunc.Tiny
import Derived.Deep.Slices
import Derived.ChangeArms
import Derived.ChangeSame
import Derived.Below
import Derived.Deep.Draws
import Derived.Deep.AppendLies
import Derived.Maps.AppendAt
import Derived.OwnWalk
import Derived.Laws.BytesArg
import Derived.Laws.MakeOwn
import Derived.Laws.OwnMore
import Derived.Deep.OwnRows
import Derived.Tactics
import Derived.Lib.ConvBytes
import Derived.Laws.Slices
import Derived.WalkKit
import Derived.KernelRfl
import Derived.RowKit3
import Derived.Deep.LoopGhost
import Derived.Deep.QuietTactic
import Derived.BigQuiet
import Derived.WideLaws
import Derived.Deep.DeepCutAuto
import Derived.Deep.CutBlock
import Derived.Deep.RegionHeld3
import Derived.Laws.Rows
import Derived.Lib.AppendStr
import Derived.ArgAppend
import Derived.Laws.IdiomCopy
import Derived.OrdersHeld
import Derived.Laws.BitsLemmas
import Derived.RowKit
set_option linter.unusedVariables false
set_option linter.unusedSimpArgs false
namespace Go.Proofs.YtnjfiaekdcekgaaGreatDoor.P
open Go.Shelf
def Wh:Go.Shelf.Ren:=⟨fun|146=>39|221=>85|268=>122|138=>123|143=>124|195=>137|197=>138|218=>139|219=>140|260=>157|217=>158|225=>159|224=>160|267=>161|266=>175|314=>176|n=>n,fun|9=>9|31=>38|3=>3|4=>4|0=>0|105=>145|21=>21|5=>5|46=>115|119=>185|139=>188|138=>187|146=>189|51=>172|n=>n,fun|1=>0|3=>4|4=>5|n=>n⟩
theorem Wf:Go.Proofs.LaysM.n146 Tryz.prog Wh:={
  mixed:=by kernel_rfl
  f138:=Tryz.func123.trans (congrArg some (by kernel_rfl))
  f143:=Tryz.func124.trans (congrArg some (by kernel_rfl))
  f146:=Tryz.func39.trans (congrArg some (by kernel_rfl))
  f195:=Tryz.func137.trans (congrArg some (by kernel_rfl))
  f197:=Tryz.func138.trans (congrArg some (by kernel_rfl))
  f217:=Tryz.func158.trans (congrArg some (by kernel_rfl))
  f218:=Tryz.func139.trans (congrArg some (by kernel_rfl))
  f219:=Tryz.func140.trans (congrArg some (by kernel_rfl))
  f221:=Tryz.func85.trans (congrArg some (by kernel_rfl))
  f224:=Tryz.func160.trans (congrArg some (by kernel_rfl))
  f225:=Tryz.func159.trans (congrArg some (by kernel_rfl))
  f260:=Tryz.func157.trans (congrArg some (by kernel_rfl))
  f266:=Tryz.func175.trans (congrArg some (by kernel_rfl))
  f267:=Tryz.func161.trans (congrArg some (by kernel_rfl))
  f268:=Tryz.func122.trans (congrArg some (by kernel_rfl))
  f314:=Tryz.func176.trans (congrArg some (by kernel_rfl))
  t0:=Tryz.underlying0
  a0:=Tryz.isAgg0
  z0:=Tryz.sizeOf0
  v0:=Tryz.zeroValue0
  t3:=Tryz.underlying3
  a3:=Tryz.isAgg3
  z3:=Tryz.sizeOf3
  v3:=Tryz.zeroValue3
  t4:=Tryz.underlying4
  a4:=Tryz.isAgg4
  z4:=Tryz.sizeOf4
  v4:=Tryz.zeroValue4
  t5:=Tryz.underlying5
  a5:=Tryz.isAgg5
  z5:=Tryz.sizeOf5
  v5:=Tryz.zeroValue5
  t9:=Tryz.underlying9
  a9:=Tryz.isAgg9
  z9:=Tryz.sizeOf9
  v9:=Tryz.zeroValue9
  t21:=Tryz.underlying21
  a21:=Tryz.isAgg21
  z21:=Tryz.sizeOf21
  v21:=Tryz.zeroValue21
  t31:=Tryz.underlying38
  a31:=Tryz.isAgg38
  z31:=Tryz.sizeOf38
  v31:=Tryz.zeroValue38
  t46:=Tryz.underlying115
  a46:=Tryz.isAgg115
  z46:=Tryz.sizeOf115
  v46:=Tryz.zeroValue115
  t51:=Tryz.underlying172
  a51:=Tryz.isAgg172
  z51:=Tryz.sizeOf172
  v51:=Tryz.zeroValue172
  t105:=Tryz.underlying145
  a105:=Tryz.isAgg145
  z105:=Tryz.sizeOf145
  v105:=Tryz.zeroValue145
  t119:=Tryz.underlying185
  a119:=Tryz.isAgg185
  z119:=Tryz.sizeOf185
  t138:=Tryz.underlying187
  a138:=Tryz.isAgg187
  z138:=Tryz.sizeOf187
  v138:=Tryz.zeroValue187
  t139:=Tryz.underlying188
  a139:=Tryz.isAgg188
  z139:=Tryz.sizeOf188
  v139:=Tryz.zeroValue188
  t146:=Tryz.underlying189
  a146:=Tryz.isAgg189
  z146:=Tryz.sizeOf189
  v146:=Tryz.zeroValue189
  g1:=by kernel_rfl
  g3:=by kernel_rfl
  g4:=by kernel_rfl
  i0:=by kernel_rfl
  i3:=by kernel_rfl
  i4:=by kernel_rfl
  i5:=by kernel_rfl
  i9:=by kernel_rfl
  i21:=by kernel_rfl
  i31:=by kernel_rfl
  i46:=by kernel_rfl
  i51:=by kernel_rfl
  i105:=by kernel_rfl
  i138:=by kernel_rfl
  i139:=by kernel_rfl
  i146:=by kernel_rfl
  m1:=by kernel_rfl
  s1_3:=fun w h=>Go.Proofs.cell_of_shapedOpen_int (zero:= #[.int .i64 0]) (t:=3) h (of_decide_eq_true (by kernel_rfl)) (by kernel_rfl) rfl (by kernel_rfl) (by kernel_rfl) Tryz.underlying3
  m3:=by kernel_rfl
  m4:=by kernel_rfl}
def aiD:Go.Shelf.Ren:=⟨fun|172=>86|244=>125|245=>126|247=>141|279=>142|280=>143|281=>144|282=>145|287=>162|316=>163|171=>44|205=>164|321=>177|322=>178|243=>88|246=>128|283=>147|284=>148|285=>149|286=>150|129=>166|317=>165|318=>167|319=>168|320=>169|337=>179|338=>180|n=>n,fun|9=>9|3=>3|75=>71|76=>72|4=>4|5=>5|167=>148|37=>22|0=>0|85=>149|2=>2|168=>151|53=>155|175=>165|46=>115|210=>169|127=>104|145=>194|143=>192|21=>21|171=>154|173=>158|212=>171|51=>172|20=>20|213=>173|232=>206|233=>207|80=>74|n=>n,fun|15=>1|16=>2|17=>3|18=>6|19=>7|n=>n⟩
theorem zr:Go.Proofs.LaysC.n172 Tryz.prog aiD:={
  mixed:=by kernel_rfl
  f129:=Tryz.func166.trans (congrArg some (by kernel_rfl))
  f171:=Tryz.func44.trans (congrArg some (by kernel_rfl))
  f172:=Tryz.func86.trans (congrArg some (by kernel_rfl))
  f205:=Tryz.func164.trans (congrArg some (by kernel_rfl))
  f243:=Tryz.func88.trans (congrArg some (by kernel_rfl))
  f244:=Tryz.func125.trans (congrArg some (by kernel_rfl))
  f245:=Tryz.func126.trans (congrArg some (by kernel_rfl))
  f246:=Tryz.func128.trans (congrArg some (by kernel_rfl))
  f247:=Tryz.func141.trans (congrArg some (by kernel_rfl))
  f279:=Tryz.func142.trans (congrArg some (by kernel_rfl))
  f280:=Tryz.func143.trans (congrArg some (by kernel_rfl))
  f281:=Tryz.func144.trans (congrArg some (by kernel_rfl))
  f282:=Tryz.func145.trans (congrArg some (by kernel_rfl))
  f283:=Tryz.func147.trans (congrArg some (by kernel_rfl))
  f284:=Tryz.func148.trans (congrArg some (by kernel_rfl))
  f285:=Tryz.func149.trans (congrArg some (by kernel_rfl))
  f286:=Tryz.func150.trans (congrArg some (by kernel_rfl))
  f287:=Tryz.func162.trans (congrArg some (by kernel_rfl))
  f316:=Tryz.func163.trans (congrArg some (by kernel_rfl))
  f317:=Tryz.func165.trans (congrArg some (by kernel_rfl))
  f318:=Tryz.func167.trans (congrArg some (by kernel_rfl))
  f319:=Tryz.func168.trans (congrArg some (by kernel_rfl))
  f320:=Tryz.func169.trans (congrArg some (by kernel_rfl))
  f321:=Tryz.func177.trans (congrArg some (by kernel_rfl))
  f322:=Tryz.func178.trans (congrArg some (by kernel_rfl))
  f337:=Tryz.func179.trans (congrArg some (by kernel_rfl))
  f338:=Tryz.func180.trans (congrArg some (by kernel_rfl))
  t0:=Tryz.underlying0
  a0:=Tryz.isAgg0
  z0:=Tryz.sizeOf0
  v0:=Tryz.zeroValue0
  t2:=Tryz.underlying2
  a2:=Tryz.isAgg2
  z2:=Tryz.sizeOf2
  v2:=Tryz.zeroValue2
  t3:=Tryz.underlying3
  a3:=Tryz.isAgg3
  z3:=Tryz.sizeOf3
  v3:=Tryz.zeroValue3
  t4:=Tryz.underlying4
  a4:=Tryz.isAgg4
  z4:=Tryz.sizeOf4
  v4:=Tryz.zeroValue4
  t5:=Tryz.underlying5
  a5:=Tryz.isAgg5
  z5:=Tryz.sizeOf5
  v5:=Tryz.zeroValue5
  t9:=Tryz.underlying9
  a9:=Tryz.isAgg9
  z9:=Tryz.sizeOf9
  v9:=Tryz.zeroValue9
  t20:=Tryz.underlying20
  a20:=Tryz.isAgg20
  z20:=Tryz.sizeOf20
  v20:=Tryz.zeroValue20
  t21:=Tryz.underlying21
  a21:=Tryz.isAgg21
  z21:=Tryz.sizeOf21
  v21:=Tryz.zeroValue21
  t37:=Tryz.underlying22
  a37:=Tryz.isAgg22
  z37:=Tryz.sizeOf22
  v37:=Tryz.zeroValue22
  t46:=Tryz.underlying115
  a46:=Tryz.isAgg115
  z46:=Tryz.sizeOf115
  v46:=Tryz.zeroValue115
  t51:=Tryz.underlying172
  a51:=Tryz.isAgg172
  z51:=Tryz.sizeOf172
  v51:=Tryz.zeroValue172
  t53:=Tryz.underlying155
  a53:=Tryz.isAgg155
  z53:=Tryz.sizeOf155
  v53:=Tryz.zeroValue155
  t75:=Tryz.underlying71
  a75:=Tryz.isAgg71
  z75:=Tryz.sizeOf71
  v75:=Tryz.zeroValue71
  t76:=Tryz.underlying72
  a76:=Tryz.isAgg72
  z76:=Tryz.sizeOf72
  v76:=Tryz.zeroValue72
  t85:=Tryz.underlying149
  a85:=Tryz.isAgg149
  z85:=Tryz.sizeOf149
  v85:=Tryz.zeroValue149
  t127:=Tryz.underlying104
  a127:=Tryz.isAgg104
  z127:=Tryz.sizeOf104
  v127:=Tryz.zeroValue104
  t143:=Tryz.underlying192
  a143:=Tryz.isAgg192
  z143:=Tryz.sizeOf192
  v143:=Tryz.zeroValue192
  t145:=Tryz.underlying194
  a145:=Tryz.isAgg194
  z145:=Tryz.sizeOf194
  v145:=Tryz.zeroValue194
  t167:=Tryz.underlying148
  a167:=Tryz.isAgg148
  z167:=Tryz.sizeOf148
  v167:=Tryz.zeroValue148
  t168:=Tryz.underlying151
  a168:=Tryz.isAgg151
  z168:=Tryz.sizeOf151
  v168:=Tryz.zeroValue151
  t171:=Tryz.underlying154
  a171:=Tryz.isAgg154
  z171:=Tryz.sizeOf154
  v171:=Tryz.zeroValue154
  t173:=Tryz.underlying158
  a173:=Tryz.isAgg158
  z173:=Tryz.sizeOf158
  v173:=Tryz.zeroValue158
  t175:=Tryz.underlying165
  a175:=Tryz.isAgg165
  z175:=Tryz.sizeOf165
  v175:=Tryz.zeroValue165
  t210:=Tryz.underlying169
  a210:=Tryz.isAgg169
  z210:=Tryz.sizeOf169
  v210:=Tryz.zeroValue169
  t212:=Tryz.underlying171
  a212:=Tryz.isAgg171
  z212:=Tryz.sizeOf171
  v212:=Tryz.zeroValue171
  t213:=Tryz.underlying173
  a213:=Tryz.isAgg173
  z213:=Tryz.sizeOf173
  t232:=Tryz.underlying206
  a232:=Tryz.isAgg206
  z232:=Tryz.sizeOf206
  v232:=Tryz.zeroValue206
  t233:=Tryz.underlying207
  a233:=Tryz.isAgg207
  z233:=Tryz.sizeOf207
  v233:=Tryz.zeroValue207
  g15:=by kernel_rfl
  g16:=by kernel_rfl
  g17:=by kernel_rfl
  g18:=by kernel_rfl
  g19:=by kernel_rfl
  t80:=Tryz.underlying74
  a80:=Tryz.isAgg74
  z80:=Tryz.sizeOf74
  v80:=Tryz.zeroValue74
  i0:=by kernel_rfl
  i2:=by kernel_rfl
  i3:=by kernel_rfl
  i4:=by kernel_rfl
  i5:=by kernel_rfl
  i9:=by kernel_rfl
  i20:=by kernel_rfl
  i21:=by kernel_rfl
  i37:=by kernel_rfl
  i46:=by kernel_rfl
  i51:=by kernel_rfl
  i53:=by kernel_rfl
  i75:=by kernel_rfl
  i76:=by kernel_rfl
  i80:=by kernel_rfl
  i85:=by kernel_rfl
  i127:=by kernel_rfl
  i143:=by kernel_rfl
  i145:=by kernel_rfl
  i167:=by kernel_rfl
  i168:=by kernel_rfl
  i171:=by kernel_rfl
  i173:=by kernel_rfl
  i175:=by kernel_rfl
  i210:=by kernel_rfl
  i212:=by kernel_rfl
  i232:=by kernel_rfl
  i233:=by kernel_rfl
  m15:=by kernel_rfl
  m16:=by kernel_rfl
  m17:=by kernel_rfl
  m18:=by kernel_rfl
  m19:=by kernel_rfl
  c0:=by kernel_rfl
  c2:=by kernel_rfl
  c3:=by kernel_rfl
  c4:=by kernel_rfl
  c5:=by kernel_rfl
  c9:=by kernel_rfl
  c20:=by kernel_rfl
  c21:=by kernel_rfl
  c37:=by kernel_rfl
  c46:=by kernel_rfl
  c51:=by kernel_rfl
  c53:=by kernel_rfl
  c75:=by kernel_rfl
  c76:=by kernel_rfl
  c80:=by kernel_rfl
  c85:=by kernel_rfl
  c127:=by kernel_rfl
  c143:=by kernel_rfl
  c145:=by kernel_rfl
  c167:=by kernel_rfl
  c168:=by kernel_rfl
  c171:=by kernel_rfl
  c173:=by kernel_rfl
  c175:=by kernel_rfl
  c210:=by kernel_rfl
  c212:=by kernel_rfl
  c213:=by kernel_rfl
  c232:=by kernel_rfl
  c233:=by kernel_rfl}
def Jb:Go.Shelf.Ren:=⟨fun|6=>152|10=>170|11=>171|12=>172|13=>173|14=>174|24=>190|25=>166|26=>191|27=>192|28=>193|29=>194|30=>195|31=>196|32=>197|33=>198|34=>199|35=>200|36=>201|37=>202|38=>203|39=>204|n=>n,fun|20=>20|26=>162|35=>177|0=>0|37=>179|3=>3|41=>115|44=>184|49=>172|51=>155|4=>4|54=>201|53=>200|58=>138|5=>5|9=>9|60=>208|64=>212|66=>214|67=>215|17=>17|32=>130|33=>175|82=>230|12=>12|75=>224|76=>225|77=>226|78=>104|79=>227|80=>228|n=>n,fun|n=>n⟩
theorem Ja:Go.Proofs.LaysGg.n6 Tryz.prog Jb:={
  mixed:=by kernel_rfl
  f6:=Tryz.func152.trans (congrArg some (by kernel_rfl))
  f10:=Tryz.func170.trans (congrArg some (by kernel_rfl))
  f11:=Tryz.func171.trans (congrArg some (by kernel_rfl))
  f12:=Tryz.func172.trans (congrArg some (by kernel_rfl))
  f13:=Tryz.func173.trans (congrArg some (by kernel_rfl))
  f14:=Tryz.func174.trans (congrArg some (by kernel_rfl))
  f24:=Tryz.func190.trans (congrArg some (by kernel_rfl))
  f25:=Tryz.func166.trans (congrArg some (by kernel_rfl))
  f26:=Tryz.func191.trans (congrArg some (by kernel_rfl))
  f27:=Tryz.func192.trans (congrArg some (by kernel_rfl))
  f28:=Tryz.func193.trans (congrArg some (by kernel_rfl))
  f29:=Tryz.func194.trans (congrArg some (by kernel_rfl))
  f30:=Tryz.func195.trans (congrArg some (by kernel_rfl))
  f31:=Tryz.func196.trans (congrArg some (by kernel_rfl))
  f32:=Tryz.func197.trans (congrArg some (by kernel_rfl))
  f33:=Tryz.func198.trans (congrArg some (by kernel_rfl))
  f34:=Tryz.func199.trans (congrArg some (by kernel_rfl))
  f35:=Tryz.func200.trans (congrArg some (by kernel_rfl))
  f36:=Tryz.func201.trans (congrArg some (by kernel_rfl))
  f37:=Tryz.func202.trans (congrArg some (by kernel_rfl))
  f38:=Tryz.func203.trans (congrArg some (by kernel_rfl))
  f39:=Tryz.func204.trans (congrArg some (by kernel_rfl))
  t0:=Tryz.underlying0
  a0:=Tryz.isAgg0
  z0:=Tryz.sizeOf0
  v0:=Tryz.zeroValue0
  i0:=by kernel_rfl
  t3:=Tryz.underlying3
  a3:=Tryz.isAgg3
  z3:=Tryz.sizeOf3
  v3:=Tryz.zeroValue3
  i3:=by kernel_rfl
  t4:=Tryz.underlying4
  a4:=Tryz.isAgg4
  z4:=Tryz.sizeOf4
  v4:=Tryz.zeroValue4
  i4:=by kernel_rfl
  t5:=Tryz.underlying5
  a5:=Tryz.isAgg5
  z5:=Tryz.sizeOf5
  v5:=Tryz.zeroValue5
  i5:=by kernel_rfl
  t9:=Tryz.underlying9
  a9:=Tryz.isAgg9
  z9:=Tryz.sizeOf9
  v9:=Tryz.zeroValue9
  i9:=by kernel_rfl
  t12:=Tryz.underlying12
  a12:=Tryz.isAgg12
  z12:=Tryz.sizeOf12
  v12:=Tryz.zeroValue12
  i12:=by kernel_rfl
  t17:=Tryz.underlying17
  a17:=Tryz.isAgg17
  z17:=Tryz.sizeOf17
  v17:=Tryz.zeroValue17
  i17:=by kernel_rfl
  t20:=Tryz.underlying20
  a20:=Tryz.isAgg20
  z20:=Tryz.sizeOf20
  v20:=Tryz.zeroValue20
  i20:=by kernel_rfl
  t26:=Tryz.underlying162
  a26:=Tryz.isAgg162
  z26:=Tryz.sizeOf162
  v26:=Tryz.zeroValue162
  i26:=by kernel_rfl
  t32:=Tryz.underlying130
  a32:=Tryz.isAgg130
  z32:=Tryz.sizeOf130
  v32:=Tryz.zeroValue130
  i32:=by kernel_rfl
  t33:=Tryz.underlying175
  a33:=Tryz.isAgg175
  z33:=Tryz.sizeOf175
  v33:=Tryz.zeroValue175
  i33:=by kernel_rfl
  t35:=Tryz.underlying177
  a35:=Tryz.isAgg177
  z35:=Tryz.sizeOf177
  v35:=Tryz.zeroValue177
  i35:=by kernel_rfl
  t37:=Tryz.underlying179
  a37:=Tryz.isAgg179
  z37:=Tryz.sizeOf179
  v37:=Tryz.zeroValue179
  i37:=by kernel_rfl
  t41:=Tryz.underlying115
  a41:=Tryz.isAgg115
  z41:=Tryz.sizeOf115
  v41:=Tryz.zeroValue115
  i41:=by kernel_rfl
  t44:=Tryz.underlying184
  a44:=Tryz.isAgg184
  z44:=Tryz.sizeOf184
  v44:=Tryz.zeroValue184
  i44:=by kernel_rfl
  t49:=Tryz.underlying172
  a49:=Tryz.isAgg172
  z49:=Tryz.sizeOf172
  v49:=Tryz.zeroValue172
  i49:=by kernel_rfl
  t51:=Tryz.underlying155
  a51:=Tryz.isAgg155
  z51:=Tryz.sizeOf155
  v51:=Tryz.zeroValue155
  i51:=by kernel_rfl
  t53:=Tryz.underlying200
  a53:=Tryz.isAgg200
  z53:=Tryz.sizeOf200
  v53:=Tryz.zeroValue200
  i53:=by kernel_rfl
  t54:=Tryz.underlying201
  a54:=Tryz.isAgg201
  z54:=Tryz.sizeOf201
  v54:=Tryz.zeroValue201
  i54:=by kernel_rfl
  t58:=Tryz.underlying138
  a58:=Tryz.isAgg138
  z58:=Tryz.sizeOf138
  v58:=Tryz.zeroValue138
  i58:=by kernel_rfl
  t60:=Tryz.underlying208
  a60:=Tryz.isAgg208
  z60:=Tryz.sizeOf208
  v60:=Tryz.zeroValue208
  i60:=by kernel_rfl
  t64:=Tryz.underlying212
  a64:=Tryz.isAgg212
  z64:=Tryz.sizeOf212
  v64:=Tryz.zeroValue212
  i64:=by kernel_rfl
  t66:=Tryz.underlying214
  a66:=Tryz.isAgg214
  z66:=Tryz.sizeOf214
  v66:=Tryz.zeroValue214
  i66:=by kernel_rfl
  t67:=Tryz.underlying215
  a67:=Tryz.isAgg215
  z67:=Tryz.sizeOf215
  v67:=Tryz.zeroValue215
  i67:=by kernel_rfl
  t75:=Tryz.underlying224
  a75:=Tryz.isAgg224
  z75:=Tryz.sizeOf224
  v75:=Tryz.zeroValue224
  i75:=by kernel_rfl
  t76:=Tryz.underlying225
  a76:=Tryz.isAgg225
  z76:=Tryz.sizeOf225
  v76:=Tryz.zeroValue225
  i76:=by kernel_rfl
  t77:=Tryz.underlying226
  a77:=Tryz.isAgg226
  z77:=Tryz.sizeOf226
  v77:=Tryz.zeroValue226
  i77:=by kernel_rfl
  t78:=Tryz.underlying104
  a78:=Tryz.isAgg104
  z78:=Tryz.sizeOf104
  v78:=Tryz.zeroValue104
  i78:=by kernel_rfl
  t79:=Tryz.underlying227
  a79:=Tryz.isAgg227
  z79:=Tryz.sizeOf227
  v79:=Tryz.zeroValue227
  i79:=by kernel_rfl
  t80:=Tryz.underlying228
  a80:=Tryz.isAgg228
  z80:=Tryz.sizeOf228
  v80:=Tryz.zeroValue228
  i80:=by kernel_rfl
  t82:=Tryz.underlying230
  a82:=Tryz.isAgg230
  z82:=Tryz.sizeOf230
  v82:=Tryz.zeroValue230
  i82:=by kernel_rfl}
def aiC:Go.Shelf.Ren:=⟨fun|171=>44|243=>88|246=>128|283=>147|284=>148|285=>149|286=>150|129=>166|317=>165|318=>167|319=>168|320=>169|337=>179|338=>180|n=>n,fun|3=>3|9=>9|2=>2|4=>4|171=>154|0=>0|53=>155|37=>22|5=>5|173=>158|212=>171|51=>172|20=>20|213=>173|46=>115|232=>206|233=>207|n=>n,fun|17=>3|18=>6|19=>7|n=>n⟩
theorem aiB:Go.Proofs.LaysM.n171 Tryz.prog aiC:={
  mixed:=by kernel_rfl
  f129:=Tryz.func166.trans (congrArg some (by kernel_rfl))
  f171:=Tryz.func44.trans (congrArg some (by kernel_rfl))
  f243:=Tryz.func88.trans (congrArg some (by kernel_rfl))
  f246:=Tryz.func128.trans (congrArg some (by kernel_rfl))
  f283:=Tryz.func147.trans (congrArg some (by kernel_rfl))
  f284:=Tryz.func148.trans (congrArg some (by kernel_rfl))
  f285:=Tryz.func149.trans (congrArg some (by kernel_rfl))
  f286:=Tryz.func150.trans (congrArg some (by kernel_rfl))
  f317:=Tryz.func165.trans (congrArg some (by kernel_rfl))
  f318:=Tryz.func167.trans (congrArg some (by kernel_rfl))
  f319:=Tryz.func168.trans (congrArg some (by kernel_rfl))
  f320:=Tryz.func169.trans (congrArg some (by kernel_rfl))
  f337:=Tryz.func179.trans (congrArg some (by kernel_rfl))
  f338:=Tryz.func180.trans (congrArg some (by kernel_rfl))
  t0:=Tryz.underlying0
  a0:=Tryz.isAgg0
  z0:=Tryz.sizeOf0
  v0:=Tryz.zeroValue0
  t2:=Tryz.underlying2
  a2:=Tryz.isAgg2
  z2:=Tryz.sizeOf2
  v2:=Tryz.zeroValue2
  t3:=Tryz.underlying3
  a3:=Tryz.isAgg3
  z3:=Tryz.sizeOf3
  v3:=Tryz.zeroValue3
  t4:=Tryz.underlying4
  a4:=Tryz.isAgg4
  z4:=Tryz.sizeOf4
  v4:=Tryz.zeroValue4
  t5:=Tryz.underlying5
  a5:=Tryz.isAgg5
  z5:=Tryz.sizeOf5
  v5:=Tryz.zeroValue5
  t9:=Tryz.underlying9
  a9:=Tryz.isAgg9
  z9:=Tryz.sizeOf9
  v9:=Tryz.zeroValue9
  t20:=Tryz.underlying20
  a20:=Tryz.isAgg20
  z20:=Tryz.sizeOf20
  v20:=Tryz.zeroValue20
  t37:=Tryz.underlying22
  a37:=Tryz.isAgg22
  z37:=Tryz.sizeOf22
  v37:=Tryz.zeroValue22
  t46:=Tryz.underlying115
  a46:=Tryz.isAgg115
  z46:=Tryz.sizeOf115
  v46:=Tryz.zeroValue115
  t51:=Tryz.underlying172
  a51:=Tryz.isAgg172
  z51:=Tryz.sizeOf172
  v51:=Tryz.zeroValue172
  t53:=Tryz.underlying155
  a53:=Tryz.isAgg155
  z53:=Tryz.sizeOf155
  v53:=Tryz.zeroValue155
  t171:=Tryz.underlying154
  a171:=Tryz.isAgg154
  z171:=Tryz.sizeOf154
  v171:=Tryz.zeroValue154
  t173:=Tryz.underlying158
  a173:=Tryz.isAgg158
  z173:=Tryz.sizeOf158
  v173:=Tryz.zeroValue158
  t212:=Tryz.underlying171
  a212:=Tryz.isAgg171
  z212:=Tryz.sizeOf171
  v212:=Tryz.zeroValue171
  t213:=Tryz.underlying173
  a213:=Tryz.isAgg173
  z213:=Tryz.sizeOf173
  t232:=Tryz.underlying206
  a232:=Tryz.isAgg206
  z232:=Tryz.sizeOf206
  v232:=Tryz.zeroValue206
  t233:=Tryz.underlying207
  a233:=Tryz.isAgg207
  z233:=Tryz.sizeOf207
  v233:=Tryz.zeroValue207
  g17:=by kernel_rfl
  g18:=by kernel_rfl
  g19:=by kernel_rfl
  i0:=by kernel_rfl
  i2:=by kernel_rfl
  i3:=by kernel_rfl
  i4:=by kernel_rfl
  i5:=by kernel_rfl
  i9:=by kernel_rfl
  i20:=by kernel_rfl
  i37:=by kernel_rfl
  i46:=by kernel_rfl
  i51:=by kernel_rfl
  i53:=by kernel_rfl
  i171:=by kernel_rfl
  i173:=by kernel_rfl
  i212:=by kernel_rfl
  i232:=by kernel_rfl
  i233:=by kernel_rfl
  m17:=by kernel_rfl
  m18:=by kernel_rfl
  m19:=by kernel_rfl}
def NY:Go.Shelf.Ren:=⟨fun|156=>82|165=>120|166=>37|169=>38|240=>84|241=>136|276=>121|277=>156|n=>n,fun|31=>38|9=>9|3=>3|4=>4|0=>0|20=>20|72=>68|76=>72|70=>66|37=>22|75=>71|127=>104|164=>130|5=>5|80=>74|n=>n,fun|n=>n⟩
theorem NX:Go.Proofs.Lays.n156 Tryz.prog NY:={
  mixed:=by kernel_rfl
  f156:=Tryz.func82.trans (congrArg some (by kernel_rfl))
  f165:=Tryz.func120.trans (congrArg some (by kernel_rfl))
  f166:=Tryz.func37.trans (congrArg some (by kernel_rfl))
  f169:=Tryz.func38.trans (congrArg some (by kernel_rfl))
  f240:=Tryz.func84.trans (congrArg some (by kernel_rfl))
  f241:=Tryz.func136.trans (congrArg some (by kernel_rfl))
  f276:=Tryz.func121.trans (congrArg some (by kernel_rfl))
  f277:=Tryz.func156.trans (congrArg some (by kernel_rfl))
  t0:=Tryz.underlying0
  a0:=Tryz.isAgg0
  z0:=Tryz.sizeOf0
  v0:=Tryz.zeroValue0
  t3:=Tryz.underlying3
  a3:=Tryz.isAgg3
  z3:=Tryz.sizeOf3
  v3:=Tryz.zeroValue3
  t4:=Tryz.underlying4
  a4:=Tryz.isAgg4
  z4:=Tryz.sizeOf4
  v4:=Tryz.zeroValue4
  t9:=Tryz.underlying9
  a9:=Tryz.isAgg9
  z9:=Tryz.sizeOf9
  v9:=Tryz.zeroValue9
  t20:=Tryz.underlying20
  a20:=Tryz.isAgg20
  z20:=Tryz.sizeOf20
  v20:=Tryz.zeroValue20
  t31:=Tryz.underlying38
  a31:=Tryz.isAgg38
  z31:=Tryz.sizeOf38
  v31:=Tryz.zeroValue38
  t37:=Tryz.underlying22
  a37:=Tryz.isAgg22
  z37:=Tryz.sizeOf22
  v37:=Tryz.zeroValue22
  t70:=Tryz.underlying66
  a70:=Tryz.isAgg66
  z70:=Tryz.sizeOf66
  v70:=Tryz.zeroValue66
  t72:=Tryz.underlying68
  a72:=Tryz.isAgg68
  z72:=Tryz.sizeOf68
  v72:=Tryz.zeroValue68
  t75:=Tryz.underlying71
  a75:=Tryz.isAgg71
  z75:=Tryz.sizeOf71
  v75:=Tryz.zeroValue71
  t76:=Tryz.underlying72
  a76:=Tryz.isAgg72
  z76:=Tryz.sizeOf72
  v76:=Tryz.zeroValue72
  t127:=Tryz.underlying104
  a127:=Tryz.isAgg104
  z127:=Tryz.sizeOf104
  v127:=Tryz.zeroValue104
  t164:=Tryz.underlying130
  a164:=Tryz.isAgg130
  z164:=Tryz.sizeOf130
  v164:=Tryz.zeroValue130}
theorem N2:Builder.Extra Tryz.prog NY:={
  sizeBuilder:=by kernel_rfl
  liesBuilder:=by kernel_rfl
  t5:=Tryz.underlying5
  a5:=Tryz.isAgg5
  z5:=Tryz.sizeOf5
  v5:=Tryz.zeroValue5
  infoByte:=by kernel_rfl
  cellsByte:=by kernel_rfl
  sizeByte:=by kernel_rfl
  neB5:=by decide}
def Wi:Go.Shelf.Ren:=⟨fun|169=>38|n=>n,fun|70=>66|9=>9|0=>0|72=>68|37=>22|127=>104|3=>3|5=>5|n=>n,fun|n=>n⟩
theorem aiA:Go.Proofs.Lays.n169 Tryz.prog Wi:={
  mixed:=by kernel_rfl
  f169:=Tryz.func38.trans (congrArg some (by kernel_rfl))
  t0:=Tryz.underlying0
  a0:=Tryz.isAgg0
  z0:=Tryz.sizeOf0
  v0:=Tryz.zeroValue0
  t3:=Tryz.underlying3
  a3:=Tryz.isAgg3
  z3:=Tryz.sizeOf3
  v3:=Tryz.zeroValue3
  t9:=Tryz.underlying9
  a9:=Tryz.isAgg9
  z9:=Tryz.sizeOf9
  v9:=Tryz.zeroValue9
  t37:=Tryz.underlying22
  a37:=Tryz.isAgg22
  z37:=Tryz.sizeOf22
  v37:=Tryz.zeroValue22
  t70:=Tryz.underlying66
  a70:=Tryz.isAgg66
  z70:=Tryz.sizeOf66
  v70:=Tryz.zeroValue66
  t72:=Tryz.underlying68
  a72:=Tryz.isAgg68
  z72:=Tryz.sizeOf68
  v72:=Tryz.zeroValue68
  t127:=Tryz.underlying104
  a127:=Tryz.isAgg104
  z127:=Tryz.sizeOf104
  v127:=Tryz.zeroValue104}
theorem aiP:Builder.Extra Tryz.prog Wi:={
  sizeBuilder:=by kernel_rfl
  liesBuilder:=by kernel_rfl
  t5:=Tryz.underlying5
  a5:=Tryz.isAgg5
  z5:=Tryz.sizeOf5
  v5:=Tryz.zeroValue5
  infoByte:=by kernel_rfl
  cellsByte:=by kernel_rfl
  sizeByte:=by kernel_rfl
  neB5:=by decide}
end Go.Proofs.YtnjfiaekdcekgaaGreatDoor.P
namespace Go.Proofs.YtnjfiaekdcekgaaGreatDoor.Q
open Go.RowKit Go.Proofs.YtnjfiaekdcekgaaGreatDoorW.bS
theorem evp {α:Type} {c:Prop} [Decidable c] (h:c) {f g:Nat→Option α} {r:α} (k:Ev f r):Ev (fun n=>if c then f n else g n) r:=by
  simp only[if_pos h];exact k
theorem aT {α:Type} {c:Prop} [Decidable c] (h:¬c) {f g:Nat→Option α} {r:α} (k:Ev g r):Ev (fun n=>if c then f n else g n) r:=by
  simp only[if_neg h];exact k
theorem um {α:Type} {c:Prop} [Decidable c] {f g:Nat→Option α} {r:α} (k1:c→Ev f r) (k2:¬c→Ev g r):Ev (fun n=>if c then f n else g n) r:=by
  by_cases h:c
  · exact evp h (k1 h)
  · exact aT h (k2 h)
theorem bR {α β:Type} {x:Option α} {f:Nat→α→Option β} {a:α} {r:β} (h:x=some a) (k:Ev (fun n=>f n a) r):Ev (fun n=>x.bind (f n)) r:=by
  simp only[h,Option.bind_some];exact k
theorem evs {α:Type} {a b:α} (h:a=b):Ev (fun _=>some a) b:=h▸Ev.now a
theorem df {α:Type} {c:Prop} [Decidable c] (h:c) {f:Nat→Option α} {r s:α} (k:Ev f r):Ev f (if c then r else s):=by rw[if_pos h];exact k
theorem cq {α:Type} {c:Prop} [Decidable c] (h:¬c) {f:Nat→Option α} {r s:α} (k:Ev f s):Ev f (if c then r else s):=by rw[if_neg h];exact k
theorem CG {c:Prop} [Decidable c] (h:c):decide c=true:=decide_eq_true h
theorem Cs {c:Prop} [Decidable c] (h:¬c):¬decide c=true:=by simpa using h
theorem down {P:Nat→Prop} {n:Nat} (he:P n) (hs:∀i,i<n→P (i+1)→P i) (i:Nat) (h:i≤n):P i:=by
  obtain⟨d,rfl⟩:∃d,n=i+d:=⟨n-i,by omega⟩;clear h
  induction d generalizing i with
  |zero=>exact he
  |succ d ih=>
   refine hs i (by omega) (ih (i+1) ?_ ?_)
   · rw[show i+1+d=i+(d+1)by omega];exact he
   · intro j hj;exact hs j (by omega)
theorem eH {n:Int} (h1: -9223372036854775808≤n) (h2:n≤9223372036854775807):wrap64 n=n:=by unfold wrap64;omega
theorem eO {n:Int} (h:(Lit.int .i64 n).wf=true): -9223372036854775808≤n∧n≤9223372036854775807:=by
  simp[Lit.wf,IntKind.min,IntKind.max,IntKind.signed,IntKind.bits]at h;omega
theorem Ff (l:List Int) (i:Nat) (h:i<l.length):rd l (i:Int)=l[i]:=by
  unfold rd;simp[List.getD_eq_getElem?_getD,h]
theorem drop_cons {α:Type} (l:List α) (i:Nat) (h:i<l.length):l.drop i=l[i]::l.drop (i+1):=List.drop_eq_getElem_cons h
theorem xR {α:Type} (l:List α):l.drop l.length=[]:=List.drop_eq_nil_of_le (Nat.le_refl _)
end Go.Proofs.YtnjfiaekdcekgaaGreatDoor.Q
namespace Go.Proofs.YtnjfiaekdcekgaaGreatDoor.P
open Go.RowKit Go.Sort Go.Proofs.YtnjfiaekdcekgaaGreatDoorW.bS
structure Plain {α:Type} (d:Kd α) (enc:α→List Value):Prop where
  len:∀x,(enc x).length=d.sz
  pos:0<d.sz
  of:∀{w base ok x cs},d.M w base ok x cs→cs=enc x
  make:∀w base ok x,d.M w base ok x (enc x)
theorem onCells_block (w:World) (g j:Nat) (f:Array Value→Array Value):(mapBlock w g f).heap[j]? =if g=j then w.heap[j]?.map (onCells f)else w.heap[j]? :=by
  unfold mapBlock;simp only[Array.getElem?_modify]
section
variable {α:Type} [Inhabited α] {d:Kd α} {e base g cap:Nat} {W:World} {ok:Nat→Prop} {xs:List α} {enc:α→List Value}
theorem R1 {inner:List Value} {k i c:Nat} (hc:c<k):((inner.drop (i*k)).take k)[c]? =inner[i*k+c]? :=by
  rw[List.getElem?_take_of_lt hc,List.getElem?_drop]
theorem aeP (hp:Plain d enc) (h:d.R e W base ok (.slice (some ⟨g,0,none⟩) xs.length cap) xs):HoldsK enc d.sz W g 0 xs.toArray:=by
  obtain⟨_,inner,ho,hr⟩:=h;rcases ho.2 with ⟨hn,_⟩|⟨g',cap',cur,hv,hg,hh,hle,hmx,hcs,htk⟩
  · simp at hn
  obtain⟨rfl,rfl⟩:g=g'∧cap=cap':=by simp at hv;exact hv
  intro j hj;have hj':j<xs.length*d.sz:=by simpa using hj
  have hk:=hp.pos;have hi:j/d.sz<xs.length:=by rw[Nat.div_lt_iff_lt_mul hk];exact hj'
  have hc:j%d.sz<d.sz:=Nat.mod_lt _ hk;have hjj:j/d.sz*d.sz+j%d.sz=j:=by rw[Nat.mul_comm];exact Nat.div_add_mod j d.sz
  have e1:=hp.of (hr.2 (j/d.sz) xs[j/d.sz] (List.getElem?_eq_getElem hi));have e2:inner[j]? =(enc xs[j/d.sz])[j%d.sz]? :=by rw[←e1,R1 hc,hjj]
  have e3:cur[j]? =inner[j]? :=by
    rw[←htk,List.getElem?_take_of_lt hj'];simp
  rw[get_flatK _ _ _ _ (by simpa using hj'),Nat.zero_add];refine⟨?_,aJ hh j⟩;rw[fQ hh j,e3,e2];have hl:j%d.sz<(enc xs[j/d.sz]).length:=by rw[hp.len];exact hc
  simp[hi,hl]
end
theorem air {α:Type} [Inhabited α] {lt:α→α→Bool} {D D':Array α} (hp:PermIn 0 D.size D D') (hs:SortedIn lt 0 D.size D') (tot:∀a∈D.toList,∀b∈D.toList,a≠b→lt a b=true∨lt b a=true) (nd:D.toList.Nodup):
    D'.toList.Perm D.toList∧D'.toList.Pairwise (fun a b=>lt a b=true):=by
  have hsz:=hp.1
  have Iq:D'.toList.Perm D.toList:=by
    have:=hp.2.2;rw[Array.extract_eq_self_of_le (by omega),Array.extract_eq_self_of_le (by omega)]at this;exact this
  refine⟨Iq,?_⟩;have nd':D'.toList.Nodup:=Iq.nodup_iff.mpr nd;rw[List.pairwise_iff_getElem];intro i j hi hj hij;have hi':i<D'.size:=by simpa using hi
  have hj':j<D'.size:=by simpa using hj
  have h1:=hs i j (Nat.zero_le _) hij (by omega);simp only[getElem!_pos D' i hi',getElem!_pos D' j hj']at h1
  have hne:D'.toList[i]≠D'.toList[j]:=by
    intro he;have:=(List.pairwise_iff_getElem.1 nd') i j hi hj hij;exact this he
  rcases tot D'.toList[i] (Iq.mem_iff.1 (List.getElem_mem hi)) D'.toList[j] (Iq.mem_iff.1 (List.getElem_mem hj)) hne with h|h
  · exact h
  · simp only[Array.getElem_toList]at h;rw[h]at h1;cases h1
end Go.Proofs.YtnjfiaekdcekgaaGreatDoor.P
namespace Go.Proofs.YtnjfiaekdcekgaaGreatDoor.Q
open Go.RowKit Go.Deep Go.ChangeShapes Go.WideShapes Go.Proofs.YtnjfiaekdcekgaaGreatDoorW.bS
def np {α:Type} (P:Program) (w:World) (d:Kd α) (T:TypeId) (G:α→Prop):Prop:=
  ∀(H:Type) (enc:TypeId×Value→H) (base:Nat) (spare:Nat→Bool) (held:Bool) (fuel:Nat) (cs:List Value) (x:DataW H×List MemPlace),
   DataW.trod enc P w base spare held fuel T cs=some x→∃v,d.K w v cs∧G v
def Ck {α:Type} (P:Program) (w:World) (d:Kd α) (off:Nat) (fs:Array Field) (i:Nat) (G:α→Prop):Prop:=
  ∀(H:Type) (enc:TypeId×Value→H) (base:Nat) (spare:Nat→Bool) (held:Bool) (fuel:Nat) (cs:List Value),cs.length=off+d.sz→
   (∀j f,i≤j→fs[j]? =some f→∃y:DataW H×List MemPlace,DataW.trod enc P w base spare held fuel f.type ((cs.drop f.offset).take (P.cellsOf f.type))=some y)→∃v,d.K w v (cs.drop off)∧G v
section
variable {P:Program} {w:World}
theorem np.mono {α:Type} {d:Kd α} {T:TypeId} {G G':α→Prop} (h:np P w d T G) (hg:∀x,G x→G' x):np P w d T G':=by
  intro H enc base spare held fuel cs x hx;obtain⟨v,hv,g⟩:=h H enc base spare held fuel cs x hx;exact⟨v,hv,hg v g⟩
theorem np.int {k:IntKind} {T:TypeId} (ht:P.underlying T=some (.int k)):np P w (Kd.int k) T (fun n=>(Lit.int k n).wf=true):=by
  intro H enc base spare held fuel cs x hx;obtain⟨n,rfl,_,hw⟩:=DataW.trod_int ht hx;exact⟨n,rfl,hw⟩
theorem np.slice {α:Type} (z:α) {d:Kd α} {E T:TypeId} {G:α→Prop} (ht:P.underlying T=some (.slice E)) (hC:P.cellsOf E=d.sz) (h:np P w d E G):
    np P w (Kd.slice E d) T (fun l=>l.length≤9223372036854775807∧∀x∈l,G x):=by
  haveI:Inhabited α:=⟨z⟩
  intro H enc base spare held fuel cs x hx;rcases open_slice ht hx with ⟨rfl,_⟩|⟨a,len,cap,m,n,D,Pl,rfl,hb,hl,hm,hmm,_,hi⟩
  · exact⟨[],⟨none,0,rfl,Nat.le_refl _,rfl,by simp,fun h=>absurd h (by simp)⟩,by simp,by simp⟩
  · have hlm:len≤m:=by rw[hmm];split<;>omega
    obtain⟨V,hV⟩:=choose_lt (α:=α) (n:=len) (p:=fun i v=>G v∧∃c,c.length=d.sz∧d.K w v c∧∀j u,c[j]? =some u→w.cell? (a.add (i*d.sz+j))=some u) (fun i hil=>by
      obtain⟨cs',h1,h2⟩:=hi i (by omega);obtain⟨v,hv,g⟩:=h H enc base spare held n cs' _ h2;obtain⟨_,hcl,hat⟩:=World.cells?_some h1;refine⟨v,g,cs',by rw[hcl,hC],hv,fun j u hu=> ?_⟩;have hj:j<P.cellsOf E:=(by rw[←hcl];exact(List.getElem?_eq_some_iff.1 hu).1);have:=hat j hj;rw[hC,Go.Deep.add_add]at this;rw[this,hu])
    refine⟨(List.range len).map V,⟨some a,cap,by simp,by simpa using hl,by simp,by have:=hm;unfold maxLen at this;simp;omega,fun _=>⟨a,rfl,fun j p hj=> ?_⟩⟩,?_⟩
    · have hj':j<len:=(by have:=(List.getElem?_eq_some_iff.1 hj).1;simpa using this);obtain rfl:V j=p:=(by simpa[hj']using hj);exact(hV j hj').2
    · refine⟨by have:=hm;unfold maxLen at this;simp;omega,fun x hx=> ?_⟩;obtain⟨i,hi,rfl⟩:=List.mem_map.1 hx;exact(hV i (List.mem_range.1 hi)).1
theorem Ck.one {α:Type} {d:Kd α} {off i:Nat} {fs:Array Field} {f:Field} {G:α→Prop} (hf:fs[i]? =some f) (h:np P w d f.type G) (ho:f.offset=off) (hc:P.cellsOf f.type=d.sz):Ck P w d off fs i G:=by
  intro H enc base spare held fuel cs hlen hfs;obtain⟨y,hy⟩:=hfs i f (Nat.le_refl _) hf;rw[ho,hc,List.take_of_length_le (by simp[hlen])]at hy;exact h H enc base spare held fuel _ _ hy
theorem Ck.more {α β:Type} {d:Kd α} {d2:Kd β} {off i:Nat} {fs:Array Field} {f:Field} {G:α→Prop} {G2:β→Prop} (hf:fs[i]? =some f) (h:np P w d f.type G) (ho:f.offset=off) (hc:P.cellsOf f.type=d.sz)
    (h2:Ck P w d2 (off+d.sz) fs (i+1) G2):Ck P w (Kd.pair d d2) off fs i (fun x=>G x.1∧G2 x.2):=by
  intro H enc base spare held fuel cs hlen hfs;have hlen':cs.length=off+(d.sz+d2.sz):=hlen;obtain⟨y,hy⟩:=hfs i f (Nat.le_refl _) hf;rw[ho,hc]at hy;obtain⟨v,hv,g⟩:=h H enc base spare held fuel _ _ hy;obtain⟨v2,hv2,g2⟩:=h2 H enc base spare held fuel cs (by omega) (fun j f' hj hf'=>hfs j f' (by omega) hf');refine⟨(v,v2),⟨_,_,?_,hv,hv2⟩,g,g2⟩;rw[←List.drop_drop,List.take_append_drop]
theorem np.string {T:TypeId} (ht:P.underlying T=some .string):np P w Kd.string T (fun s=>s.size≤maxLen):=by
  intro H enc base spare held fuel cs x hx;obtain⟨s,rfl,_,hs⟩:=DataW.trod_string ht hx;exact⟨s,rfl,hs⟩
end
end Go.Proofs.YtnjfiaekdcekgaaGreatDoor.Q
namespace Go.Proofs.YtnjfiaekdcekgaaGreatDoor.P
open Go.RowKit Go.Proofs.YtnjfiaekdcekgaaGreatDoorW.bS Go.Proofs.YtnjfiaekdcekgaaGreatDoorW.dU Go.Proofs.YtnjfiaekdcekgaaGreatDoorW.dX
attribute [local go_sem] fE fI fH fL fG fK fF fJ
def Su:Option Int→Value
 |none=> .nilIface
 |some c=> .iface 148 (.int .i64 c)
theorem errW_none:Su none= .nilIface:=rfl
theorem errW_some (c:Int):Su (some c)= .iface 148 (.int .i64 c):=rfl
theorem info3:(Tryz.prog.info? 3).map (fun i=>(i.zero,i.size,i.bytes))=some (some (.int .i64 0),1,8):=by kernel_rfl
theorem afh:(Tryz.prog.info? 4).map (fun i=>(i.zero,i.size,i.bytes))=some (some (.bool false),1,1):=by kernel_rfl
theorem ym:(Tryz.prog.info? 9).map (fun i=>(i.zero,i.size,i.bytes))=some (some (.string ⟨#[]⟩),1,16):=by kernel_rfl
theorem UE:(Tryz.prog.info? 57).map (fun i=>(i.zero,i.size,i.bytes))=some (some (.agg #[(.int .i64 0),(.int .i64 0),(.int .i64 0),(.int .i64 0)]),4,32):=by kernel_rfl
theorem EU:(Tryz.prog.info? 64).map (fun i=>(i.zero,i.size,i.bytes))=some (some (.agg #[(.int .i64 0),(.int .i64 0),(.int .i64 0),(.int .i64 0)]),4,32):=by kernel_rfl
theorem info110:(Tryz.prog.info? 110).map (fun i=>(i.zero,i.size,i.bytes))=some (some (.agg #[(.int .i64 0),(.int .i64 0),(.int .i64 0),(.int .i64 0)]),4,32):=by kernel_rfl
structure ar where
 f0:Int
 f1:Int
 f2:Int
 f3:Int
def gb:ar:=⟨(0:Int),(0:Int),(0:Int),(0:Int)⟩
def bl:Kd ar:=Kd.Iz (Kd.pair (Kd.int .i64) (Kd.pair (Kd.int .i64) (Kd.pair (Kd.int .i64) (Kd.int .i64)))) (fun x:ar=>(x.f0,x.f1,x.f2,x.f3))
theorem afG {w:World} {x:ar} {cs:List Value} (h:bl.K w x cs):cs=[.int .i64 x.f0,.int .i64 x.f1,.int .i64 x.f2,.int .i64 x.f3]:=by
 obtain⟨_,_,rfl,rfl,⟨_,_,rfl,rfl,⟨_,_,rfl,rfl,rfl⟩⟩⟩:=h;exact rfl
theorem k110_openM {w:World} {base:Nat} {ok:Nat→Prop} {x:ar} {cs:List Value} (h:bl.M w base ok x cs):cs=[.int .i64 x.f0,.int .i64 x.f1,.int .i64 x.f2,.int .i64 x.f3]:=by
 obtain⟨_,_,rfl,rfl,⟨_,_,rfl,rfl,⟨_,_,rfl,rfl,rfl⟩⟩⟩:=h;exact rfl
theorem s6 (w:World) (base:Nat) (ok:Nat→Prop) (x:ar):bl.M w base ok x [.int .i64 x.f0,.int .i64 x.f1,.int .i64 x.f2,.int .i64 x.f3]:=⟨[.int .i64 x.f0],[.int .i64 x.f1,.int .i64 x.f2,.int .i64 x.f3],rfl,rfl,⟨[.int .i64 x.f1],[.int .i64 x.f2,.int .i64 x.f3],rfl,rfl,⟨[.int .i64 x.f2],[.int .i64 x.f3],rfl,rfl,rfl⟩⟩⟩
def au (xs:List ar) (i:Int):ar:=xs.getD i.toNat gb
theorem iC {w:World} {A:Option Addr} {n:Nat} {xs:List ar} (h:Kd.C bl w A n xs) (i:Int) (h0:0≤i) (h1:i<n):∃ad,A=some ad∧w.cell? (ad.add (i.toNat*4))=some (.int .i64 (au xs i).f0)∧w.cell? ⟨(ad.add (i.toNat*4)).block,(ad.add (i.toNat*4)).off+1,none⟩=some (.int .i64 (au xs i).f1)∧w.cell? ⟨(ad.add (i.toNat*4)).block,(ad.add (i.toNat*4)).off+2,none⟩=some (.int .i64 (au xs i).f2)∧w.cell? ⟨(ad.add (i.toNat*4)).block,(ad.add (i.toNat*4)).off+3,none⟩=some (.int .i64 (au xs i).f3):=by
 obtain⟨ad,c,e,_,hK,hc0⟩:=Kd.JO h gb i h0 h1;have hc:∀j u,c[j]? =some u→w.cell? (ad.add (i.toNat*4+j))=some u:=hc0;obtain rfl:=afG hK;exact⟨ad,e,hc 0 _ rfl,by rw[←tT _ _ 1 (by omega)];exact hc 1 _ rfl,by rw[←tT _ _ 2 (by omega)];exact hc 2 _ rfl,by rw[←tT _ _ 3 (by omega)];exact hc 3 _ rfl⟩
structure fp where
 f0:Int
 f1:Int
def z62:fp:=⟨(0:Int),(0:Int)⟩
def MJ:Kd fp:=Kd.Iz (Kd.pair (Kd.int .i64) (Kd.int .i64)) (fun x:fp=>(x.f0,x.f1))
theorem afK {w:World} {x:fp} {cs:List Value} (h:MJ.K w x cs):cs=[.int .i64 x.f0,.int .i64 x.f1]:=by
 obtain⟨_,_,rfl,rfl,rfl⟩:=h;exact rfl
theorem afJ (w:World) (base:Nat) (ok:Nat→Prop) (x:fp):MJ.M w base ok x [.int .i64 x.f0,.int .i64 x.f1]:=⟨[.int .i64 x.f0],[.int .i64 x.f1],rfl,rfl,rfl⟩
structure S64 where
 f0:fp
 f1:Int
 f2:Int
def z64:S64:=⟨z62,(0:Int),(0:Int)⟩
def k64:Kd S64:=Kd.Iz (Kd.pair MJ (Kd.pair (Kd.int .i64) (Kd.int .i64))) (fun x:S64=>(x.f0,x.f1,x.f2))
theorem afL {w:World} {x:S64} {cs:List Value} (h:k64.K w x cs):cs=[.int .i64 x.f0.f0,.int .i64 x.f0.f1,.int .i64 x.f1,.int .i64 x.f2]:=by
 obtain⟨_,_,rfl,s0,⟨_,_,rfl,rfl,rfl⟩⟩:=h;obtain rfl:=afK s0;exact rfl
theorem k64_mkM (w:World) (base:Nat) (ok:Nat→Prop) (x:S64):k64.M w base ok x [.int .i64 x.f0.f0,.int .i64 x.f0.f1,.int .i64 x.f1,.int .i64 x.f2]:=⟨[.int .i64 x.f0.f0,.int .i64 x.f0.f1],[.int .i64 x.f1,.int .i64 x.f2],rfl,(afJ w base ok x.f0),⟨[.int .i64 x.f1],[.int .i64 x.f2],rfl,rfl,rfl⟩⟩
def dn (xs:List S64) (i:Int):S64:=xs.getD i.toNat z64
theorem tV {w:World} {A:Option Addr} {n:Nat} {xs:List S64} (h:Kd.C k64 w A n xs) (i:Int) (h0:0≤i) (h1:i<n):∃ad,A=some ad∧w.cell? (ad.add (i.toNat*4))=some (.int .i64 (dn xs i).f0.f0)∧w.cell? ⟨(ad.add (i.toNat*4)).block,(ad.add (i.toNat*4)).off+1,none⟩=some (.int .i64 (dn xs i).f0.f1)∧w.cell? ⟨(ad.add (i.toNat*4)).block,(ad.add (i.toNat*4)).off+2,none⟩=some (.int .i64 (dn xs i).f1)∧w.cell? ⟨(ad.add (i.toNat*4)).block,(ad.add (i.toNat*4)).off+3,none⟩=some (.int .i64 (dn xs i).f2):=by
 obtain⟨ad,c,e,_,hK,hc0⟩:=Kd.JO h z64 i h0 h1;have hc:∀j u,c[j]? =some u→w.cell? (ad.add (i.toNat*4+j))=some u:=hc0;obtain rfl:=afL hK;exact⟨ad,e,hc 0 _ rfl,by rw[←tT _ _ 1 (by omega)];exact hc 1 _ rfl,by rw[←tT _ _ 2 (by omega)];exact hc 2 _ rfl,by rw[←tT _ _ 3 (by omega)];exact hc 3 _ rfl⟩
structure cN where
 f0:Int
 f1:Int
 f2:Int
 f3:Int
def XV:cN:=⟨(0:Int),(0:Int),(0:Int),(0:Int)⟩
def nx:Kd cN:=Kd.Iz (Kd.pair (Kd.int .i64) (Kd.pair (Kd.int .i64) (Kd.pair (Kd.int .i64) (Kd.int .i64)))) (fun x:cN=>(x.f0,x.f1,x.f2,x.f3))
theorem afI {w:World} {x:cN} {cs:List Value} (h:nx.K w x cs):cs=[.int .i64 x.f0,.int .i64 x.f1,.int .i64 x.f2,.int .i64 x.f3]:=by
 obtain⟨_,_,rfl,rfl,⟨_,_,rfl,rfl,⟨_,_,rfl,rfl,rfl⟩⟩⟩:=h;exact rfl
theorem UK (w:World) (base:Nat) (ok:Nat→Prop) (x:cN):nx.M w base ok x [.int .i64 x.f0,.int .i64 x.f1,.int .i64 x.f2,.int .i64 x.f3]:=⟨[.int .i64 x.f0],[.int .i64 x.f1,.int .i64 x.f2,.int .i64 x.f3],rfl,rfl,⟨[.int .i64 x.f1],[.int .i64 x.f2,.int .i64 x.f3],rfl,rfl,⟨[.int .i64 x.f2],[.int .i64 x.f3],rfl,rfl,rfl⟩⟩⟩
def qH (xs:List cN) (i:Int):cN:=xs.getD i.toNat XV
theorem tU {w:World} {A:Option Addr} {n:Nat} {xs:List cN} (h:Kd.C nx w A n xs) (i:Int) (h0:0≤i) (h1:i<n):∃ad,A=some ad∧w.cell? (ad.add (i.toNat*4))=some (.int .i64 (qH xs i).f0)∧w.cell? ⟨(ad.add (i.toNat*4)).block,(ad.add (i.toNat*4)).off+1,none⟩=some (.int .i64 (qH xs i).f1)∧w.cell? ⟨(ad.add (i.toNat*4)).block,(ad.add (i.toNat*4)).off+2,none⟩=some (.int .i64 (qH xs i).f2)∧w.cell? ⟨(ad.add (i.toNat*4)).block,(ad.add (i.toNat*4)).off+3,none⟩=some (.int .i64 (qH xs i).f3):=by
 obtain⟨ad,c,e,_,hK,hc0⟩:=Kd.JO h XV i h0 h1;have hc:∀j u,c[j]? =some u→w.cell? (ad.add (i.toNat*4+j))=some u:=hc0;obtain rfl:=afI hK;exact⟨ad,e,hc 0 _ rfl,by rw[←tT _ _ 1 (by omega)];exact hc 1 _ rfl,by rw[←tT _ _ 2 (by omega)];exact hc 2 _ rfl,by rw[←tT _ _ 3 (by omega)];exact hc 3 _ rfl⟩
end Go.Proofs.YtnjfiaekdcekgaaGreatDoor.P
namespace Go.Proofs.YtnjfiaekdcekgaaGreatDoorW.dU
open Go.RowKit Go.Proofs.YtnjfiaekdcekgaaGreatDoorW.bS
section
variable {P:Program} {ops:Array Oper} {Q:Exit→Act→World→Prop} {md:Region.Mode} {S:World→Prop} {ds:List Nat} {T:Bool×List (List Nat×List Nat)} {B:List Nat} {oi oj:Oper} {v:Value} {fuel:Nat} {l l' lj:Array Bool} {a a':Act} {w:World}
theorem pA (i:Nat) (N:Option Tmp) (HT:rtab md ops=T) (h:cr P md ops Q S ds fuel l' a' w) (hi:ops[i]? =some oi:=by rfl) (hN:oi.dst=N:=by rfl)
    (hl:l.setIfInBounds i true=l':=by simp only[List.setIfInBounds_toArray,List.set_cons_zero,List.set_cons_succ];rfl) (hc:anyT T l.toList l'.toList i=true:=by kernel_rfl)
    (hQ:∀c a w,Q (.panic c) (a.put oi.dst v) w→Q (.panic c) a w:=by exact fun _ _ _ h=>h) (hw:Region.wanted oi (yielded ops a.tmps)=true:=by rfl)
    (hy:∀w',(execOp a.eval oi).run P w'= .ok (.value v) w':=by intro w';go_simp;with_reducible rfl) (ha:a.put N v=a':=by simp only[Act.put,List.setIfInBounds_toArray,List.set_cons_zero,List.set_cons_succ,eJ,gj];rfl):
    cr P md ops Q S ds (fuel+1) l a w:=I3 l' hi hN (any_of HT hc) hQ (Or.inl ⟨hw,hy⟩) ha h
theorem pU (i:Nat) (N:Option Tmp) (HT:rtab md ops=T) (h:cr P md ops Q S ds fuel l' a' w) (hi:ops[i]? =some oi:=by rfl) (hN:oi.dst=N:=by rfl)
    (hl:l.setIfInBounds i true=l':=by simp only[List.setIfInBounds_toArray,List.set_cons_zero,List.set_cons_succ];rfl) (hc:anyT T l.toList l'.toList i=true:=by kernel_rfl)
    (hQ:∀c a w,Q (.panic c) (a.put oi.dst undef) w→Q (.panic c) a w:=by exact fun _ _ _ h=>h) (hw:Region.wanted oi (yielded ops a.tmps)=false:=by rfl)
    (ha:a.put N undef=a':=by simp only[Act.put,List.setIfInBounds_toArray,List.set_cons_zero,List.set_cons_succ,eJ,gj];rfl):
    cr P md ops Q S ds (fuel+1) l a w:=I3 (v:=undef) l' hi hN (any_of HT hc) hQ (Or.inr ⟨hw,rfl⟩) ha h
theorem pT (i:Nat) (N:Option Tmp) (HT:rtab md ops=T) (HW:eN T.2 B=true) (hS:S w) (h:cr P md ops Q S ds fuel l' a' w) (hi:ops[i]? =some oi:=by rfl) (hN:oi.dst=N:=by rfl)
    (hl:l.setIfInBounds i true=l':=by simp only[List.setIfInBounds_toArray,List.set_cons_zero,List.set_cons_succ];rfl) (hc:FT T B ds l.toList l'.toList i=true:=by kernel_rfl)
    (hQ:∀c a w,Q (.panic c) (a.put oi.dst v) w→Q (.panic c) a w:=by exact fun _ _ _ h=>h) (hw:Region.wanted oi (yielded ops a.tmps)=true:=by rfl)
    (hy:∀w',S w'→(execOp a.eval oi).run P w'= .ok (.value v) w':=by intro w' s_;(try dsimp only at s_);repeat(have:=s_.1;replace s_:=s_.2);go_simp;with_reducible rfl) (ha:a.put N v=a':=by simp only[Act.put,List.setIfInBounds_toArray,List.set_cons_zero,List.set_cons_succ,eJ,gj];rfl):
    cr P md ops Q S ds (fuel+1) l a w:=FU l' hi hN (Ot HT HW hc) hQ (Or.inl ⟨hw,hy⟩) hS ha h
theorem gL {rest:List Oper} {f:FuncId} {fn:Func} {os:Array Operand} {ts:Array TypeId} (N:Option Tmp) (hf:P.funcs[f]? =some fn) (args:Array Value)
    (h:Calls P f args w fun e w'=>∃v,e= .returned v∧wpList P ops Q rest (a.put N v) w') (hd:oi.dst=N:=by rfl) (hg:oi.guard=none:=by rfl) (hname:(fn.name== "runtime.NumGoroutine")=false:=by kernel_rfl) (hb:fn.body.isSome=true:=by rfl)
    (hop:oi.op= .call {callee:= .value (.func f),args:=os,argTypes:=ts}:=by rfl) (hargs:os.map a.eval=args:=by(try simp only[List.map_toArray,List.map_cons,List.map_nil]);first|done|rfl|(simp only[List.length_drop,List.length_take];rfl)):
    wpList P ops Q (oi::rest) a w:=ur N hd hg hf hname hb args hop hargs h
end
end Go.Proofs.YtnjfiaekdcekgaaGreatDoorW.dU
namespace Go.Proofs.YtnjfiaekdcekgaaGreatDoor.P
open Go.RowKit Go.Proofs.YtnjfiaekdcekgaaGreatDoorW.bS Go.Proofs.YtnjfiaekdcekgaaGreatDoorW.dU Go.Proofs.YtnjfiaekdcekgaaGreatDoorW.dX
theorem fS {w W W':World} {g:Nat} {row:Option Nat} (h:aj (KeepBut w W g row)) (k:KeepBut w W g row→KeepBut w W' g row:=by intro h_;repeat(first|(with_reducible first|exact h_|apply KeepBut.wF|apply yy|apply yx|apply wu|refine MK ?_ (aj.out (self:=by assumption)) _)|exact h_)):KeepBut w W' g row:=k h.out
theorem cF {w W:World} {a:Addr} {g:Nat} {v:Option Value} (hn:a.block≠g) (h:w.cell? a=v) (k:a.block≠g→w.cell? a=v→W.cell? a=v:=by intro n_ h_;repeat(first|(with_reducible exact h_)|refine(cell_far (p:=⟨_,_,none⟩) n_ _).trans ?_)):W.cell? a=v:=k hn h
theorem nL {w W:World} {g g2:Nat} {o:Obj} (_h:aj (w.heap[g]? =some o)) (hg:g2=W.heap.size) [k:aj (W.heap[g]? =some o)]:g≠g2:=by rw[hg];exact Nat.ne_of_lt (iD k.out)
theorem nG {w W:World} {g g2:Nat} {o:Obj} (_h:aj (w.heap[g]? =some o)) (hg:g2=W.heap.size) [k:aj (W.heap[g]? =some o)]:g2≠g:=by rw[hg];exact Nat.ne_of_gt (iD k.out)
theorem bb {w W W1:World} {g:Nat} {o:Obj} (_h:aj (w.heap[g]? =some o)) (hb:Below W.heap.size W W1) [k:aj (W.heap[g]? =some o)]:W1.heap[g]? =some o:=oG k.out hb
theorem bg {w W W1:World} {g:Nat} {o:Obj} {row:Option Nat} (_h:aj (w.heap[g]? =some o)) (hw:W.grownBy W1 row) (hne:some g≠row) [k:aj (W.heap[g]? =some o)]:W1.heap[g]? =some o:=Cx k.out hw hne
theorem cz {w:World} {g:Nat} {cs:Array Value} {t:TypeId} {v:Value} (h:aj (w.heap[g]? =some (.cells cs t (0,0)))) (i:Nat) (e:cs[i]? =some v:=by(simp only[List.getElem?_toArray,List.getElem?_cons_zero,List.getElem?_cons_succ]);try rfl):w.cell? ⟨g,i,none⟩=some v:=(fQ h.out i).trans e
theorem A_ {p:Prop} (h:p):aj p:=⟨h⟩
theorem eR {p:Prop} (h:p:=by first|rfl|(simp[errW_none,errW_some]<;>rfl)|(simp[*,errW_none,errW_some]<;>rfl)):p:=h
theorem bX {P:Program} {ops:Array Oper} {rest:List Oper} {o:Oper} {a:Act} {Q:Exit→Act→World→Prop} {W:World} {N:Tmp} {cs:Array Value} {t:TypeId} (h:∀g,g=W.heap.size→∀w1,w1.heap[g]? =some (.cells cs t (0,0))→Below W.heap.size W w1→wpList P ops Q rest (a.put o.dst (.pointer (some ⟨g,0,none⟩))) w1)
    (hgd:o.guard=none:=by rfl) (hd:o.dst=some N:=by rfl) (hrun:(execOp a.eval o).run P W= .ok (.value (.pointer (some ⟨W.heap.size,0,none⟩))) (W.alloc (.cells cs t (0,0))):=by first|(go_simp;done)|(go_simp;rfl)):wpList P ops Q (o::rest) a W:=vO hgd hd hrun h
theorem oD {p:Prop} [Decidable p] (h:decide p=true:=by first|(with_reducible assumption)|assumption):p:=of_decide_eq_true h
theorem hW {w W:World} {a:Addr} {v:Value} (HB:aj (Below w.heap.size w W)) (h:w.cell? a=some v):W.cell? a=some v:=(HB.out.cell (World.block_lt_of_cell? w _ h)).trans h
theorem eS {p:Prop} (h:p:=by first|rfl|(simp;done)|(simp[*];done)):p:=h
end Go.Proofs.YtnjfiaekdcekgaaGreatDoor.P
namespace Go.Proofs.YtnjfiaekdcekgaaGreatDoor.P
set_option maxHeartbeats 8000000
set_option maxRecDepth 100000
open Go.RowKit Go.Proofs.YtnjfiaekdcekgaaGreatDoorW.bS Go.Proofs.YtnjfiaekdcekgaaGreatDoorW.dU Go.Proofs.YtnjfiaekdcekgaaGreatDoorW.dX
attribute [local go_sem] fE fI fH fL fG fK fF fJ
def wy.f (l0:List Int):Option (Bool):=some (decide ((l0.length:Int)>1048576))
theorem wy.calls (A0:Option Addr) (c0:Nat) (l0:List Int) (r:Bool) (w:World) (cd:Kd.C (Kd.int .u8) w A0 l0.length l0) (hc0:l0.length≤c0) (h:wy.f l0=some r):
  Calls Tryz.prog 6 #[.slice A0 l0.length c0] w fun e w'=>e= .returned (.bool r)∧cV w w':=by
 have dI:=A_ cd;have nh:=A_ hc0;clear cd hc0;have H:(some (decide ((l0.length:Int)>1048576)))=some r:=h;clear h;obtain rfl:=Option.some.inj H;go_enter Tryz.func6,Tryz.ntmps6;go_wp2;go_ret;exact⟨eS,by repeat(first|exact cV.refl _|apply cV.step)⟩
def bQ (w0 W:World) (g:Nat) (f0:List Int) (f1:Int) (f2:Int):Prop:=∃A0 c0,W.heap[g]? =some (.cells #[.slice A0 f0.length c0,.int .i64 f1,.int .i64 f2] 82 (0,0))∧w0.heap.size≤g∧Kd.C (Kd.int .u8) w0 A0 f0.length f0
theorem bQ.grown {w0 W:World} {g:Nat} {f0:List Int} {f1:Int} {f2:Int} {W1:World} {row:Option Nat} (h:bQ w0 W g f0 f1 f2) (hw:W.grownBy W1 row) (hne:some g≠row):bQ w0 W1 g f0 f1 f2:=by
 obtain⟨A0,c0,hb,hg,cd⟩:=h;exact⟨A0,c0,Cx hb hw hne,hg,cd⟩
theorem bQ.kept {w0 W:World} {g:Nat} {f0:List Int} {f1:Int} {f2:Int} {W1:World} {S:Nat→Prop} (h:bQ w0 W g f0 f1 f2) (hk:Kept W W1 S) (hne:¬S g):bQ w0 W1 g f0 f1 f2:=by
 obtain⟨A0,c0,hb,hg,cd⟩:=h;exact⟨A0,c0,aby hb hk hne,hg,cd⟩
theorem bQ.below {w0 W:World} {g:Nat} {f0:List Int} {f1:Int} {f2:Int} {W1:World} (h:bQ w0 W g f0 f1 f2) (hw:Below W.heap.size W W1):bQ w0 W1 g f0 f1 f2:=h.grown (SK hw none) (by simp)
theorem bQ.alloc {w0 W:World} {g:Nat} {f0:List Int} {f1:Int} {f2:Int} (h:bQ w0 W g f0 f1 f2) (o:Obj):bQ w0 (W.alloc o) g f0 f1 f2:=h.below (dB (Below.refl _ _) o)
theorem bQ.drewN {w0 W:World} {g:Nat} {f0:List Int} {f1:Int} {f2:Int} (h:bQ w0 W g f0 f1 f2) (m:Nat):bQ w0 (W.drewN m) g f0 f1 f2:=h
theorem bQ.drew {w0 W:World} {g:Nat} {f0:List Int} {f1:Int} {f2:Int} (h:bQ w0 W g f0 f1 f2):bQ w0 W.drew g f0 f1 f2:=h
theorem bQ.at_ {w0 W:World} {g:Nat} {f0:List Int} {f1:Int} {f2:Int} {w':World} {m:Nat} (hq:W.drewN m=w') (h:bQ w0 W g f0 f1 f2):bQ w0 w' g f0 f1 f2:=by subst hq;exact bQ.drewN h m
theorem bQ.apart {w0 W:World} {g:Nat} {f0:List Int} {f1:Int} {f2:Int} {α:Type} {d:Kd α} {e:Nat} {base:Nat} {ok:Nat→Prop} {v:Value} {xs:List α} (h:bQ w0 W g f0 f1 f2) (ho:d.R e W base ok v xs) (ht:∀q,q∈e::d.E→q≠82):d.R e W base (fun k=>ok k∧k≠g) v xs:=by
 obtain⟨A0,c0,hb,hg,cd⟩:=h;exact Kd.fN ho hb ht
theorem bQ.wC {w0 W:World} {g:Nat} {f0:List Int} {f1:Int} {f2:Int} {α:Type} {d:Kd α} {e:Nat} {base:Nat} {ok:Nat→Prop} {v:Value} {xs:List α} (h:bQ w0 W g f0 f1 f2) (ho:d.R e W base ok v xs) (ht:e≠82):some g≠v.ownBlock:=by
 obtain⟨A0,c0,hb,hg,cd⟩:=h;exact Kd.nr ho hb ht
theorem bQ.lt {w0 W:World} {g:Nat} {f0:List Int} {f1:Int} {f2:Int} (h:bQ w0 W g f0 f1 f2):g<W.heap.size:=by
 obtain⟨A0,c0,hb,hg,cd⟩:=h;exact iD hb
theorem bQ.ge {w0 W:World} {g:Nat} {f0:List Int} {f1:Int} {f2:Int} (h:bQ w0 W g f0 f1 f2):w0.heap.size≤g:=by
 obtain⟨A0,c0,hb,hg,cd⟩:=h;exact hg
theorem bQ.Vd {w0 W:World} {g:Nat} {f0:List Int} {f1:Int} {f2:Int} {a:Nat} {cs:Array Value} {t:TypeId} {fr:Nat×Nat} (h:bQ w0 W g f0 f1 f2) (hb2:W.heap[a]? =some (.cells cs t fr)) (ht:t≠82):g≠a:=by
 obtain⟨A0,c0,hb,hg,cd⟩:=h;rintro rfl;rw[hb]at hb2;injection hb2 with hb2;injection hb2 with _ ht2;exact ht ht2.symm
theorem bQ.far {w0 W:World} {g:Nat} {f0:List Int} {f1:Int} {f2:Int} {p:Addr} (h:bQ w0 W g f0 f1 f2) (hne:g≠p.block) (u:Value):bQ w0 (W.setCell p u) g f0 f1 f2:=by
 obtain⟨A0,c0,hb,hg,cd⟩:=h;exact⟨A0,c0,blk_far hb hne u,hg,cd⟩
theorem RX {W:World} {g:Nat} {A0:Option Addr} {c0:Nat} {f0:List Int} {f1:Int} {f2:Int} (h:W.heap[g]? =some (.cells #[.slice A0 f0.length c0,.int .i64 f1,.int .i64 f2] 82 (0,0))):W.cell? ⟨g,0,none⟩=some (.slice A0 f0.length c0):=(fQ h 0).trans rfl
theorem RY {W:World} {g:Nat} {A0:Option Addr} {c0:Nat} {f0:List Int} {f1:Int} {f2:Int} (h:W.heap[g]? =some (.cells #[.slice A0 f0.length c0,.int .i64 f1,.int .i64 f2] 82 (0,0))):W.cell? ⟨g,1,none⟩=some (.int .i64 f1):=(fQ h 1).trans rfl
theorem bQ.ah' {w0 W:World} {g:Nat} {f0:List Int} {f1:Int} {f2:Int} (h:bQ w0 W g f0 f1 f2) (x:Int):bQ w0 (W.setCell ⟨g,1,none⟩ (.int .i64 x)) g f0 x f2:=by
 obtain⟨A0,c0,hb,hg,cd⟩:=h;exact⟨A0,c0,by simpa using Cy hb 1 (.int .i64 x),hg,cd⟩
theorem RZ {W:World} {g:Nat} {A0:Option Addr} {c0:Nat} {f0:List Int} {f1:Int} {f2:Int} (h:W.heap[g]? =some (.cells #[.slice A0 f0.length c0,.int .i64 f1,.int .i64 f2] 82 (0,0))):W.cell? ⟨g,2,none⟩=some (.int .i64 f2):=(fQ h 2).trans rfl
theorem bQ.aia {w0 W:World} {g:Nat} {f0:List Int} {f1:Int} {f2:Int} (h:bQ w0 W g f0 f1 f2) (x:Int):bQ w0 (W.setCell ⟨g,2,none⟩ (.int .i64 x)) g f0 f1 x:=by
 obtain⟨A0,c0,hb,hg,cd⟩:=h;exact⟨A0,c0,by simpa using Cy hb 2 (.int .i64 x),hg,cd⟩
theorem eL {p q:Prop} (h:aj p) (k:p→q:=by intro h_;repeat(first|(with_reducible first|exact h_|apply bQ.alloc|apply bQ.drewN|apply bQ.drew|apply bQ.ah'|apply bQ.aia|refine bQ.far ?_ (aj.out (self:=by assumption)) _)|exact h_)):q:=k h.out
theorem gB {p q:Prop} (h:aj p) (k:p→q:=by intro h_;repeat(first|(with_reducible first|exact h_|apply dB|apply pw_below_drewN|apply fC|refine nZ ?_ (aj.out (self:=by assumption))|refine nZ ?_ (by(try dsimp only);exact bQ.ge (aj.out (self:=by assumption))))|exact h_)):q:=k h.out
def mU.l0:Nat→List Int→Int→Int→Option (List Int×Int×Int)
 |0,_,_,_=>none
 |k+1,x0,x3,x4=>if x4<(x0.length:Int)then(if x4<4000 then(if 0≤x4 then(mU.l0 k x0 (Go.bits .and .i64 (wrap64 ((wrap64 ((wrap64 (x3*131))+(wrap64 (rd x0 x4))))+7)) 1073741823) (wrap64 (x4+1)))else(none))else(some (x0,0,x3)))else(some (x0,0,x3))
def mU.f (k:Nat) (l0:List Int):Option (List Int×Int×Int):=mU.l0 k l0 (wrap64 (98939+(l0.length:Int))) 0
theorem mU.calls (k:Nat) (A0:Option Addr) (c0:Nat) (l0:List Int) (r1:List Int) (r2:Int) (r3:Int) (w0 w:World) (hB:Below w0.heap.size w0 w) (cd:Kd.C (Kd.int .u8) w0 A0 l0.length l0) (hc0:l0.length≤c0) (h:mU.f k l0=some (r1,r2,r3)):
  Calls Tryz.prog 23 #[.slice A0 l0.length c0] w fun e w'=>∃g_:Nat,e= .returned (.pointer (some ⟨g_,0,none⟩))∧bQ w0 w' g_ r1 r2 r3∧Below w0.heap.size w0 w'∧Below w.heap.size w w':=by
 have aqC:=Tryz.underlying82;have dI:=A_ cd;have nh:=A_ hc0;clear cd hc0;have zL:=A_ (Below.refl w.heap.size w);have xn:=A_ hB.size;have HB:=A_ hB;clear hB;have H:(mU.l0 k l0 (wrap64 (98939+(l0.length:Int))) 0)=some (r1,r2,r3):=h;clear h;have H':=A_ H;clear H;go_enter Tryz.func23,Tryz.ntmps23;go_wp2
 go_loopg [3,4] k (fun kq v3 v4 w'=>∃(bA:Int) (aC:Int),v3= .int .i64 bA∧v4= .int .i64 aC∧aj (mU.l0 kq l0 bA aC=some (r1,r2,r3))∧aj (kq≤k)∧aj (Below w0.heap.size w0 w')∧aj (Below w.heap.size w w'))
 case atStart=>exact⟨(wrap64 (98939+(l0.length:Int))),(0),eS,eS,H',⟨Nat.le_refl _⟩,⟨oB HB⟩,⟨zL.out⟩⟩
 case round=>
  clear H' HB zL;obtain⟨bA,aC,rfl,rfl,HA,dh,HB,zL⟩:=hrel;cases gk with
  |zero=>exact absurd HA.out (by simp[mU.l0])
  |succ k1=>
   have H:=HA.out;clear HA;simp only[mU.l0]at H;by_cases c2:aC<(l0.length:Int)
   ·rw[if_pos c2]at H;have qm:decide (aC<(l0.length:Int))=true:=decide_eq_true c2;clear c2;by_cases c3:aC<4000
    ·rw[if_pos c3]at H;have c3b0:decide (aC<4000)=true:=decide_eq_true c3;clear c3;by_cases c4:0≤aC
     ·rw[if_pos c4]at H;have kj:decide (0≤aC)=true:=decide_eq_true c4;clear c4;have H':=A_ H;clear H;have p101:0≤(aC:Int):=oD;have Nq:aC<(l0.length:Int):=oD;obtain⟨alU,acr,Uh⟩:=Kd.jZ dI.out aC p101 Nq;cases acr;replace Uh:=Fa HB.out Uh;replace p101:=eq_true p101;replace Nq:=eq_true Nq;go_wp2
      go_roundg k1
      case measure=>have:=dh.out;omega
      case rel=>exact⟨(Go.bits .and .i64 (wrap64 ((wrap64 ((wrap64 (bA*131))+(wrap64 (rd l0 aC))))+7)) 1073741823),(wrap64 (aC+1)),eS,eS,H',⟨by have:=dh.out;omega⟩,⟨oB HB⟩,zL⟩
     ·rw[if_neg c4]at H;exact absurd H (by simp)
    ·rw[if_neg c3]at H;have c3b0:decide (aC<4000)=false:=decide_eq_false c3;clear c3;simp only[Option.some.injEq,Prod.mk.injEq]at H;obtain⟨rfl,rfl,rfl⟩:=H;go_wp2;go_ret;exact⟨_,rfl,⟨_,_,by simpa using heap_alloc_new _ _,HB.out.size,dI.out⟩,dB HB.out _,dB zL.out _⟩
   ·rw[if_neg c2]at H;have qm:decide (aC<(l0.length:Int))=false:=decide_eq_false c2;clear c2;simp only[Option.some.injEq,Prod.mk.injEq]at H;obtain⟨rfl,rfl,rfl⟩:=H;go_wp2;go_ret;exact⟨_,rfl,⟨_,_,by simpa using heap_alloc_new _ _,HB.out.size,dI.out⟩,dB HB.out _,dB zL.out _⟩
def spec_l19Copy.f (l0:List (ar)):Option ((List (ar))):=(some (([]:List (ar)):List (ar))).bind fun sD=>(if sD.length+l0.length<4398046511104 then(some (sD++l0))else(none))
theorem spec_l19Copy.calls (A0:Option Addr) (c0:Nat) (l0:List (ar)) (r:List (ar)) (w:World) (cd:Kd.C bl w A0 l0.length l0) (hc0:l0.length≤c0) (h:spec_l19Copy.f l0=some r):
  Calls Tryz.prog 107 #[.slice A0 l0.length c0] w fun e w'=>∃v0_:Value,e= .returned (v0_)∧Kd.R bl 110 w' w.heap.size (fun _=>True) v0_ r∧Below w.heap.size w w':=by
 have dI:=A_ cd;have nh:=A_ hc0;clear cd hc0;have HB:=A_ (Below.refl w.heap.size w);have H:((some (([]:List (ar)):List (ar))).bind fun sD=>(if sD.length+l0.length<4398046511104 then(some (sD++l0))else(none)))=some r:=h;clear h;obtain⟨sD,DT⟩:∃y_:List (ar),y_=(([]:List (ar))):=⟨_,rfl⟩;replace H:(if sD.length+l0.length<4398046511104 then(some (sD++l0))else(none))=some r:=by first|(rw[DT];with_reducible exact H)|(have aI:=(Option.bind_some _ _).symm.trans H;rw[DT];with_reducible exact aI)|(have aI:=(Option.bind_some _ _).symm.trans H;with_reducible exact aI)|with_reducible exact H|(rw[DT];exact H)|exact H
 have QI:=A_ DT;clear DT;by_cases c2:sD.length+l0.length<4398046511104
 ·rw[if_pos c2]at H;have tQ:=A_ c2;clear c2;obtain⟨akR,DU⟩:∃y_:List (ar),y_=(sD++l0):=⟨_,rfl⟩;replace H:(some akR)=some r:=by first|(rw[DU];with_reducible exact H)|(have aI:=(Option.bind_some _ _).symm.trans H;rw[DU];with_reducible exact aI)|(have aI:=(Option.bind_some _ _).symm.trans H;with_reducible exact aI)|with_reducible exact H|(rw[DU];exact H)|exact H
  have Z8:=A_ DU;clear DU;obtain rfl:=Option.some.inj H;go_enter Tryz.func107,Tryz.ntmps107
  go_wp2_with (first|((with_reducible refine gate_dst (N:=3) rfl ?_);refine Kd.iB bl _ 110 ?hg (N:=3) ?hd (xs:=([]:List (ar))) (inner:=[]) (ok:=fun _=>True) (cU:=fun _=>True) ?hr ?hp (fun _ hk=>hk) trivial (Below.refl _ _) (Nat.le_refl _) (by simp) ?_;(case hd=>rfl);(case hg=>rfl);(case hr=>first|(go_simp;done)|(go_simp;rfl));(case hp=>exact(bf.none _ _));intro v105 w3 gi hb cT dx;clear cT dx;(first|rw[←QI.out]at gi|(simp only[Int.reduceToNat]at gi;rw[←QI.out]at gi));have ah:=A_ (Kd.dr gi (bn (oB HB)));have ai:=A_ (bz (oB HB) hb);clear HB;have Qg:=ah;have HB:=ai;clear ah ai;clear hb gi)|((with_reducible refine jz (b:= .append) (xs:= #[.tmp 3,.tmp 4]) rfl ?_);at_builtin;refine Kd.xq bl (w0:=w) w.heap.size rfl (.tmp 3) (.tmp 4) 24 110 (.agg #[(.int .i64 0),(.int .i64 0),(.int .i64 0),(.int .i64 0)]) 32 rfl Tryz.underlying24 info110 rfl (by decide) (by omega) v105 sD l0 _ _ _ (fun _=>True) (fun _=>False) rfl rfl ?aO ?aR (fun _ _ h=>h) (fun _ h=>h.elim) ?aF ?aB ?aS ?aL ?_;(case aR=>exact eM dI.out);(case aB=>exact(oB HB));(case aF=>exact(fun _ _=>trivial));(case aO=>exact(oR Qg));(case aS=>exact(bn (oB HB)));(case aL=>have:=tQ.out;omega);intro arL w5 ho hb hg hat;rw[←Z8.out]at ho;have ah:=A_ (hb);have ai:=A_ (ho);clear HB;clear Qg;have HB:=ah;have Y2:=ai;clear ah ai;clear ho hb hg hat))
  go_ret;exact⟨_,eR,oR Y2,oB HB⟩
 ·rw[if_neg c2]at H;exact absurd H (by simp)
def im.f (a0:Int) (a1:Int) (a2:Int):Option (Bool):=if a0≥a1 then(some (decide (a0≤a2)))else(some false)
theorem im.calls (a0:Int) (a1:Int) (a2:Int) (r:Bool) (w:World) (h:im.f a0 a1 a2=some r):
  Calls Tryz.prog 72 #[.int .i64 a0,.int .i64 a1,.int .i64 a2] w fun e w'=>e= .returned (.bool r)∧cV w w':=by
 have H:(if a0≥a1 then(some (decide (a0≤a2)))else(some false))=some r:=h;clear h;by_cases c4:a0≥a1
 ·rw[if_pos c4]at H;have kj:decide (a1≤a0)=true:=decide_eq_true c4;clear c4;obtain rfl:=Option.some.inj H;go_enter Tryz.func72,Tryz.ntmps72;go_wp2;go_ret;exact⟨eS,by repeat(first|exact cV.refl _|apply cV.step)⟩
 ·rw[if_neg c4]at H;have kj:decide (a1≤a0)=false:=decide_eq_false c4;clear c4;obtain rfl:=Option.some.inj H;go_enter Tryz.func72,Tryz.ntmps72;go_wp2;go_ret;exact⟨eS,by repeat(first|exact cV.refl _|apply cV.step)⟩
def tz (x:ar) (t:List Bool):Bool:=
  (decide (x.f2=1)||decide (x.f2=2))&&(decide (0≤x.f3∧x.f3≤5000)&&(decide (0≤x.f0∧x.f0≤11)&&(decide (0≤x.f1∧x.f1≤11)&&(decide (x.f1=(x.f0+1)%12)&&(t.getD x.f0.toNat false&& !t.getD x.f1.toNat false)))))
def td:List ar→List Bool→Bool
  |[],_=>true
  |x::r,t=>tz x t&&td r (t.set x.f1.toNat true)
def Nl (l:List ar):Bool:=td l (true::List.replicate 11 false)&&decide (l.length≤11)
theorem acm {t:List Bool} {k:Nat} (hk:k<t.length) (h:t.getD k false=false):(t.set k true).count true=t.count true+1:=by
  rw[List.count_set hk];simp[List.getD_eq_getElem?_getD,hk]at h;simp[h]
def qK.f (l0:List (ar)):Option (Bool):=some (Nl l0)
theorem qK.calls (A0:Option Addr) (c0:Nat) (l0:List (ar)) (r:Bool) (w:World) (cd:Kd.C bl w A0 l0.length l0) (hc0:l0.length≤c0) (h:qK.f l0=some r):
    Calls Tryz.prog 109 #[.slice A0 l0.length c0] w fun e w'=>e= .returned (.bool r)∧Below w.heap.size w w':=by
  have aqB:=Tryz.underlying110;have H:=Option.some.inj h;clear h;go_enter Tryz.func109,Tryz.ntmps109
  go_wp2_with (first|((with_reducible refine gate_dst (N:=6) rfl ?_);refine Kd.Km Kd.bool _ 4 rfl (N:=6) rfl 143 _ _ rfl 12 rfl rfl Tryz.underlying143 (.bool false) 1 afh rfl (by decide) (by omega) false (ok:=fun _=>True) (cU:=fun _=>True) rfl (fun _ hk=>hk) trivial (by omega) (by omega) (Below.refl _ _) (Nat.le_refl _) ?_;intro v105 w5 Mp hb cT dx;clear cT dx;have HB:=A_ hb;obtain⟨LO,co4,eo4,SH,gl4,cl4,YW⟩:=Kd.xr Mp (by decide);subst eo4;have HO:=A_ Mp;have GB:=A_ SH;clear Mp gl4 cl4 YW hb SH;have qi4:(0<(List.replicate (Int.toNat 12) false).length)=True:=eq_true (by decide);obtain⟨Us,TE⟩:=Kd.nW false HO.out (0:Int) (by omega) (by decide);simp only[Int.toNat_zero]at Us TE))
  go_loopg [4] (l0.length+1) (fun kq v4 w'=>∃(i:Nat) (tn:List Bool),v4= .int .i64 (i:Int)∧aj (i+kq=l0.length+1)∧aj (i≤l0.length)∧aj (tn.length=12)∧aj (tn.count true=i+1)∧aj (Kd.R Kd.bool 4 w' w.heap.size (fun _=>True) (.slice (some ⟨LO,0,none⟩) 12 co4) tn)∧aj ((td (l0.drop i) tn&&decide (l0.length≤11))=r)∧aj (Below w.heap.size w w'))
  case atStart=>
    exact⟨0,true::List.replicate 11 false,rfl,⟨by omega⟩,⟨by omega⟩,⟨rfl⟩,⟨by decide⟩,⟨(Kd.xu HO.out (0:Int) true).1⟩,⟨by rw[←H];rfl⟩,⟨nZ HB.out GB.out⟩⟩
  case round=>
    obtain⟨i,tn,rfl,HK,HI,HT,HN,HA,HP,HB⟩:=hrel;clear HO qi4 Us TE;by_cases hlt:i<l0.length;rotate_left
    · have hb3:decide ((i:Int)<(l0.length:Int))=false:=decide_eq_false (by omega);have hb4:decide (i<l0.length)=false:=decide_eq_false (by omega);have h1:=HP.out;rw[List.drop_eq_nil_of_le (by omega)]at h1;by_cases h11:l0.length≤11
      · obtain rfl:true=r:=(by rw[←h1];simp[td,h11]);have pD:decide ((l0.length:Int)≤11)=true:=decide_eq_true (by omega);have LY:decide (l0.length≤11)=true:=decide_eq_true (by omega);clear h1;go_wp2;go_ret;exact⟨rfl,HB.out⟩
      · obtain rfl:false=r:=(by rw[←h1];simp[td,h11]);have pD:decide ((l0.length:Int)≤11)=false:=decide_eq_false (by omega);have LY:decide (l0.length≤11)=false:=decide_eq_false (by omega);clear h1;go_wp2;go_ret;exact⟨rfl,HB.out⟩
    · have hb3:decide ((i:Int)<(l0.length:Int))=true:=decide_eq_true (by omega);have hb4:decide (i<l0.length)=true:=decide_eq_true (by omega);obtain⟨ad,e,hx0,hx1,hx2,hx3⟩:=iC cd (i:Int) (by omega) (by omega);cases e;replace hx0:=hW HB hx0;replace hx1:=hW HB hx1;replace hx2:=hW HB hx2;replace hx3:=hW HB hx3;obtain⟨x,hx⟩:∃x,au l0 (i:Int)=x:=⟨_,rfl⟩;rw[hx]at hx0 hx1 hx2 hx3;simp only[Int.toNat_natCast]at hx0 hx1 hx2 hx3
      have hd:(td (l0.drop i) tn&&decide (l0.length≤11))=(tz x tn&&(td (l0.drop (i+1)) (tn.set x.f1.toNat true)&&decide (l0.length≤11))):=by
        rw[List.drop_eq_getElem_cons hlt];have e0:l0[i]=x:=(by rw[←hx];simp[au,List.getD_eq_getElem?_getD,hlt]);rw[e0];show(tz x tn&&td _ _&&_)=_;rw[Bool.and_assoc]
      have HX:=A_ hx;clear hx;have HD:=A_ hd;clear hd
      have win:∀(a b c:Int) (d:Bool) (W:World),decide (b≤a∧a≤c)=d→Calls Tryz.prog 72 #[.int .i64 a,.int .i64 b,.int .i64 c] W fun e w'=>e= .returned (.bool d)∧cV W w':=fun a b c d W hd=>
        im.calls a b c d W (by rw[←hd];unfold im.f;by_cases hh:b≤a<;>simp[hh])
      have tc:∀k,k<12→∀o:Obj,(wr.alloc o).cell? ⟨LO,k,none⟩=some (.bool (tn.getD k false)):=fun k hk o=>by
        have h9:=(Kd.nW false (Kd.bY HA.out o) (k:Int) (by omega) (by omega)).1;simpa[eG]using h9
      have tf:∀k,k<12→∀o:Obj,(wr.alloc o).frozen? ⟨LO,k,none⟩=false:=fun k hk o=>by
        have h9:=(Kd.nW false (Kd.bY HA.out o) (k:Int) (by omega) (by omega)).2;simpa using h9
      by_cases q0:x.f2=1∨x.f2=2;rotate_left
      · have W0:=A_ fun W=>win x.f2 1 2 false W (decide_eq_false (by omega));have Q1:=A_ q0;clear q0 win tc tf
        go_wp2_with (first|(go_at_call 72;(with_reducible refine(W0.out _).mono ?_);rintro e w' ⟨rfl,⟨nd,rfl⟩⟩))
        all_goals
          obtain rfl:false=r:=by
            rw[←HP.out,HD.out];have:=Q1.out;simp only[not_or]at this;simp[tz,this.1,this.2]
          go_ret;exact⟨rfl,by repeat(first|exact HB.out|apply dB|apply pw_below_drewN|apply fC)⟩
      have W0:=A_ fun W=>win x.f2 1 2 true W (decide_eq_true (by omega));have Q0:=A_ q0;clear q0;by_cases q1:0≤x.f3∧x.f3≤5000;rotate_left
      · have W1:=A_ fun W=>win x.f3 0 5000 false W (decide_eq_false q1);have Q1:=A_ q1;clear q1 win tc tf
        go_wp2_with (first|(go_at_call 72;(with_reducible refine(W0.out _).mono ?_);rintro e w' ⟨rfl,⟨nd,rfl⟩⟩)|(go_at_call 72;(with_reducible refine(W1.out _).mono ?_);rintro e w' ⟨rfl,⟨nd,rfl⟩⟩))
        all_goals
          obtain rfl:false=r:=by
            rw[←HP.out,HD.out];simp[tz,Q1.out]
          go_ret;exact⟨rfl,by repeat(first|exact HB.out|apply dB|apply pw_below_drewN|apply fC)⟩
      have W1:=A_ fun W=>win x.f3 0 5000 true W (decide_eq_true q1);by_cases q2:0≤x.f0∧x.f0≤11;rotate_left
      · have W2:=A_ fun W=>win x.f0 0 11 false W (decide_eq_false q2);have Q1:=A_ q2;clear q1 q2 win tc tf
        go_wp2_with (first|(go_at_call 72;(with_reducible refine(W0.out _).mono ?_);rintro e w' ⟨rfl,⟨nd,rfl⟩⟩)|(go_at_call 72;(with_reducible refine(W1.out _).mono ?_);rintro e w' ⟨rfl,⟨nd,rfl⟩⟩)|(go_at_call 72;(with_reducible refine(W2.out _).mono ?_);rintro e w' ⟨rfl,⟨nd,rfl⟩⟩))
        all_goals
          obtain rfl:false=r:=by
            rw[←HP.out,HD.out];simp[tz,Q1.out]
          go_ret;exact⟨rfl,by repeat(first|exact HB.out|apply dB|apply pw_below_drewN|apply fC)⟩
      have W2:=A_ fun W=>win x.f0 0 11 true W (decide_eq_true q2);clear win;obtain⟨VJ,q2b⟩:=q2;have Kg:=A_ q1;clear q1;by_cases q4:x.f1=(x.f0+1)%12;rotate_left
      · have NB:(x.f1==(x.f0+1)%12)=false:=beq_eq_false_iff_ne.mpr q4;have NC:(x.f1 != (x.f0+1)%12)=true:=bne_iff_ne.mpr q4;have Q4:=A_ q4;clear q4 tc tf
        go_wp2_with (first|(go_at_call 72;(with_reducible refine(W0.out _).mono ?_);rintro e w' ⟨rfl,⟨nd,rfl⟩⟩)|(go_at_call 72;(with_reducible refine(W1.out _).mono ?_);rintro e w' ⟨rfl,⟨nd,rfl⟩⟩)|(go_at_call 72;(with_reducible refine(W2.out _).mono ?_);rintro e w' ⟨rfl,⟨nd,rfl⟩⟩))
        all_goals
          obtain rfl:false=r:=by
            rw[←HP.out,HD.out];simp[tz,Q4.out]
          go_ret;exact⟨rfl,by repeat(first|exact HB.out|apply dB|apply pw_below_drewN|apply fC)⟩
      have NB:(x.f1==(x.f0+1)%12)=true:=beq_iff_eq.mpr q4;have NC:(x.f1 != (x.f0+1)%12)=false:=bne_eq_false_iff_eq.mpr q4;have VK:0≤x.f1:=(by omega);have q3b:x.f1≤11:=(by omega);have Q4:=A_ q4;clear q4;have hc0:=tc x.f0.toNat (by omega);have hc1:=tc x.f1.toNat (by omega);have hfz:=tf x.f1.toNat (by omega);clear tc tf;obtain⟨b0,hb0⟩:∃b,tn.getD x.f0.toNat false=b:=⟨_,rfl⟩;obtain⟨b1,hb1⟩:∃b,tn.getD x.f1.toNat false=b:=⟨_,rfl⟩;rw[hb0]at hc0;rw[hb1]at hc1;have B0:=A_ hb0;have B1:=A_ hb1;clear hb0 hb1;have qa:=decide_eq_true VJ;have qb:decide (x.f0<12)=true:=decide_eq_true (by omega);have qc:=decide_eq_true VK;have qd:decide (x.f1<12)=true:=decide_eq_true (by omega)
      go_wp2_with (first|(go_at_call 72;(with_reducible refine(W0.out _).mono ?_);rintro e w' ⟨rfl,⟨nd,rfl⟩⟩)|(go_at_call 72;(with_reducible refine(W1.out _).mono ?_);rintro e w' ⟨rfl,⟨nd,rfl⟩⟩)|(go_at_call 72;(with_reducible refine(W2.out _).mono ?_);rintro e w' ⟨rfl,⟨nd,rfl⟩⟩))
      all_goals first
        |(go_ret
          have e:false=r:=by
            have h3:=B0.out;have h4:=B1.out;rw[←HP.out,HD.out];unfold tz;rw[h3,h4];simp[*]
          subst e;exact⟨rfl,by repeat(first|exact HB.out|apply dB|apply pw_below_drewN|apply fC)⟩)
        |(go_roundg (gk-1)
          case measure=>have:=HK.out;omega
          case rel=>
            have hi:i≤11:=(by have h1:=HN.out;have h2:=HT.out;have h3:=@List.count_le_length _ _ true tn;omega);have hn:(tn.set x.f1.toNat true).count true=i+1+1:=(by rw[acm (by have:=HT.out;omega) (by rw[B1.out];first|assumption|simp[*]),HN.out]);refine⟨i+1,tn.set x.f1.toNat true,by rw[show wrap64 ((i:Int)+1)=((i+1:Nat):Int)by unfold wrap64;omega],⟨by have:=HK.out;omega⟩,⟨by omega⟩,⟨by rw[List.length_set];exact HT.out⟩,⟨hn⟩,⟨?_⟩,⟨?_⟩,⟨?_⟩⟩
            · refine(Kd.xu ?_ x.f1 true).1
              with_reducible repeat(first|apply Kd.bY|apply Kd.R_drewN|apply Kd.R_drew)
              exact HA.out
            · rw[←HP.out,HD.out]
              have e:tz x tn=true:=by
                have h0:=Q0.out;have h1:=Q4.out;have h2:=Kg.out;have h3:=B0.out;have h4:=B1.out;unfold tz;rw[h3,h4];simp[*];omega
              rw[e,Bool.true_and]
            · refine nZ ?_ GB.out
              repeat(first|exact HB.out|apply dB|apply pw_below_drewN|apply fC))
def spec_l18Pitch.f (a0:Int):Option (Bool):=(im.f a0 1 10000000).bind fun t110=>(some t110)
theorem spec_l18Pitch.calls (a0:Int) (r:Bool) (w:World) (h:spec_l18Pitch.f a0=some r):
  Calls Tryz.prog 111 #[.int .i64 a0] w fun e w'=>e= .returned (.bool r)∧cV w w':=by
 have H:((im.f a0 1 10000000).bind fun t110=>(some t110))=some r:=h;clear h;replace H:=Option.bind_eq_some_iff.mp H;obtain⟨t110,fh,H⟩:=H
 (try dsimp only at H)
 have A2:=A_ fh;clear fh;obtain rfl:=Option.some.inj H;go_enter Tryz.func111,Tryz.ntmps111
 go_wp2_with (first|((with_reducible refine bT (f:=72) rfl ?_);refine gL (some 4) Tryz.func72 #[.int .i64 a0,.int .i64 1,.int .i64 10000000] ?_;(with_reducible refine(im.calls a0 1 10000000 t110 _ A2.out).mono ?_);rintro e w' ⟨rfl,⟨nd,rfl⟩⟩;refine⟨_,rfl,?_⟩))
 go_ret;exact⟨eS,by repeat(first|exact cV.refl _|apply cV.step)⟩
mutual
def eZ.j0:Nat→Int→Int→Int→Bool→Option (Int)
 |0,_,_,_,_=>none
 |k+1,x0,x1,x2,Ge=>if Ge=true then(some 0)else(if x1=1 then((spec_l18Pitch.f (wrap64 (Int.tdiv (mx 0 (wrap64 ((wrap64 (3*x0))-x2))) 2))).bind fun t113=>(if t113=true then(some (wrap64 (Int.tdiv (mx 0 (wrap64 ((wrap64 (3*x0))-x2))) 2)))else(some 0)))else(if x1=2 then((spec_l18Pitch.f (wrap64 (Int.tdiv (mx 0 (wrap64 ((wrap64 (3*x0))-x2))) 4))).bind fun t114=>(if t114=true then(some (wrap64 (Int.tdiv (mx 0 (wrap64 ((wrap64 (3*x0))-x2))) 4)))else(some 0)))else(if x1=3 then(eZ.j1 k x0 x1 x2 0 (x2==0))else(eZ.j1 k x0 x1 x2 0 false))))
def eZ.j1:Nat→Int→Int→Int→Int→Bool→Option (Int)
 |0,_,_,_,_,_=>none
 |k+1,x0,x1,x2,x7,tK=>if tK=true then((spec_l18Pitch.f (wrap64 (2*x0))).bind fun t115=>(if t115=true then(some (wrap64 (2*x0)))else(some 0)))else(if x1=4 then(eZ.j2 k x0 x7 (x2==0))else(eZ.j2 k x0 x7 false))
def eZ.j2:Nat→Int→Int→Bool→Option (Int)
 |0,_,_,_=>none
 |k+1,x0,x7,x43=>if x43=true then((spec_l18Pitch.f (wrap64 (Int.tdiv x0 2))).bind fun t116=>(if t116=true then(some (wrap64 (Int.tdiv x0 2)))else(some 0)))else((spec_l18Pitch.f x7).bind fun t117=>(if t117=true then(some x7)else(some 0)))
end
def eZ.f (k:Nat) (a0:Int) (a1:Int) (a2:Int):Option (Int):=(spec_l18Pitch.f a0).bind fun t111=>(if t111=true then((im.f a2 0 100000).bind fun t112=>(eZ.j0 k a0 a1 a2 (!t112)))else(eZ.j0 k a0 a1 a2 true))
theorem eZ.calls (k:Nat) (a0:Int) (a1:Int) (a2:Int) (r:Int) (w:World) (h:eZ.f k a0 a1 a2=some r):
  Calls Tryz.prog 134 #[.int .i64 a0,.int .i64 a1,.int .i64 a2] w fun e w'=>e= .returned (.int .i64 r)∧Below w.heap.size w w':=by
 have HB:=A_ (Below.refl w.heap.size w);have H:((spec_l18Pitch.f a0).bind fun t111=>(if t111=true then((im.f a2 0 100000).bind fun t112=>(eZ.j0 k a0 a1 a2 (!t112)))else(eZ.j0 k a0 a1 a2 true)))=some r:=h;clear h;have xg:=A_ H;clear H;go_enter Tryz.func134,Tryz.ntmps134
 go_upto_region 1 with (fail)
 go_cut [15] (fun v15 wc=>∃(kq:Nat) (Jw:Bool),v15= .bool Jw∧aj (eZ.j0 kq a0 a1 a2 Jw=some r)∧aj (kq≤k)∧aj (Below w.heap.size w wc))
 case first=>
  have H:=xg.out;clear xg;replace H:=Option.bind_eq_some_iff.mp H;obtain⟨t111,k9,H⟩:=H
  (try dsimp only at H)
  have A5:=A_ k9;clear k9;by_cases c6:t111=true
  ·subst c6;rw[if_pos rfl]at H;replace H:=Option.bind_eq_some_iff.mp H;obtain⟨t112,mo,H⟩:=H
   (try dsimp only at H)
   have A7:=A_ mo;clear mo;have H':=A_ H;clear H
   go_wp2_with (first|((with_reducible refine bT (f:=111) rfl ?_);refine gL (some 9) Tryz.func111 #[.int .i64 a0] ?_;(with_reducible refine(spec_l18Pitch.calls a0 true _ A5.out).mono ?_);rintro e w' ⟨rfl,⟨nd,rfl⟩⟩;refine⟨_,rfl,?_⟩)|(go_at_call 72;(with_reducible refine(im.calls a2 0 100000 t112 _ A7.out).mono ?_);rintro e w' ⟨rfl,⟨nd,rfl⟩⟩))
   go_meet
   case rel=>exact⟨_,(!t112),eS,H',⟨by first|omega|exact Nat.le_refl _⟩,⟨oB HB⟩⟩
  ·replace c6:=Bool.eq_false_iff.mpr c6;subst c6;rw[if_neg (show¬(false=true)by decide)]at H;have H':=A_ H;clear H
   go_wp2_with (first|((with_reducible refine bT (f:=111) rfl ?_);refine gL (some 9) Tryz.func111 #[.int .i64 a0] ?_;(with_reducible refine(spec_l18Pitch.calls a0 false _ A5.out).mono ?_);rintro e w' ⟨rfl,⟨nd,rfl⟩⟩;refine⟨_,rfl,?_⟩))
   go_meet
   case rel=>exact⟨_,(true),eS,H',⟨by first|omega|exact Nat.le_refl _⟩,⟨oB HB⟩⟩
 case rest=>
  clear xg
  try clear c1
  try clear p2
  try clear c6
  obtain⟨kq,Jw,rfl,HA,HJ3,HB⟩:=hcut;cases kq with
  |zero=>exact absurd HA.out (by simp[eZ.j0])
  |succ UQ=>
   have H:=HA.out;clear HA;simp only[eZ.j0]at H;by_cases c8:Jw=true
   ·subst c8;rw[if_pos rfl]at H;obtain rfl:=Option.some.inj H;go_wp2;go_ret;exact⟨eR,oB HB⟩
   ·replace c8:=Bool.eq_false_iff.mpr c8;subst c8;rw[if_neg (show¬(false=true)by decide)]at H;by_cases c9:a1=1
    ·rw[if_pos c9]at H;have mF:(a1==1)=true:=beq_iff_eq.mpr c9;have sS:(a1 != 1)=false:=bne_eq_false_iff_eq.mpr c9;clear c9;obtain⟨yt,hji10⟩:∃j_:Int,(mx 0 (wrap64 ((wrap64 (3*a0))-a2)))=j_:=⟨_,rfl⟩;replace H:((spec_l18Pitch.f (wrap64 (Int.tdiv (yt) 2))).bind fun t113=>(if t113=true then(some (wrap64 (Int.tdiv (yt) 2)))else(some 0)))=some r:=by first|(rw[hji10]at H;exact H)|(simp only[hji10]at H ⊢;exact H)
     have ap9:(if 0<(wrap64 ((wrap64 (3*a0))-a2))then(wrap64 ((wrap64 (3*a0))-a2))else 0)=yt:=hji10;replace H:=Option.bind_eq_some_iff.mp H;obtain⟨t113,qW,H⟩:=H
     (try dsimp only at H)
     have vr:=A_ qW;clear qW;by_cases c12:t113=true
     ·subst c12;rw[if_pos rfl]at H;obtain rfl:=Option.some.inj H
      go_wp2_with (first|((with_reducible refine bT (f:=111) rfl ?_);refine ur (some 53) rfl rfl Tryz.func111 (by kernel_rfl) rfl #[.int .i64 (wrap64 (Int.tdiv (yt) 2))] rfl (by(try simp only[List.map_toArray,List.map_cons,List.map_nil]);first|done|(simp only[hji10];rfl)|rfl|(simp only[List.length_drop,List.length_take];rfl)) ?_;(with_reducible refine(spec_l18Pitch.calls (wrap64 (Int.tdiv (yt) 2)) true _ vr.out).mono ?_);rintro e w' ⟨rfl,⟨nd,rfl⟩⟩;refine⟨_,rfl,?_⟩))
      go_ret;exact⟨by first|rfl|(simp[errW_none,errW_some]<;>rfl)|(simp only[←hji10];first|rfl|(simp[errW_none,errW_some]<;>rfl))|(simp[*,errW_none,errW_some]<;>rfl),oB HB⟩
     ·replace c12:=Bool.eq_false_iff.mpr c12;subst c12;rw[if_neg (show¬(false=true)by decide)]at H;obtain rfl:=Option.some.inj H
      go_wp2_with (first|((with_reducible refine bT (f:=111) rfl ?_);refine ur (some 53) rfl rfl Tryz.func111 (by kernel_rfl) rfl #[.int .i64 (wrap64 (Int.tdiv (yt) 2))] rfl (by(try simp only[List.map_toArray,List.map_cons,List.map_nil]);first|done|(simp only[hji10];rfl)|rfl|(simp only[List.length_drop,List.length_take];rfl)) ?_;(with_reducible refine(spec_l18Pitch.calls (wrap64 (Int.tdiv (yt) 2)) false _ vr.out).mono ?_);rintro e w' ⟨rfl,⟨nd,rfl⟩⟩;refine⟨_,rfl,?_⟩))
      go_ret;exact⟨by first|rfl|(simp[errW_none,errW_some]<;>rfl)|(simp only[←hji10];first|rfl|(simp[errW_none,errW_some]<;>rfl))|(simp[*,errW_none,errW_some]<;>rfl),oB HB⟩
    ·rw[if_neg c9]at H;have mF:(a1==1)=false:=beq_eq_false_iff_ne.mpr c9;have sS:(a1 != 1)=true:=bne_iff_ne.mpr c9;by_cases c13:a1=2
     ·rw[if_pos c13]at H;have ua:(a1==2)=true:=beq_iff_eq.mpr c13;have xO:(a1 != 2)=false:=bne_eq_false_iff_eq.mpr c13;clear c13;obtain⟨yv,hji14⟩:∃j_:Int,(mx 0 (wrap64 ((wrap64 (3*a0))-a2)))=j_:=⟨_,rfl⟩;replace H:((spec_l18Pitch.f (wrap64 (Int.tdiv (yv) 4))).bind fun t114=>(if t114=true then(some (wrap64 (Int.tdiv (yv) 4)))else(some 0)))=some r:=by first|(rw[hji14]at H;exact H)|(simp only[hji14]at H ⊢;exact H)
      have ap':(if 0<(wrap64 ((wrap64 (3*a0))-a2))then(wrap64 ((wrap64 (3*a0))-a2))else 0)=yv:=hji14;replace H:=Option.bind_eq_some_iff.mp H;obtain⟨t114,Pw,H⟩:=H
      (try dsimp only at H)
      have Pv:=A_ Pw;clear Pw;by_cases c16:t114=true
      ·subst c16;rw[if_pos rfl]at H;obtain rfl:=Option.some.inj H
       go_wp2_with (first|((with_reducible refine bT (f:=111) rfl ?_);refine ur (some 53) rfl rfl Tryz.func111 (by kernel_rfl) rfl #[.int .i64 (wrap64 (Int.tdiv (yv) 4))] rfl (by(try simp only[List.map_toArray,List.map_cons,List.map_nil]);first|done|(simp only[hji14];rfl)|rfl|(simp only[List.length_drop,List.length_take];rfl)) ?_;(with_reducible refine(spec_l18Pitch.calls (wrap64 (Int.tdiv (yv) 4)) true _ Pv.out).mono ?_);rintro e w' ⟨rfl,⟨nd,rfl⟩⟩;refine⟨_,rfl,?_⟩))
       go_ret;exact⟨by first|rfl|(simp[errW_none,errW_some]<;>rfl)|(simp only[←hji14];first|rfl|(simp[errW_none,errW_some]<;>rfl))|(simp[*,errW_none,errW_some]<;>rfl),oB HB⟩
      ·replace c16:=Bool.eq_false_iff.mpr c16;subst c16;rw[if_neg (show¬(false=true)by decide)]at H;obtain rfl:=Option.some.inj H
       go_wp2_with (first|((with_reducible refine bT (f:=111) rfl ?_);refine ur (some 53) rfl rfl Tryz.func111 (by kernel_rfl) rfl #[.int .i64 (wrap64 (Int.tdiv (yv) 4))] rfl (by(try simp only[List.map_toArray,List.map_cons,List.map_nil]);first|done|(simp only[hji14];rfl)|rfl|(simp only[List.length_drop,List.length_take];rfl)) ?_;(with_reducible refine(spec_l18Pitch.calls (wrap64 (Int.tdiv (yv) 4)) false _ Pv.out).mono ?_);rintro e w' ⟨rfl,⟨nd,rfl⟩⟩;refine⟨_,rfl,?_⟩))
       go_ret;exact⟨by first|rfl|(simp[errW_none,errW_some]<;>rfl)|(simp only[←hji14];first|rfl|(simp[errW_none,errW_some]<;>rfl))|(simp[*,errW_none,errW_some]<;>rfl),oB HB⟩
     ·rw[if_neg c13]at H;have ua:(a1==2)=false:=beq_eq_false_iff_ne.mpr c13;have xO:(a1 != 2)=true:=bne_iff_ne.mpr c13;have JU:=A_ H;clear H
      go_upto_region 8 with (fail)
      go_cut [34] (fun v34 wc=>∃(kq:Nat) (JA:Bool),v34= .bool JA∧aj (eZ.j1 kq a0 a1 a2 0 JA=some r)∧aj (kq≤UQ)∧aj (Below w.heap.size w wc))
      case first=>
       have H:=JU.out;clear JU;by_cases c18:a1=3
       ·rw[if_pos c18]at H;have vS:(a1==3)=true:=beq_iff_eq.mpr c18;have K7:(a1 != 3)=false:=bne_eq_false_iff_eq.mpr c18;clear c18
        (first|rw[vS]|(simp only[eJ,gj];rw[vS])|skip)
        have H':=A_ H;clear H;go_wp2
        go_meet
        case rel=>exact⟨_,((a2==0)),eS,H',⟨by have:=HJ3.out;first|omega|exact Nat.le_refl _⟩,⟨oB HB⟩⟩
       ·rw[if_neg c18]at H;have vS:(a1==3)=false:=beq_eq_false_iff_ne.mpr c18;have K7:(a1 != 3)=true:=bne_iff_ne.mpr c18
        (first|rw[vS]|(simp only[eJ,gj];rw[vS])|skip)
        have H':=A_ H;clear H;go_wp2
        go_meet
        case rel=>exact⟨_,(false),eS,H',⟨by have:=HJ3.out;first|omega|exact Nat.le_refl _⟩,⟨oB HB⟩⟩
      case rest=>
       clear JU
       try clear c1
       try clear p2
       try clear c6
       try clear p6
       try clear c8
       try clear c9
       try clear mF
       try clear sS
       try clear c11
       try clear c12
       try clear c13
       try clear ua
       try clear xO
       try clear c16
       try clear c18
       try clear vS
       try clear K7
       try clear p2
       obtain⟨kq,JA,rfl,HA,Qe,HB⟩:=hcut;cases kq with
       |zero=>exact absurd HA.out (by simp[eZ.j1])
       |succ afR=>
        have H:=HA.out;clear HA;simp only[eZ.j1]at H;by_cases c19:JA=true
        ·subst c19;rw[if_pos rfl]at H;replace H:=Option.bind_eq_some_iff.mp H;obtain⟨t115,Pz,H⟩:=H
         (try dsimp only at H)
         have fh:=A_ Pz;clear Pz;by_cases c21:t115=true
         ·subst c21;rw[if_pos rfl]at H;obtain rfl:=Option.some.inj H
          go_wp2_with (first|((with_reducible refine bT (f:=111) rfl ?_);refine gL (some 53) Tryz.func111 #[.int .i64 (wrap64 (2*a0))] ?_;(with_reducible refine(spec_l18Pitch.calls (wrap64 (2*a0)) true _ fh.out).mono ?_);rintro e w' ⟨rfl,⟨nd,rfl⟩⟩;refine⟨_,rfl,?_⟩))
          go_ret;exact⟨eR,oB HB⟩
         ·replace c21:=Bool.eq_false_iff.mpr c21;subst c21;rw[if_neg (show¬(false=true)by decide)]at H;obtain rfl:=Option.some.inj H
          go_wp2_with (first|((with_reducible refine bT (f:=111) rfl ?_);refine gL (some 53) Tryz.func111 #[.int .i64 (wrap64 (2*a0))] ?_;(with_reducible refine(spec_l18Pitch.calls (wrap64 (2*a0)) false _ fh.out).mono ?_);rintro e w' ⟨rfl,⟨nd,rfl⟩⟩;refine⟨_,rfl,?_⟩))
          go_ret;exact⟨eR,oB HB⟩
        ·replace c19:=Bool.eq_false_iff.mpr c19;subst c19;rw[if_neg (show¬(false=true)by decide)]at H;have JV:=A_ H;clear H
         go_upto_region 10 with (fail)
         go_cut [43] (fun v43 wc=>∃(kq:Nat) (JD:Bool),v43= .bool JD∧aj (eZ.j2 kq a0 0 JD=some r)∧aj (kq≤afR)∧aj (Below w.heap.size w wc))
         case first=>
          have H:=JV.out;clear JV;by_cases ju:a1=4
          ·rw[if_pos ju]at H;have ub:(a1==4)=true:=beq_iff_eq.mpr ju;have Hl:(a1 != 4)=false:=bne_eq_false_iff_eq.mpr ju;clear ju
           (first|rw[ub]|(simp only[eJ,gj];rw[ub])|skip)
           have H':=A_ H;clear H;go_wp2
           go_meet
           case rel=>exact⟨_,((a2==0)),eS,H',⟨by have:=HJ3.out;have:=Qe.out;first|omega|exact Nat.le_refl _⟩,⟨oB HB⟩⟩
          ·rw[if_neg ju]at H;have ub:(a1==4)=false:=beq_eq_false_iff_ne.mpr ju;have Hl:(a1 != 4)=true:=bne_iff_ne.mpr ju
           (first|rw[ub]|(simp only[eJ,gj];rw[ub])|skip)
           have H':=A_ H;clear H;go_wp2
           go_meet
           case rel=>exact⟨_,(false),eS,H',⟨by have:=HJ3.out;have:=Qe.out;first|omega|exact Nat.le_refl _⟩,⟨oB HB⟩⟩
         case rest=>
          clear JV
          try clear c1
          try clear c2
          try clear p2
          try clear c6
          try clear p6
          try clear c8
          try clear c9
          try clear mF
          try clear sS
          try clear c11
          try clear c12
          try clear c13
          try clear ua
          try clear xO
          try clear c16
          try clear c18
          try clear vS
          try clear K7
          try clear c19
          try clear c21
          try clear ju
          try clear ub
          try clear Hl
          try clear p2
          try clear p6
          obtain⟨kq,JD,rfl,HA,alF,HB⟩:=hcut;cases kq with
          |zero=>exact absurd HA.out (by simp[eZ.j2])
          |succ aq'=>
           have H:=HA.out;clear HA;simp only[eZ.j2]at H;by_cases c24:JD=true
           ·subst c24;rw[if_pos rfl]at H;replace H:=Option.bind_eq_some_iff.mp H;obtain⟨t116,PB,H⟩:=H
            (try dsimp only at H)
            have PA:=A_ PB;clear PB;by_cases kF:t116=true
            ·subst kF;rw[if_pos rfl]at H;obtain rfl:=Option.some.inj H
             go_wp2_with (first|((with_reducible refine bT (f:=111) rfl ?_);refine gL (some 53) Tryz.func111 #[.int .i64 (wrap64 (Int.tdiv a0 2))] ?_;(with_reducible refine(spec_l18Pitch.calls (wrap64 (Int.tdiv a0 2)) true _ PA.out).mono ?_);rintro e w' ⟨rfl,⟨nd,rfl⟩⟩;refine⟨_,rfl,?_⟩))
             go_ret;exact⟨eR,oB HB⟩
            ·replace kF:=Bool.eq_false_iff.mpr kF;subst kF;rw[if_neg (show¬(false=true)by decide)]at H;obtain rfl:=Option.some.inj H
             go_wp2_with (first|((with_reducible refine bT (f:=111) rfl ?_);refine gL (some 53) Tryz.func111 #[.int .i64 (wrap64 (Int.tdiv a0 2))] ?_;(with_reducible refine(spec_l18Pitch.calls (wrap64 (Int.tdiv a0 2)) false _ PA.out).mono ?_);rintro e w' ⟨rfl,⟨nd,rfl⟩⟩;refine⟨_,rfl,?_⟩))
             go_ret;exact⟨eR,oB HB⟩
           ·replace c24:=Bool.eq_false_iff.mpr c24;subst c24;rw[if_neg (show¬(false=true)by decide)]at H;replace H:=Option.bind_eq_some_iff.mp H;obtain⟨t117,PF,H⟩:=H
            (try dsimp only at H)
            have PE:=A_ PF;clear PF;by_cases c28:t117=true
            ·subst c28;rw[if_pos rfl]at H;obtain rfl:=Option.some.inj H
             go_wp2_with (first|((with_reducible refine bT (f:=111) rfl ?_);refine gL (some 53) Tryz.func111 #[.int .i64 0] ?_;(with_reducible refine(spec_l18Pitch.calls 0 true _ PE.out).mono ?_);rintro e w' ⟨rfl,⟨nd,rfl⟩⟩;refine⟨_,rfl,?_⟩))
             go_ret;exact⟨eR,oB HB⟩
            ·replace c28:=Bool.eq_false_iff.mpr c28;subst c28;rw[if_neg (show¬(false=true)by decide)]at H;obtain rfl:=Option.some.inj H
             go_wp2_with (first|((with_reducible refine bT (f:=111) rfl ?_);refine gL (some 53) Tryz.func111 #[.int .i64 0] ?_;(with_reducible refine(spec_l18Pitch.calls 0 false _ PE.out).mono ?_);rintro e w' ⟨rfl,⟨nd,rfl⟩⟩;refine⟨_,rfl,?_⟩))
             go_ret;exact⟨eR,oB HB⟩
mutual
def fw.j0:Nat→Int→List (ar)→Bool→Option (List Int×Bool)
 |0,_,_,_=>none
 |k+1,x0,x1,o0=>if o0=true then(some ((([]:List Int)),false))else(if 12≤35184372088832 then((some (List.replicate 12 0:List Int)).bind fun pV=>(if 0<(pV.length:Int)then(fw.l0 k x1 (pV.set (0:Int).toNat x0) 0)else(none)))else(none))
def fw.l0:Nat→List (ar)→List Int→Int→Option (List Int×Bool)
 |0,_,_,_=>none
 |k+1,x1,x6,x7=>if x7<(x1.length:Int)then(if 0≤x7 then(if 0≤((au x1 x7).f0)then(if((au x1 x7).f0)<(x6.length:Int)then((eZ.f k (rd x6 ((au x1 x7).f0)) ((au x1 x7).f2) ((au x1 x7).f3)).bind fun t131=>(if t131=0 then(some ((([]:List Int)),false))else(if 0≤((au x1 x7).f1)then(if((au x1 x7).f1)<(x6.length:Int)then(fw.l0 k x1 (x6.set (((au x1 x7).f1):Int).toNat t131) (wrap64 (x7+1)))else(none))else(none))))else(none))else(none))else(none))else(some (x6,true))
end
def fw.f (k:Nat) (a0:Int) (l1:List (ar)):Option (List Int×Bool):=(qK.f l1).bind fun t118=>(if t118=true then((spec_l18Pitch.f a0).bind fun t119=>(fw.j0 k a0 l1 (!t119)))else(fw.j0 k a0 l1 true))
def fw.T8:Bool×List (List Nat×List Nat):=(true,[([],[]),([],[]),([],[]),([1,2],[1,2]),([3],[3]),([4],[4]),([0,5],[0,5]),([6],[6]),([],[]),([],[]),([8,9],[8,9]),([10],[10]),([11],[11]),([],[]),([],[]),([13,14],[13,14]),([15],[15]),([16],[16]),([7,12,17],[7,12,17]),([18,18,0,1,2,3,4,5,6,7,8,9,10,11,12,13,14,15,16,17,18],[18])])
def fw.B8:List Nat:=[0,0,0,6,14,30,63,127,0,0,768,1792,3840,0,0,24576,57344,122880,262143,524287]
theorem fw.tD:rtab .any (opsOf Tryz.f151 8)=fw.T8:=by kernel_rfl
theorem fw.sN:eN fw.T8.2 fw.B8=true:=by kernel_rfl
theorem fw.calls (k:Nat) (a0:Int) (A1:Option Addr) (c1:Nat) (l1:List (ar)) (r1:List Int) (r2:Bool) (w:World) (hr1:Kd.C bl w A1 l1.length l1) (hc1:l1.length≤c1) (h:fw.f k a0 l1=some (r1,r2)):
  Calls Tryz.prog 151 #[.int .i64 a0,.slice A1 l1.length c1] w fun e w'=>∃v0_:Value,e= .returned (.tuple #[v0_,.bool r2])∧Kd.R (Kd.int .i64) 3 w' w.heap.size (fun _=>True) v0_ r1∧Below w.heap.size w w':=by
 have kg:=A_ hr1;have qZ:=A_ hc1;clear hr1 hc1;have HB:=A_ (Below.refl w.heap.size w);have H:((qK.f l1).bind fun t118=>(if t118=true then((spec_l18Pitch.f a0).bind fun t119=>(fw.j0 k a0 l1 (!t119)))else(fw.j0 k a0 l1 true)))=some (r1,r2):=h;clear h;have xf:=A_ H;clear H;go_enter Tryz.func151,Tryz.ntmps151
 go_upto_region 1 with (fail)
 go_cut [16] (fun v16 wc=>∃(kq:Nat) (x16_2:Bool),v16= .bool x16_2∧aj (fw.j0 kq a0 l1 x16_2=some (r1,r2))∧aj (kq≤k)∧aj (Below w.heap.size w wc))
 case first=>
  have H:=xf.out;clear xf;replace H:=Option.bind_eq_some_iff.mp H;obtain⟨t118,mn,H⟩:=H
  (try dsimp only at H)
  have A4:=A_ mn;clear mn;by_cases c5:t118=true
  ·subst c5;rw[if_pos rfl]at H;replace H:=Option.bind_eq_some_iff.mp H;obtain⟨t119,oy,H⟩:=H
   (try dsimp only at H)
   have A6:=A_ oy;clear oy;have H':=A_ H;clear H
   go_wp2_with (first|((with_reducible refine bT (f:=109) rfl ?_);refine gL (some 10) Tryz.func109 #[.slice A1 l1.length c1] ?_;(with_reducible refine(qK.calls _ _ l1 true _ ?bG ?bH A4.out).mono ?_);(case bG=>exact eM kg.out);(case bH=>exact qZ.out);rintro e w7 ⟨rfl,hb⟩;refine⟨_,rfl,?_⟩;have ah:=A_ (bz (oB HB) hb);clear HB;have HB:=ah;clear ah;(try clear hb);(try clear hb2);(try clear hk);(try clear hi))|(go_at_call 111;(with_reducible refine(spec_l18Pitch.calls a0 t119 _ A6.out).mono ?_);rintro e w' ⟨rfl,⟨nd,rfl⟩⟩))
   go_meet
   case rel=>exact⟨_,(!t119),eS,H',⟨by first|omega|exact Nat.le_refl _⟩,⟨oB HB⟩⟩
  ·replace c5:=Bool.eq_false_iff.mpr c5;subst c5;rw[if_neg (show¬(false=true)by decide)]at H;have H':=A_ H;clear H
   go_wp2_with (first|((with_reducible refine bT (f:=109) rfl ?_);refine gL (some 10) Tryz.func109 #[.slice A1 l1.length c1] ?_;(with_reducible refine(qK.calls _ _ l1 false _ ?bG ?bH A4.out).mono ?_);(case bG=>exact eM kg.out);(case bH=>exact qZ.out);rintro e w8 ⟨rfl,hb⟩;refine⟨_,rfl,?_⟩;have ah:=A_ (bz (oB HB) hb);clear HB;have HB:=ah;clear ah;(try clear hb);(try clear hb2);(try clear hk);(try clear hi)))
   go_meet
   case rel=>exact⟨_,(true),eS,H',⟨by first|omega|exact Nat.le_refl _⟩,⟨oB HB⟩⟩
 case rest=>
  clear xf
  try clear c1
  try clear p2
  try clear c5
  obtain⟨kq,x16_2,rfl,HA,zO,HB⟩:=hcut;cases kq with
  |zero=>exact absurd HA.out (by simp[fw.j0])
  |succ uU=>
   have H:=HA.out;clear HA;simp only[fw.j0]at H;by_cases c9:x16_2=true
   ·subst c9;rw[if_pos rfl]at H;obtain⟨akS,DV⟩:∃y_:List Int,y_=(([]:List Int)):=⟨_,rfl⟩;replace H:(some (akS,false))=some (r1,r2):=by first|(rw[DV];with_reducible exact H)|(have aI:=(Option.bind_some _ _).symm.trans H;rw[DV];with_reducible exact aI)|(have aI:=(Option.bind_some _ _).symm.trans H;with_reducible exact aI)|with_reducible exact H|(rw[DV];exact H)|exact H
    have QJ:=A_ DV;clear DV;simp only[Option.some.injEq,Prod.mk.injEq]at H;obtain⟨rfl,rfl⟩:=H
    go_wp2_with (first|((with_reducible refine gate_dst (N:=17) rfl ?_);refine Kd.iB (Kd.int .i64) _ 3 ?hg (N:=17) ?hd (xs:=([]:List Int)) (inner:=[]) (ok:=fun _=>True) (cU:=fun _=>True) ?hr ?hp (fun _ hk=>hk) trivial (Below.refl _ _) (Nat.le_refl _) (by simp) ?_;(case hd=>rfl);(case hg=>rfl);(case hr=>first|(go_simp;done)|(go_simp;rfl));(case hp=>exact(bf.none _ _));intro arM lJ mI hb cT dx;clear cT dx;(first|rw[←QJ.out]at mI|(simp only[Int.reduceToNat]at mI;rw[←QJ.out]at mI));have ah:=A_ (Kd.dr mI (bn (oB HB)));have ai:=A_ (bz (oB HB) hb);clear HB;have Y3:=ah;have HB:=ai;clear ah ai;clear hb mI))
    go_ret2;exact⟨_,eR,oR Y3,oB HB⟩
   ·replace c9:=Bool.eq_false_iff.mpr c9;subst c9;rw[if_neg (show¬(false=true)by decide)]at H;by_cases c12:12≤35184372088832
    ·rw[if_pos c12]at H;have Hj:=eq_true c12;have Hk:decide (12≤35184372088832)=true:=decide_eq_true c12;clear c12;obtain⟨pV,DW⟩:∃y_:List Int,y_=(List.replicate 12 0):=⟨_,rfl⟩;replace H:(if 0<(pV.length:Int)then(fw.l0 uU l1 (pV.set (0:Int).toNat a0) 0)else(none))=some (r1,r2):=by first|(rw[DW];with_reducible exact H)|(have aI:=(Option.bind_some _ _).symm.trans H;rw[DW];with_reducible exact aI)|(have aI:=(Option.bind_some _ _).symm.trans H;with_reducible exact aI)|with_reducible exact H|(rw[DW];exact H)|exact H
     have QK:=A_ DW;clear DW;by_cases c13:0<(pV.length:Int)
     ·rw[if_pos c13]at H;have ua:decide (0<(pV.length:Int))=true:=decide_eq_true c13;have xO:decide (0<pV.length)=true:=decide_eq_true (by omega);clear c13;obtain⟨Pf,DX⟩:∃y_:List Int,y_=(pV.set (0:Int).toNat a0):=⟨_,rfl⟩;replace H:(fw.l0 uU l1 Pf 0)=some (r1,r2):=by first|(rw[DX];with_reducible exact H)|(have aI:=(Option.bind_some _ _).symm.trans H;rw[DX];with_reducible exact aI)|(have aI:=(Option.bind_some _ _).symm.trans H;with_reducible exact aI)|with_reducible exact H|(rw[DX];exact H)|exact H
      have Z9:=A_ DX;clear DX;have H':=A_ H;clear H
      go_wp2_with (first|((with_reducible refine gate_dst (N:=18) rfl ?_);refine Kd.Km (Kd.int .i64) _ 3 rfl (N:=18) rfl 25 _ _ rfl 12 rfl rfl Tryz.underlying25 (.int .i64 0) 8 info3 rfl (by decide) (by omega) 0 (ok:=fun _=>True) (cU:=fun _=>True) rfl (fun _ hk=>hk) trivial (by omega) (by omega) (Below.refl _ _) (Nat.le_refl _) ?_;intro v124 l4 Dg hb cT dx;clear cT dx;(first|rw[←QK.out]at Dg|(simp only[Int.reduceToNat]at Dg;rw[←QK.out]at Dg));have ah:=A_ (Kd.dr Dg (bn (oB HB)));have ai:=A_ (bz (oB HB) hb);clear HB;have xh:=ah;have HB:=ai;clear ah ai;clear hb Dg;have E8:0≤(0:Int):=(by omega);have Fb:(0:Int)<((pV.length:Int):Int):=oD;have ahz:(0<pV.length)=True:=eq_true (by omega);obtain⟨rQ,oI,eo14,SG,ada,amt,Qa⟩:=Kd.xr xh.out (by omega);(first|cases eo14|(injection eo14 with lQ xT xS;(first|subst lQ|(injection lQ with lQ;subst lQ));subst xS;clear xT));have GB14:=A_ SG;have als:=A_ Qa;clear SG ada Qa;obtain⟨Mu,TD⟩:=Kd.nW 0 xh.out (0:Int) E8 Fb;(try rw[show((0:Int)).toNat=0 from rfl]at Mu);(try simp only[Nat.reduceMul,Nat.zero_mul,Nat.zero_add,Nat.reduceAdd]at Mu);(try rw[show((0:Int)).toNat=0 from rfl]at TD);(try simp only[Nat.reduceMul,Nat.zero_mul,Nat.zero_add,Nat.reduceAdd]at TD);replace E8:=eq_true E8;replace Fb:=eq_true Fb;obtain⟨UA,UD⟩:=Kd.nW 0 xh.out (0:Int) (by omega) (oD);(try simp only[Int.reduceToNat,Int.toNat_zero,Int.toNat_ofNat,Nat.reduceMul,Nat.zero_mul,Nat.zero_add]at UA UD);(try rw[show((0:Int)).toNat=0 from rfl]at UA);(try rw[show((0:Int)).toNat=0 from rfl]at UD);have J3:=Kd.xu xh.out (0:Int) a0)|((with_reducible refine AL (t:=3) (p:=21) rfl ?_);refine Br (t:=3) (p:=21) (v:= ?asO) (w1:=(l4.setCell ⟨rQ,(0:Int).toNat,none⟩ (.int .i64 a0))) ?hg ?ho ?hn ?hr ?_;(case ho=>rfl);(case hg=>rfl);(case hn=>rfl);(case hr=>first|(go_simp;done)|(go_simp;rfl));intro FZ hw;have hg:l4.grownBy FZ (some rQ):=(by rw[hw];exact J3.2);have mJ:Kd.R (Kd.int .i64) 3 FZ w.heap.size (fun _=>True) (.slice (some ⟨rQ,0,none⟩) pV.length oI) Pf:=(by rw[hw,Z9.out];exact J3.1);clear J3;have ah:=A_ (mJ);have ai:=A_ ((by rw[hw];exact nZ (HB.out) GB14.out:Below w.heap.size w FZ));clear xh;clear HB;have xh:=ah;have HB:=ai;clear ah ai;clear hg hw mJ))
      go_loopg [7] uU (fun kq v7 w'=>∃(x6_2:List Int) (bo:Int),v7= .int .i64 bo∧aj (fw.l0 kq l1 x6_2 bo=some (r1,r2))∧aj (kq≤uU)∧aj (Kd.R (Kd.int .i64) 3 w' w.heap.size (fun _=>True) (.slice (some ⟨rQ,0,none⟩) pV.length oI) x6_2)∧aj (Below w.heap.size w w'))
      case atStart=>exact⟨(Pf),(0),eS,H',⟨Nat.le_refl _⟩,⟨oR xh⟩,⟨oB HB⟩⟩
      case round=>
       clear H'
       try clear c1
       try clear p1
       try clear q1
       try clear hx1
       try clear qi1
       try clear p2
       try clear c5
       try clear c9
       try clear c10
       try clear c12
       try clear Hj
       try clear Hk
       try clear c13
       try clear ua
       try clear xO
       try clear E8
       try clear Fb
       try clear aqK
       try clear ahz
       try clear aow
       try clear c15
       try clear Mu
       try clear E8
       try clear p2
       try clear Fb
       obtain⟨x6_2,bo,rfl,HA,jJ,cY,HB⟩:=hrel;have ux:=(Kd.ct cY.out).1;rw[ux]at cY
       (try simp only[ux])
       cases gk with
       |zero=>exact absurd HA.out (by simp[fw.l0])
       |succ k2=>
        have H:=HA.out;clear HA;simp only[fw.l0]at H;by_cases c19:bo<(l1.length:Int)
        ·rw[if_pos c19]at H;have vT:decide (bo<(l1.length:Int))=true:=decide_eq_true c19;clear c19;by_cases c20:0≤bo
         ·rw[if_pos c20]at H;have vU:decide (0≤bo)=true:=decide_eq_true c20;clear c20;by_cases c21:0≤((au l1 bo).f0)
          ·rw[if_pos c21]at H;have RR:decide (0≤((au l1 bo).f0))=true:=decide_eq_true c21;clear c21;by_cases lv:((au l1 bo).f0)<(x6_2.length:Int)
           ·rw[if_pos lv]at H;have abI:decide (((au l1 bo).f0)<(x6_2.length:Int))=true:=decide_eq_true lv;clear lv;replace H:=Option.bind_eq_some_iff.mp H;obtain⟨t131,BZ,H⟩:=H
            (try dsimp only at H)
            have A23:=A_ BZ;clear BZ;by_cases c24:t131=0
            ·rw[if_pos c24]at H;have RS:(t131==0)=true:=beq_iff_eq.mpr c24;have abJ:(t131 != 0)=false:=bne_eq_false_iff_eq.mpr c24;clear c24;obtain⟨akT,DY⟩:∃y_:List Int,y_=(([]:List Int)):=⟨_,rfl⟩;replace H:(some (akT,false))=some (r1,r2):=by first|(rw[DY];with_reducible exact H)|(have aI:=(Option.bind_some _ _).symm.trans H;rw[DY];with_reducible exact aI)|(have aI:=(Option.bind_some _ _).symm.trans H;with_reducible exact aI)|with_reducible exact H|(rw[DY];exact H)|exact H
             have QL:=A_ DY;clear DY;simp only[Option.some.injEq,Prod.mk.injEq]at H;obtain⟨rfl,rfl⟩:=H
             try go_wp2
             have ah:=A_ (Kd.R_drew cY.out);have ai:=A_ (fC HB.out);clear cY;clear HB;have cY:=ah;have HB:=ai;clear ah ai;have yF:0≤(bo:Int):=oD;have q127:bo<(l1.length:Int):=oD;obtain⟨eI,Lf,uA,uB,uC,uD⟩:=iC kg.out bo yF q127;have Ds:=uD;have Dr:=uC;have Dq:=uB;have Dp:=uA;cases Lf;replace uA:=hW HB uA;replace uB:=hW HB uB;replace uC:=hW HB uC;replace uD:=hW HB uD;replace yF:=eq_true yF;replace q127:=eq_true q127;have yG:0≤(((au l1 bo).f0):Int):=oD;have q128:((au l1 bo).f0)<(x6_2.length:Int):=oD;obtain⟨KA,Lg,rZ⟩:=Kd.jZ (Kd.ct cY.out).2.2 ((au l1 bo).f0) yG q128;obtain rfl:(⟨rQ,0,none⟩:Addr)=KA:=(by injection Lg)
             (first|simp only[add_plain]at rZ|simp only[GY]at rZ|simp only[Addr.add,Nat.zero_add]at rZ|skip)
             replace yG:=eq_true yG;replace q128:=eq_true q128;have yH:0≤(bo:Int):=oD;have y4:bo<(l1.length:Int):=oD;obtain⟨KB,Lh,uE,uF,uG,uH⟩:=iC kg.out bo yH y4;have Dw:=uH;have Dv:=uG;have Du:=uF;have Dt:=uE;obtain rfl:eI=KB:=(by injection Lh);replace uE:=hW HB uE;replace uF:=hW HB uF;replace uG:=hW HB uG;replace uH:=hW HB uH;replace yH:=eq_true yH;replace y4:=eq_true y4;have yI:0≤(bo:Int):=oD;have y5:bo<(l1.length:Int):=oD;obtain⟨KC,Li,uI,uJ,uK,uL⟩:=iC kg.out bo yI y5;have DA:=uL;have Dz:=uK;have Dy:=uJ;have Dx:=uI;obtain rfl:eI=KC:=(by injection Li);replace uI:=hW HB uI;replace uJ:=hW HB uJ;replace uK:=hW HB uK;replace uL:=hW HB uL;replace yI:=eq_true yI;replace y5:=eq_true y5;refine pJ (n:=20) (S:=fun w'=>w'.cell? (eI.add ((bo).toNat*4))=some (.int .i64 ((au l1 bo).f0))∧w'.cell? ⟨(eI.add ((bo).toNat*4)).block,(eI.add ((bo).toNat*4)).off+1,none⟩=some (.int .i64 ((au l1 bo).f1))∧w'.cell? ⟨(eI.add ((bo).toNat*4)).block,(eI.add ((bo).toNat*4)).off+2,none⟩=some (.int .i64 ((au l1 bo).f2))∧w'.cell? ⟨(eI.add ((bo).toNat*4)).block,(eI.add ((bo).toNat*4)).off+3,none⟩=some (.int .i64 ((au l1 bo).f3))∧w'.cell? ⟨rQ,(((au l1 bo).f0)).toNat,none⟩=some (.int .i64 (rd x6_2 ((au l1 bo).f0)))∧w'.cell? (eI.add ((bo).toNat*4))=some (.int .i64 ((au l1 bo).f0))∧w'.cell? ⟨(eI.add ((bo).toNat*4)).block,(eI.add ((bo).toNat*4)).off+1,none⟩=some (.int .i64 ((au l1 bo).f1))∧w'.cell? ⟨(eI.add ((bo).toNat*4)).block,(eI.add ((bo).toNat*4)).off+2,none⟩=some (.int .i64 ((au l1 bo).f2))∧w'.cell? ⟨(eI.add ((bo).toNat*4)).block,(eI.add ((bo).toNat*4)).off+3,none⟩=some (.int .i64 ((au l1 bo).f3))∧w'.cell? (eI.add ((bo).toNat*4))=some (.int .i64 ((au l1 bo).f0))∧w'.cell? ⟨(eI.add ((bo).toNat*4)).block,(eI.add ((bo).toNat*4)).off+1,none⟩=some (.int .i64 ((au l1 bo).f1))∧w'.cell? ⟨(eI.add ((bo).toNat*4)).block,(eI.add ((bo).toNat*4)).off+2,none⟩=some (.int .i64 ((au l1 bo).f2))∧w'.cell? ⟨(eI.add ((bo).toNat*4)).block,(eI.add ((bo).toNat*4)).off+3,none⟩=some (.int .i64 ((au l1 bo).f3))) (ds:=[]) #[false,false,false,false,false,false,false,false,false,false,false,false,false,false,false,false,false,false,false,false] (by kernel_rfl) rfl rfl ⟨(hW HB Dp),(hW HB Dq),(hW HB Dr),(hW HB Ds),rZ,(hW HB Dt),(hW HB Du),(hW HB Dv),(hW HB Dw),(hW HB Dx),(hW HB Dy),(hW HB Dz),(hW HB DA)⟩ (fun hHeld=> ?_);refine su fw.tD fw.sN (fun ag HW_=> ?_);generalize wr.drew=F2 at cY HB uA uB uC uD rZ uE uF uG uH uI uJ uK uL hHeld ⊢;refine pA 0 (some 28) ag.out ?_;refine pA 1 (some 29) ag.out ?_;refine pA 2 (some 30) ag.out ?_;refine pA 3 (some 31) ag.out ?_;refine pA 4 (some 32) ag.out ?_;refine pA 8 (some 36) ag.out ?_;refine pA 9 (some 37) ag.out ?_;refine pA 10 (some 38) ag.out ?_;refine pA 11 (some 39) ag.out ?_;refine pA 13 (some 41) ag.out ?_;refine pA 14 (some 42) ag.out ?_;refine pA 15 (some 43) ag.out ?_;refine pA 16 (some 44) ag.out ?_;refine pT 5 (some 33) ag.out HW_.out hHeld ?_;refine pA 6 (some 34) ag.out ?_;refine pT 7 (some 35) ag.out HW_.out hHeld ?_;refine pT 12 (some 40) ag.out HW_.out hHeld ?_;refine pT 17 (some 45) ag.out HW_.out hHeld ?_;refine one_ (i:=18) (N:=some 46) #[true,true,true,true,true,true,true,true,true,true,true,true,true,true,true,true,true,true,true,false] rfl rfl (ji ag.out (by kernel_rfl)) (by decide) (fun K hK=> ?_);refine gH Tryz.func134 (by kernel_rfl) rfl #[.int .i64 (rd x6_2 ((au l1 bo).f0)),.int .i64 ((au l1 bo).f2),.int .i64 ((au l1 bo).f3)] (by rfl) rfl rfl (by(try simp only[List.map_toArray,List.map_cons,List.map_nil]);first|done|rfl|(simp only[List.length_drop,List.length_take];rfl)) ?_
             with_reducible refine(eZ.calls k2 (rd x6_2 ((au l1 bo).f0)) ((au l1 bo).f2) ((au l1 bo).f3) t131 _ A23.out).mono ?_
             rintro e w26 ⟨rfl,hb⟩;have xm:=(hb.cell (World.block_lt_of_cell? _ _ (hHeld.2.2.2.2.1))).trans (hHeld.2.2.2.2.1);refine⟨_,rfl,?_⟩;have ah:=A_ (Kd.bh (oR cY) hb);have ai:=A_ (bz (oB HB) hb);clear cY;clear HB;have cY:=ah;have HB:=ai;clear ah ai
             (try clear hb)
             (try clear hb2)
             (try clear hk)
             (try clear hi)
             refine hK.out _ _ ⟨(hW HB Dp),(hW HB Dq),(hW HB Dr),(hW HB Ds),xm,(hW HB Dt),(hW HB Du),(hW HB Dv),(hW HB Dw),(hW HB Dx),(hW HB Dy),(hW HB Dz),(hW HB DA)⟩ (fun hHeld=> ?_);clear hK K;refine kM (a':= ?_) ?_ ?_;rotate_left
             ·show Act.put _ (some 46) _=_;simp only[Act.put,List.setIfInBounds_toArray,List.set_cons_zero,List.set_cons_succ,eJ,gj];rfl
             refine pA 19 (some 8) ag.out ?_;refine done_ (done_of ag.out (by kernel_rfl)) ?_
             try go_wp2_with (first|((with_reducible refine gate_dst (N:=49) rfl ?_);refine Kd.iB (Kd.int .i64) _ 3 ?hg (N:=49) ?hd (xs:=([]:List Int)) (inner:=[]) (ok:=fun _=>True) (cU:=fun _=>True) ?hr ?hp (fun _ hk=>hk) trivial (Below.refl _ _) (Nat.le_refl _) (by simp) ?_;(case hd=>rfl);(case hg=>rfl);(case hr=>first|(go_simp;done)|(go_simp;rfl));(case hp=>exact(bf.none _ _));intro arN zz qy hb cT dx;clear cT dx;(first|rw[←QL.out]at qy|(simp only[Int.reduceToNat]at qy;rw[←QL.out]at qy));have ah:=A_ (Kd.iA (oR cY) (Kd.fT qy) hb);have ai:=A_ (Kd.dr (Kd.ki qy (Kd.gY (oR cY))) (bn (oB HB)));have ay:=A_ (bz (oB HB) hb);clear cY;clear HB;have cY:=ah;have Y4:=ai;have HB:=ay;clear ah ai ay;clear hb qy))
             go_ret2;exact⟨_,eR,by(with_reducible repeat(first|apply Kd.bY|apply Kd.R_drewN|apply Kd.R_drew));exact Kd.bN Y4.out (fun _ hk=>trivial),oB HB⟩
            ·rw[if_neg c24]at H;have RS:(t131==0)=false:=beq_eq_false_iff_ne.mpr c24;have abJ:(t131 != 0)=true:=bne_iff_ne.mpr c24;by_cases ud:0≤((au l1 bo).f1)
             ·rw[if_pos ud]at H;have abK:decide (0≤((au l1 bo).f1))=true:=decide_eq_true ud;clear ud;by_cases Hn:((au l1 bo).f1)<(x6_2.length:Int)
              ·rw[if_pos Hn]at H;have al9:decide (((au l1 bo).f1)<(x6_2.length:Int))=true:=decide_eq_true Hn;clear Hn;obtain⟨Pg,DZ⟩:∃y_:List Int,y_=(x6_2.set (((au l1 bo).f1):Int).toNat t131):=⟨_,rfl⟩;replace H:(fw.l0 k2 l1 Pg (wrap64 (bo+1)))=some (r1,r2):=by first|(rw[DZ];with_reducible exact H)|(have aI:=(Option.bind_some _ _).symm.trans H;rw[DZ];with_reducible exact aI)|(have aI:=(Option.bind_some _ _).symm.trans H;with_reducible exact aI)|with_reducible exact H|(rw[DZ];exact H)|exact H
               have Z_:=A_ DZ;clear DZ;have H':=A_ H;clear H
               try go_wp2
               have ah:=A_ (Kd.R_drew cY.out);have ai:=A_ (fC HB.out);clear cY;clear HB;have cY:=ah;have HB:=ai;clear ah ai;have yF:0≤(bo:Int):=oD;have q127:bo<(l1.length:Int):=oD;obtain⟨eI,Lf,uA,uB,uC,uD⟩:=iC kg.out bo yF q127;have Ds:=uD;have Dr:=uC;have Dq:=uB;have Dp:=uA;cases Lf;replace uA:=hW HB uA;replace uB:=hW HB uB;replace uC:=hW HB uC;replace uD:=hW HB uD;replace yF:=eq_true yF;replace q127:=eq_true q127;have yG:0≤(((au l1 bo).f0):Int):=oD;have q128:((au l1 bo).f0)<(x6_2.length:Int):=oD;obtain⟨KA,Lg,rZ⟩:=Kd.jZ (Kd.ct cY.out).2.2 ((au l1 bo).f0) yG q128;obtain rfl:(⟨rQ,0,none⟩:Addr)=KA:=(by injection Lg)
               (first|simp only[add_plain]at rZ|simp only[GY]at rZ|simp only[Addr.add,Nat.zero_add]at rZ|skip)
               replace yG:=eq_true yG;replace q128:=eq_true q128;have yH:0≤(bo:Int):=oD;have y4:bo<(l1.length:Int):=oD;obtain⟨KB,Lh,uE,uF,uG,uH⟩:=iC kg.out bo yH y4;have Dw:=uH;have Dv:=uG;have Du:=uF;have Dt:=uE;obtain rfl:eI=KB:=(by injection Lh);replace uE:=hW HB uE;replace uF:=hW HB uF;replace uG:=hW HB uG;replace uH:=hW HB uH;replace yH:=eq_true yH;replace y4:=eq_true y4;have yI:0≤(bo:Int):=oD;have y5:bo<(l1.length:Int):=oD;obtain⟨KC,Li,uI,uJ,uK,uL⟩:=iC kg.out bo yI y5;have DA:=uL;have Dz:=uK;have Dy:=uJ;have Dx:=uI;obtain rfl:eI=KC:=(by injection Li);replace uI:=hW HB uI;replace uJ:=hW HB uJ;replace uK:=hW HB uK;replace uL:=hW HB uL;replace yI:=eq_true yI;replace y5:=eq_true y5;refine pJ (n:=20) (S:=fun w'=>w'.cell? (eI.add ((bo).toNat*4))=some (.int .i64 ((au l1 bo).f0))∧w'.cell? ⟨(eI.add ((bo).toNat*4)).block,(eI.add ((bo).toNat*4)).off+1,none⟩=some (.int .i64 ((au l1 bo).f1))∧w'.cell? ⟨(eI.add ((bo).toNat*4)).block,(eI.add ((bo).toNat*4)).off+2,none⟩=some (.int .i64 ((au l1 bo).f2))∧w'.cell? ⟨(eI.add ((bo).toNat*4)).block,(eI.add ((bo).toNat*4)).off+3,none⟩=some (.int .i64 ((au l1 bo).f3))∧w'.cell? ⟨rQ,(((au l1 bo).f0)).toNat,none⟩=some (.int .i64 (rd x6_2 ((au l1 bo).f0)))∧w'.cell? (eI.add ((bo).toNat*4))=some (.int .i64 ((au l1 bo).f0))∧w'.cell? ⟨(eI.add ((bo).toNat*4)).block,(eI.add ((bo).toNat*4)).off+1,none⟩=some (.int .i64 ((au l1 bo).f1))∧w'.cell? ⟨(eI.add ((bo).toNat*4)).block,(eI.add ((bo).toNat*4)).off+2,none⟩=some (.int .i64 ((au l1 bo).f2))∧w'.cell? ⟨(eI.add ((bo).toNat*4)).block,(eI.add ((bo).toNat*4)).off+3,none⟩=some (.int .i64 ((au l1 bo).f3))∧w'.cell? (eI.add ((bo).toNat*4))=some (.int .i64 ((au l1 bo).f0))∧w'.cell? ⟨(eI.add ((bo).toNat*4)).block,(eI.add ((bo).toNat*4)).off+1,none⟩=some (.int .i64 ((au l1 bo).f1))∧w'.cell? ⟨(eI.add ((bo).toNat*4)).block,(eI.add ((bo).toNat*4)).off+2,none⟩=some (.int .i64 ((au l1 bo).f2))∧w'.cell? ⟨(eI.add ((bo).toNat*4)).block,(eI.add ((bo).toNat*4)).off+3,none⟩=some (.int .i64 ((au l1 bo).f3))) (ds:=[]) #[false,false,false,false,false,false,false,false,false,false,false,false,false,false,false,false,false,false,false,false] (by kernel_rfl) rfl rfl ⟨(hW HB Dp),(hW HB Dq),(hW HB Dr),(hW HB Ds),rZ,(hW HB Dt),(hW HB Du),(hW HB Dv),(hW HB Dw),(hW HB Dx),(hW HB Dy),(hW HB Dz),(hW HB DA)⟩ (fun hHeld=> ?_);refine su fw.tD fw.sN (fun ag HW_=> ?_);generalize wr.drew=F5 at cY HB uA uB uC uD rZ uE uF uG uH uI uJ uK uL hHeld ⊢;refine pA 0 (some 28) ag.out ?_;refine pA 1 (some 29) ag.out ?_;refine pA 2 (some 30) ag.out ?_;refine pA 3 (some 31) ag.out ?_;refine pA 4 (some 32) ag.out ?_;refine pA 8 (some 36) ag.out ?_;refine pA 9 (some 37) ag.out ?_;refine pA 10 (some 38) ag.out ?_;refine pA 11 (some 39) ag.out ?_;refine pA 13 (some 41) ag.out ?_;refine pA 14 (some 42) ag.out ?_;refine pA 15 (some 43) ag.out ?_;refine pA 16 (some 44) ag.out ?_;refine pT 5 (some 33) ag.out HW_.out hHeld ?_;refine pA 6 (some 34) ag.out ?_;refine pT 7 (some 35) ag.out HW_.out hHeld ?_;refine pT 12 (some 40) ag.out HW_.out hHeld ?_;refine pT 17 (some 45) ag.out HW_.out hHeld ?_;refine one_ (i:=18) (N:=some 46) #[true,true,true,true,true,true,true,true,true,true,true,true,true,true,true,true,true,true,true,false] rfl rfl (ji ag.out (by kernel_rfl)) (by decide) (fun K hK=> ?_);refine gH Tryz.func134 (by kernel_rfl) rfl #[.int .i64 (rd x6_2 ((au l1 bo).f0)),.int .i64 ((au l1 bo).f2),.int .i64 ((au l1 bo).f3)] (by rfl) rfl rfl (by(try simp only[List.map_toArray,List.map_cons,List.map_nil]);first|done|rfl|(simp only[List.length_drop,List.length_take];rfl)) ?_
               with_reducible refine(eZ.calls k2 (rd x6_2 ((au l1 bo).f0)) ((au l1 bo).f2) ((au l1 bo).f3) t131 _ A23.out).mono ?_
               rintro e OE ⟨rfl,hb⟩;have xm:=(hb.cell (World.block_lt_of_cell? _ _ (hHeld.2.2.2.2.1))).trans (hHeld.2.2.2.2.1);refine⟨_,rfl,?_⟩;have ah:=A_ (Kd.bh (oR cY) hb);have ai:=A_ (bz (oB HB) hb);clear cY;clear HB;have cY:=ah;have HB:=ai;clear ah ai
               (try clear hb)
               (try clear hb2)
               (try clear hk)
               (try clear hi)
               refine hK.out _ _ ⟨(hW HB Dp),(hW HB Dq),(hW HB Dr),(hW HB Ds),xm,(hW HB Dt),(hW HB Du),(hW HB Dv),(hW HB Dw),(hW HB Dx),(hW HB Dy),(hW HB Dz),(hW HB DA)⟩ (fun hHeld=> ?_);clear hK K;refine kM (a':= ?_) ?_ ?_;rotate_left
               ·show Act.put _ (some 46) _=_;simp only[Act.put,List.setIfInBounds_toArray,List.set_cons_zero,List.set_cons_succ,eJ,gj];rfl
               refine pA 19 (some 8) ag.out ?_;refine done_ (done_of ag.out (by kernel_rfl)) ?_;have M8:0≤(bo:Int):=oD;have Nr:bo<(l1.length:Int):=oD;obtain⟨aa7,acs,Ui,Uj,Uk,Ul⟩:=iC kg.out bo M8 Nr;obtain rfl:eI=aa7:=(by injection acs);replace Ui:=hW HB Ui;replace Uj:=hW HB Uj;replace Uk:=hW HB Uk;replace Ul:=hW HB Ul;replace M8:=eq_true M8;replace Nr:=eq_true Nr;have Nf:0≤(((au l1 bo).f1):Int):=oD;have Ny:(((au l1 bo).f1):Int)<((x6_2.length:Int):Int):=oD;obtain⟨aqP,aox⟩:=Kd.nW 0 cY.out (((au l1 bo).f1):Int) Nf Ny;replace Nf:=eq_true Nf;replace Ny:=eq_true Ny;obtain⟨aqR,aqS⟩:=Kd.nW 0 cY.out (((au l1 bo).f1):Int) (oD) (oD);have J6:=Kd.xu cY.out (((au l1 bo).f1):Int) t131
               try go_wp2_with (first|((with_reducible refine AL (t:=3) (p:=57) rfl ?_);refine Br (t:=3) (p:=57) (v:= ?asQ) (w1:=(OE.setCell ⟨rQ,(((au l1 bo).f1):Int).toNat,none⟩ (.int .i64 t131))) ?hg ?ho ?hn ?hr ?_;(case ho=>rfl);(case hg=>rfl);(case hn=>rfl);(case hr=>first|(go_simp;done)|(go_simp;rfl));intro wY hw;have hg:OE.grownBy wY (some rQ):=(by rw[hw];exact J6.2);have mJ:Kd.R (Kd.int .i64) 3 wY w.heap.size (fun _=>True) (.slice (some ⟨rQ,0,none⟩) x6_2.length oI) Pg:=(by rw[hw,Z_.out];exact J6.1);clear J6;have ah:=A_ (mJ);have ai:=A_ ((by rw[hw];exact nZ (HB.out) GB14.out:Below w.heap.size w wY));clear cY;clear HB;have cY:=ah;have HB:=ai;clear ah ai;clear hg hw mJ))
               (try simp only[←ux])
               go_roundg k2
               case measure=>have:=zO.out;have:=jJ.out;omega
               case rel=>exact⟨(Pg),(wrap64 (bo+1)),eS,H',⟨by have:=zO.out;have:=jJ.out;omega⟩,⟨by(try simp only[ux]);(with_reducible repeat(first|apply Kd.bY|apply Kd.R_drewN|apply Kd.R_drew));exact cY.out⟩,⟨oB HB⟩⟩
              ·rw[if_neg Hn]at H;exact absurd H (by simp)
             ·rw[if_neg ud]at H;exact absurd H (by simp)
           ·rw[if_neg lv]at H;exact absurd H (by simp)
          ·rw[if_neg c21]at H;exact absurd H (by simp)
         ·rw[if_neg c20]at H;exact absurd H (by simp)
        ·rw[if_neg c19]at H;have vT:decide (bo<(l1.length:Int))=false:=decide_eq_false c19;clear c19;simp only[Option.some.injEq,Prod.mk.injEq]at H;obtain⟨rfl,rfl⟩:=H;go_wp2;go_ret2;exact⟨_,eR,oR cY,oB HB⟩
     ·rw[if_neg c13]at H;exact absurd H (by simp)
    ·rw[if_neg c12]at H;exact absurd H (by simp)
def kz.l0:Nat→Int→List (ar)→Int→Option ((List (ar)))
 |0,_,_,_=>none
 |k+1,x0,x3,x4=>if x4<11 then((im.f x0 0 5000).bind fun t163=>(if t163=true then((some (([1,2,1,2,1,2,2,1,2,1,2]:List Int):List Int)).bind fun qV=>(if 0≤x4 then(if x4<(qV.length:Int)then(if x3.length<4398046511104 then(kz.l0 k x0 (x3++[(⟨x4,wrap64 (x4+1),rd qV x4,x0⟩:ar)]) (wrap64 (x4+1)))else(none))else(none))else(none)))else(some x3)))else(some x3)
def kz.f (k:Nat) (a0:Int):Option ((List (ar))):=kz.l0 k a0 (([]:List (ar))) 0
theorem kz.calls (k:Nat) (a0:Int) (r:List (ar)) (w:World) (h:kz.f k a0=some r):
  Calls Tryz.prog 92 #[.int .i64 a0] w fun e w'=>∃v0_:Value,e= .returned (v0_)∧Kd.R bl 110 w' w.heap.size (fun _=>True) v0_ r∧Below w.heap.size w w':=by
 have yb:=Tryz.underlying110;have HB:=A_ (Below.refl w.heap.size w);have H:(kz.l0 k a0 (([]:List (ar))) 0)=some r:=h;clear h;obtain⟨Xq,Ef⟩:∃y_:List (ar),y_=(([]:List (ar))):=⟨_,rfl⟩;replace H:(kz.l0 k a0 Xq 0)=some r:=by first|(rw[Ef];with_reducible exact H)|(have aI:=(Option.bind_some _ _).symm.trans H;rw[Ef];with_reducible exact aI)|(have aI:=(Option.bind_some _ _).symm.trans H;with_reducible exact aI)|with_reducible exact H|(rw[Ef];exact H)|exact H
 have QX:=A_ Ef;clear Ef;have H':=A_ H;clear H;go_enter Tryz.func92,Tryz.ntmps92
 go_wp2_with (first|((with_reducible refine gate_dst (N:=6) rfl ?_);refine Kd.iB bl _ 110 ?hg (N:=6) ?hd (xs:=([]:List (ar))) (inner:=[]) (ok:=fun _=>True) (cU:=fun _=>True) ?hr ?hp (fun _ hk=>hk) trivial (Below.refl _ _) (Nat.le_refl _) (by simp) ?_;(case hd=>rfl);(case hg=>rfl);(case hr=>first|(go_simp;done)|(go_simp;rfl));(case hp=>exact(bf.none _ _));intro arX w2 ko hb cT dx;clear cT dx;(first|rw[←QX.out]at ko|(simp only[Int.reduceToNat]at ko;rw[←QX.out]at ko));have ah:=A_ (Kd.dr ko (bn (oB HB)));have ai:=A_ (bz (oB HB) hb);clear HB;have Y8:=ah;have HB:=ai;clear ah ai;clear hb ko))
 go_loopg [3,4] k (fun kq v3 v4 w'=>∃(bA:List (ar)) (aC:Int),v4= .int .i64 aC∧aj (kz.l0 kq a0 bA aC=some r)∧aj (kq≤k)∧aj (Kd.R bl 110 w' w.heap.size (fun _=>True) v3 bA)∧aj (Below w.heap.size w w'))
 case atStart=>exact⟨(Xq),(0),eS,H',⟨Nat.le_refl _⟩,⟨oR Y8⟩,⟨oB HB⟩⟩
 case round=>
  clear H'
  try clear p2
  obtain⟨bA,aC,rfl,HA,dh,bc,HB⟩:=hrel;cases gk with
  |zero=>exact absurd HA.out (by simp[kz.l0])
  |succ k1=>
   have H:=HA.out;clear HA;simp only[kz.l0]at H;by_cases c4:aC<11
   ·rw[if_pos c4]at H;have kj:decide (aC<11)=true:=decide_eq_true c4;clear c4;replace H:=Option.bind_eq_some_iff.mp H;obtain⟨t163,k9,H⟩:=H
    (try dsimp only at H)
    have A5:=A_ k9;clear k9;by_cases c6:t163=true
    ·subst c6;rw[if_pos rfl]at H;obtain⟨qV,El⟩:∃y_:List Int,y_=(([1,2,1,2,1,2,2,1,2,1,2]:List Int)):=⟨_,rfl⟩;replace H:(if 0≤aC then(if aC<(qV.length:Int)then(if bA.length<4398046511104 then(kz.l0 k1 a0 (bA++[(⟨aC,wrap64 (aC+1),rd qV aC,a0⟩:ar)]) (wrap64 (aC+1)))else(none))else(none))else(none))=some r:=by first|(rw[El];with_reducible exact H)|(have aI:=(Option.bind_some _ _).symm.trans H;rw[El];with_reducible exact aI)|(have aI:=(Option.bind_some _ _).symm.trans H;with_reducible exact aI)|with_reducible exact H|(rw[El];exact H)|exact H
     have QZ:=A_ El;clear El;by_cases c7:0≤aC
     ·rw[if_pos c7]at H;have AE:decide (0≤aC)=true:=decide_eq_true c7;clear c7;by_cases c8:aC<(qV.length:Int)
      ·rw[if_pos c8]at H;have vW:decide (aC<(qV.length:Int))=true:=decide_eq_true c8;clear c8;by_cases c9:bA.length<4398046511104
       ·rw[if_pos c9]at H;have ZT:=A_ c9;clear c9;obtain⟨XB,Er⟩:∃y_:List (ar),y_=(bA++[(⟨aC,wrap64 (aC+1),rd qV aC,a0⟩:ar)]):=⟨_,rfl⟩;replace H:(kz.l0 k1 a0 XB (wrap64 (aC+1)))=some r:=by first|(rw[Er];with_reducible exact H)|(have aI:=(Option.bind_some _ _).symm.trans H;rw[Er];with_reducible exact aI)|(have aI:=(Option.bind_some _ _).symm.trans H;with_reducible exact aI)|with_reducible exact H|(rw[Er];exact H)|exact H
        have aal:=A_ Er;clear Er;have H':=A_ H;clear H
        go_wp2_with (first|(go_at_call 72;(with_reducible refine(im.calls a0 0 5000 true _ A5.out).mono ?_);rintro e w' ⟨rfl,⟨nd,rfl⟩⟩)|((with_reducible refine gate_dst (N:=15) rfl ?_);refine Kd.iB (Kd.int .i64) _ 3 ?hg (N:=15) ?hd (xs:=([1,2,1,2,1,2,2,1,2,1,2]:List Int)) (inner:=[.int .i64 1,.int .i64 2,.int .i64 1,.int .i64 2,.int .i64 1,.int .i64 2,.int .i64 2,.int .i64 1,.int .i64 2,.int .i64 1,.int .i64 2]) (ok:=fun _=>True) (cU:=fun _=>True) ?hr ?hp (fun _ hk=>hk) trivial (Below.refl _ _) (Nat.le_refl _) (by simp) ?_;(case hd=>rfl);(case hg=>rfl);(case hr=>first|(go_simp;done)|(go_simp;rfl));(case hp=>exact(bf.one (show Kd.M (Kd.int .i64) _ _ _ 1 [.int .i64 1]from rfl) (bf.one (show Kd.M (Kd.int .i64) _ _ _ 2 [.int .i64 2]from rfl) (bf.one (show Kd.M (Kd.int .i64) _ _ _ 1 [.int .i64 1]from rfl) (bf.one (show Kd.M (Kd.int .i64) _ _ _ 2 [.int .i64 2]from rfl) (bf.one (show Kd.M (Kd.int .i64) _ _ _ 1 [.int .i64 1]from rfl) (bf.one (show Kd.M (Kd.int .i64) _ _ _ 2 [.int .i64 2]from rfl) (bf.one (show Kd.M (Kd.int .i64) _ _ _ 2 [.int .i64 2]from rfl) (bf.one (show Kd.M (Kd.int .i64) _ _ _ 1 [.int .i64 1]from rfl) (bf.one (show Kd.M (Kd.int .i64) _ _ _ 2 [.int .i64 2]from rfl) (bf.one (show Kd.M (Kd.int .i64) _ _ _ 1 [.int .i64 1]from rfl) (bf.one (show Kd.M (Kd.int .i64) _ _ _ 2 [.int .i64 2]from rfl) (bf.none _ _)))))))))))));intro ar5 lJ mI hb cT dx;clear cT dx;(first|rw[←QZ.out]at mI|(simp only[Int.reduceToNat]at mI;rw[←QZ.out]at mI));have ah:=A_ (Kd.bh (oR bc) hb);have ai:=A_ (Kd.dr mI (bn (oB HB)));have ay:=A_ (bz (oB HB) hb);clear bc;clear HB;have bc:=ah;have Ca:=ai;have HB:=ay;clear ah ai ay;clear hb mI;obtain⟨zF,rJ,uk⟩:=Kd.dp Ca.out;subst uk;have Na:0≤(aC:Int):=oD;have Nu:aC<(qV.length:Int):=oD;obtain⟨alW,acw,aqM⟩:=Kd.jZ (Kd.ct Ca.out).2.2 aC Na Nu;cases acw;replace Na:=eq_true Na;replace Nu:=eq_true Nu)|((with_reducible refine jz (b:= .append) (xs:= #[.tmp 19,.tmp 26]) rfl ?_);at_builtin;refine Kd.R_append bl (w0:=w) w.heap.size rfl (.tmp 19) (.tmp 26) 24 110 (.agg #[(.int .i64 0),(.int .i64 0),(.int .i64 0),(.int .i64 0)]) 32 rfl Tryz.underlying24 info110 rfl (by decide) (by omega) u3 bA (⟨aC,wrap64 (aC+1),rd qV aC,a0⟩:ar) [.int .i64 aC,.int .i64 (wrap64 (aC+1)),.int .i64 (rd qV aC),.int .i64 a0] (fun _=>True) (fun _=>False) rfl rfl ?aP (fun _ hk=>hk.elim) ?aF ?aO ?aB ?aS ?aL ?_;(case aP=>exact s6 _ _ _ (⟨aC,wrap64 (aC+1),rd qV aC,a0⟩:ar));(case aB=>exact(oB HB));(case aF=>exact(fun _ _=>trivial));(case aO=>exact(oR bc));(case aS=>exact(bn (oB HB)));(case aL=>have:=ZT.out;omega);intro ar9 tE ho hb hg hat;rw[←aal.out]at ho;have ah:=A_ (Kd.iM (oR Ca) (Kd.iN (oR bc)) (by decide) hg);have ai:=A_ (hb);have ay:=A_ (ho);clear Ca;clear HB;clear bc;have Ca:=ah;have HB:=ai;have Zf:=ay;clear ah ai ay;clear ho hb hg hat))
        go_roundg k1
        case measure=>have:=dh.out;omega
        case rel=>exact⟨(XB),(wrap64 (aC+1)),eS,H',⟨by have:=dh.out;omega⟩,⟨oR Zf⟩,⟨oB HB⟩⟩
       ·rw[if_neg c9]at H;exact absurd H (by simp)
      ·rw[if_neg c8]at H;exact absurd H (by simp)
     ·rw[if_neg c7]at H;exact absurd H (by simp)
    ·replace c6:=Bool.eq_false_iff.mpr c6;subst c6;rw[if_neg (show¬(false=true)by decide)]at H;obtain rfl:=Option.some.inj H
     go_wp2_with (first|(go_at_call 72;(with_reducible refine(im.calls a0 0 5000 false _ A5.out).mono ?_);rintro e w' ⟨rfl,⟨nd,rfl⟩⟩))
     go_ret;exact⟨_,eR,oR bc,oB HB⟩
   ·rw[if_neg c4]at H;have kj:decide (aC<11)=false:=decide_eq_false c4;clear c4;obtain rfl:=Option.some.inj H;go_wp2;go_ret;exact⟨_,eR,oR bc,oB HB⟩
def lX.f (bw:List Int) (cJ:Int) (cO:Int):Option (Int×Int×Int):=if cJ<(bw.length:Int)then(if 0≤cJ then(some (Go.bits .and .i64 (wrap64 ((Go.bits .and .i64 (Go.bits .xor .i64 ((wrap64 ((wrap64 (cO*6364136223846793005))+1442695040888963407))/8589934592) ((wrap64 ((wrap64 (cO*6364136223846793005))+1442695040888963407))/35184372088832)) 255)+(wrap64 (rd bw cJ)))) 255,wrap64 (cJ+1),wrap64 ((wrap64 (cO*6364136223846793005))+1442695040888963407)))else(none))else(some (Go.bits .and .i64 (Go.bits .xor .i64 ((wrap64 ((wrap64 (cO*6364136223846793005))+1442695040888963407))/8589934592) ((wrap64 ((wrap64 (cO*6364136223846793005))+1442695040888963407))/35184372088832)) 255,cJ,wrap64 ((wrap64 (cO*6364136223846793005))+1442695040888963407)))
theorem lX.calls (g:Nat) (bw:List Int) (cJ:Int) (cO:Int) (r1:Int) (r2:Int) (r3:Int) (w0 w:World) (hI:bQ w0 w g bw cJ cO) (hB:Below w0.heap.size w0 w) (h:lX.f bw cJ cO=some (r1,r2,r3)):
  Calls Tryz.prog 52 #[.pointer (some ⟨g,0,none⟩)] w fun e w'=>e= .returned (.int .i64 r1)∧bQ w0 w' g bw r2 r3∧Below w0.heap.size w0 w'∧KeepBut w w' g none:=by
 have bO:=A_ hI;have HK:=A_ (KeepBut.refl w g none);have HL:=A_ hB.size;clear hI;have xn:=A_ hB.size;have HB:=A_ hB;clear hB;have H:(if cJ<(bw.length:Int)then(if 0≤cJ then(some (Go.bits .and .i64 (wrap64 ((Go.bits .and .i64 (Go.bits .xor .i64 ((wrap64 ((wrap64 (cO*6364136223846793005))+1442695040888963407))/8589934592) ((wrap64 ((wrap64 (cO*6364136223846793005))+1442695040888963407))/35184372088832)) 255)+(wrap64 (rd bw cJ)))) 255,wrap64 (cJ+1),wrap64 ((wrap64 (cO*6364136223846793005))+1442695040888963407)))else(none))else(some (Go.bits .and .i64 (Go.bits .xor .i64 ((wrap64 ((wrap64 (cO*6364136223846793005))+1442695040888963407))/8589934592) ((wrap64 ((wrap64 (cO*6364136223846793005))+1442695040888963407))/35184372088832)) 255,cJ,wrap64 ((wrap64 (cO*6364136223846793005))+1442695040888963407))))=some (r1,r2,r3):=h;clear h;by_cases c2:cJ<(bw.length:Int)
 ·rw[if_pos c2]at H;have qm:decide (cJ<(bw.length:Int))=true:=decide_eq_true c2;clear c2;by_cases c3:0≤cJ
  ·rw[if_pos c3]at H;have c3b0:decide (0≤cJ)=true:=decide_eq_true c3;clear c3;simp only[Option.some.injEq,Prod.mk.injEq]at H;obtain⟨rfl,rfl,rfl⟩:=H;obtain⟨ak4,amk,zM,aeH,ZA⟩:=bO.out;have anU:=RX zM;have anV:=RY zM;have anW:=RZ zM;have apB:=aJ zM 1;have apC:=aJ zM 2;clear zM aeH;have Nd:0≤(cJ:Int):=oD;have Nx:cJ<(bw.length:Int):=oD;obtain⟨abd,acA,AV⟩:=Kd.jZ ZA cJ Nd Nx;cases acA;have Ip:abd.block≠g:=Nat.ne_of_lt (Nat.lt_of_lt_of_le (by have:=World.block_lt_of_cell? _ _ AV;first|rwa [add_block]at this|exact this) (bQ.ge bO.out));replace AV:=Fa HB.out AV;replace AV:=(cell_far (p:=⟨g,2,none⟩) (by first|(rw[add_block];exact Ip)|(show(Addr.add _ _).block≠_;rw[add_block];exact Ip)|exact Ip) (.int .i64 (wrap64 ((wrap64 (cO*6364136223846793005))+1442695040888963407)))).trans AV
   (try have aqQ:=fun(n_:Nat)=>(show(((w.drewN n_).setCell ⟨g,2,none⟩ (.int .i64 (wrap64 ((wrap64 (cO*6364136223846793005))+1442695040888963407))))).cell? _=some _ from AV))
   clear Ip;replace Nd:=eq_true Nd;replace Nx:=eq_true Nx;go_enter Tryz.func52,Tryz.ntmps52;go_wp2
   repeat(go_quiet (fail);try go_wp2)
   go_ret;exact⟨eR,eL bO,gB HB,fS HK⟩
  ·rw[if_neg c3]at H;exact absurd H (by simp)
 ·rw[if_neg c2]at H;have qm:decide (cJ<(bw.length:Int))=false:=decide_eq_false c2;clear c2;simp only[Option.some.injEq,Prod.mk.injEq]at H;obtain⟨rfl,rfl,rfl⟩:=H;obtain⟨ak5,aml,zN,aeI,alJ⟩:=bO.out;have aod:=RX zN;have aoe:=RY zN;have aof:=RZ zN;have apV:=aJ zN 1;have apW:=aJ zN 2;clear zN aeI;go_enter Tryz.func52,Tryz.ntmps52;go_wp2
  repeat(go_quiet (fail);try go_wp2)
  go_ret;exact⟨eR,eL bO,gB HB,fS HK⟩
def eW.f (bw:List Int) (cJ:Int) (cO:Int) (a1:Int):Option (Int×Int×Int):=if a1≤0 then(some (0,cJ,cO))else(if a1≤256 then((lX.f bw cJ cO).bind fun xI=>(if a1=0 then(none)else(some (Int.tmod xI.1 a1,xI.2.1,xI.2.2))))else((lX.f bw cJ cO).bind fun xJ=>((lX.f bw xJ.2.1 xJ.2.2).bind fun xK=>((lX.f bw xK.2.1 xK.2.2).bind fun xL=>((lX.f bw xL.2.1 xL.2.2).bind fun xM=>(if a1=0 then(none)else(some (Int.tmod (wrap64 ((wrap64 ((wrap64 ((wrap64 (xJ.1*16777216))+(wrap64 (xK.1*65536))))+(wrap64 (xL.1*256))))+xM.1)) a1,xM.2.1,xM.2.2))))))))
theorem eW.calls (g:Nat) (bw:List Int) (cJ:Int) (cO:Int) (a1:Int) (r1:Int) (r2:Int) (r3:Int) (w0 w:World) (hI:bQ w0 w g bw cJ cO) (hB:Below w0.heap.size w0 w) (h:eW.f bw cJ cO a1=some (r1,r2,r3)):
  Calls Tryz.prog 26 #[.pointer (some ⟨g,0,none⟩),.int .i64 a1] w fun e w'=>e= .returned (.int .i64 r1)∧bQ w0 w' g bw r2 r3∧Below w0.heap.size w0 w'∧KeepBut w w' g none:=by
 have bO:=A_ hI;have HK:=A_ (KeepBut.refl w g none);have HL:=A_ hB.size;clear hI;have xn:=A_ hB.size;have HB:=A_ hB;clear hB;have H:(if a1≤0 then(some (0,cJ,cO))else(if a1≤256 then((lX.f bw cJ cO).bind fun xI=>(if a1=0 then(none)else(some (Int.tmod xI.1 a1,xI.2.1,xI.2.2))))else((lX.f bw cJ cO).bind fun xJ=>((lX.f bw xJ.2.1 xJ.2.2).bind fun xK=>((lX.f bw xK.2.1 xK.2.2).bind fun xL=>((lX.f bw xL.2.1 xL.2.2).bind fun xM=>(if a1=0 then(none)else(some (Int.tmod (wrap64 ((wrap64 ((wrap64 ((wrap64 (xJ.1*16777216))+(wrap64 (xK.1*65536))))+(wrap64 (xL.1*256))))+xM.1)) a1,xM.2.1,xM.2.2)))))))))=some (r1,r2,r3):=h;clear h;by_cases c3:a1≤0
 ·rw[if_pos c3]at H;have c3b0:decide (a1≤0)=true:=decide_eq_true c3;clear c3;simp only[Option.some.injEq,Prod.mk.injEq]at H;obtain⟨rfl,rfl,rfl⟩:=H;go_enter Tryz.func26,Tryz.ntmps26;go_wp2;go_ret;exact⟨eR,eL bO,gB HB,fS HK⟩
 ·rw[if_neg c3]at H;have c3b0:decide (a1≤0)=false:=decide_eq_false c3;clear c3;by_cases c4:a1≤256
  ·rw[if_pos c4]at H;have kj:decide (a1≤256)=true:=decide_eq_true c4;clear c4;replace H:=Option.bind_eq_some_iff.mp H;obtain⟨⟨t190,t191,t192⟩,k9,H⟩:=H
   (try dsimp only at H)
   have A5:=A_ k9;clear k9;by_cases c6:a1=0
   ·rw[if_pos c6]at H;exact absurd H (by simp)
   ·rw[if_neg c6]at H;have rI:(a1==0)=false:=beq_eq_false_iff_ne.mpr c6;have ami:(a1 != 0)=true:=bne_iff_ne.mpr c6;simp only[Option.some.injEq,Prod.mk.injEq]at H;obtain⟨rfl,rfl,rfl⟩:=H;go_enter Tryz.func26,Tryz.ntmps26
    go_wp2_with (first|((with_reducible refine bT (f:=52) rfl ?_);refine gL (some 14) Tryz.func52 #[.pointer (some ⟨g,0,none⟩)] ?_;(with_reducible refine(lX.calls g bw cJ cO t190 t191 t192 w0 _ ?bG ?bH A5.out).mono ?_);(case bG=>exact eL bO);(case bH=>exact gB HB);rintro e w7 ⟨rfl,hi,hb,hk⟩;refine⟨_,rfl,?_⟩;have ah:=A_ (KeepBut.trans (fS HK) hk (.inl rfl));have ai:=A_ (hb);have ay:=A_ (hi);clear HK;clear HB;clear bO;have HK:=ah;have HB:=ai;have bO:=ay;clear ah ai ay;(try clear hb);(try clear hb2);(try clear hk);(try clear hi)))
    go_ret;exact⟨eR,eL bO,gB HB,fS HK⟩
  ·rw[if_neg c4]at H;have kj:decide (a1≤256)=false:=decide_eq_false c4;clear c4;replace H:=Option.bind_eq_some_iff.mp H;obtain⟨⟨t193,t194,t195⟩,qX,H⟩:=H
   (try dsimp only at H)
   have A8:=A_ qX;clear qX;replace H:=Option.bind_eq_some_iff.mp H;obtain⟨⟨t196,t197,t198⟩,pY,H⟩:=H
   (try dsimp only at H)
   have A9:=A_ pY;clear pY;replace H:=Option.bind_eq_some_iff.mp H;obtain⟨⟨t199,t200,t201⟩,vq,H⟩:=H
   (try dsimp only at H)
   have BU:=A_ vq;clear vq;replace H:=Option.bind_eq_some_iff.mp H;obtain⟨⟨t202,t203,t204⟩,qW,H⟩:=H
   (try dsimp only at H)
   have vr:=A_ qW;clear qW;by_cases c12:a1=0
   ·rw[if_pos c12]at H;exact absurd H (by simp)
   ·rw[if_neg c12]at H;have Hj:(a1==0)=false:=beq_eq_false_iff_ne.mpr c12;have Hk:(a1 != 0)=true:=bne_iff_ne.mpr c12;simp only[Option.some.injEq,Prod.mk.injEq]at H;obtain⟨rfl,rfl,rfl⟩:=H;go_enter Tryz.func26,Tryz.ntmps26
    go_wp2_with (first|((with_reducible refine bT (f:=52) rfl ?_);refine gL (some 18) Tryz.func52 #[.pointer (some ⟨g,0,none⟩)] ?_;(with_reducible refine(lX.calls g bw cJ cO t193 t194 t195 w0 _ ?bG ?bH A8.out).mono ?_);(case bG=>exact eL bO);(case bH=>exact gB HB);rintro e tE ⟨rfl,hi,hb,hk⟩;refine⟨_,rfl,?_⟩;have ah:=A_ (KeepBut.trans (fS HK) hk (.inl rfl));have ai:=A_ (hb);have ay:=A_ (hi);clear HK;clear HB;clear bO;have HK:=ah;have HB:=ai;have bO:=ay;clear ah ai ay;(try clear hb);(try clear hb2);(try clear hk);(try clear hi))|((with_reducible refine bT (f:=52) rfl ?_);refine gL (some 20) Tryz.func52 #[.pointer (some ⟨g,0,none⟩)] ?_;(with_reducible refine(lX.calls g bw t194 t195 t196 t197 t198 w0 _ ?bG ?bH A9.out).mono ?_);(case bG=>exact eL bO);(case bH=>exact gB HB);rintro e wW ⟨rfl,hi,hb,hk⟩;refine⟨_,rfl,?_⟩;have ah:=A_ (KeepBut.trans (fS HK) hk (.inl rfl));have ai:=A_ (hb);have ay:=A_ (hi);clear HK;clear HB;clear bO;have HK:=ah;have HB:=ai;have bO:=ay;clear ah ai ay;(try clear hb);(try clear hb2);(try clear hk);(try clear hi))|((with_reducible refine bT (f:=52) rfl ?_);refine gL (some 22) Tryz.func52 #[.pointer (some ⟨g,0,none⟩)] ?_;(with_reducible refine(lX.calls g bw t197 t198 t199 t200 t201 w0 _ ?bG ?bH BU.out).mono ?_);(case bG=>exact eL bO);(case bH=>exact gB HB);rintro e l4 ⟨rfl,hi,hb,hk⟩;refine⟨_,rfl,?_⟩;have ah:=A_ (KeepBut.trans (fS HK) hk (.inl rfl));have ai:=A_ (hb);have ay:=A_ (hi);clear HK;clear HB;clear bO;have HK:=ah;have HB:=ai;have bO:=ay;clear ah ai ay;(try clear hb);(try clear hb2);(try clear hk);(try clear hi))|((with_reducible refine bT (f:=52) rfl ?_);refine gL (some 24) Tryz.func52 #[.pointer (some ⟨g,0,none⟩)] ?_;(with_reducible refine(lX.calls g bw t200 t201 t202 t203 t204 w0 _ ?bG ?bH vr.out).mono ?_);(case bG=>exact eL bO);(case bH=>exact gB HB);rintro e l5 ⟨rfl,hi,hb,hk⟩;refine⟨_,rfl,?_⟩;have ah:=A_ (KeepBut.trans (fS HK) hk (.inl rfl));have ai:=A_ (hb);have ay:=A_ (hi);clear HK;clear HB;clear bO;have HK:=ah;have HB:=ai;have bO:=ay;clear ah ai ay;(try clear hb);(try clear hb2);(try clear hk);(try clear hi)))
    go_ret;exact⟨eR,eL bO,gB HB,fS HK⟩
def tx.f (bw:List Int) (cJ:Int) (cO:Int) (a1:Int):Option (Bool×Int×Int):=(eW.f bw cJ cO a1).bind fun xN=>(some ((xN.1==0),xN.2.1,xN.2.2))
theorem tx.calls (g:Nat) (bw:List Int) (cJ:Int) (cO:Int) (a1:Int) (r1:Bool) (r2:Int) (r3:Int) (w0 w:World) (hI:bQ w0 w g bw cJ cO) (hB:Below w0.heap.size w0 w) (h:tx.f bw cJ cO a1=some (r1,r2,r3)):
  Calls Tryz.prog 49 #[.pointer (some ⟨g,0,none⟩),.int .i64 a1] w fun e w'=>e= .returned (.bool r1)∧bQ w0 w' g bw r2 r3∧Below w0.heap.size w0 w'∧KeepBut w w' g none:=by
 have bO:=A_ hI;have HK:=A_ (KeepBut.refl w g none);have HL:=A_ hB.size;clear hI;have xn:=A_ hB.size;have HB:=A_ hB;clear hB;have H:((eW.f bw cJ cO a1).bind fun xN=>(some ((xN.1==0),xN.2.1,xN.2.2)))=some (r1,r2,r3):=h;clear h;replace H:=Option.bind_eq_some_iff.mp H;obtain⟨⟨t205,t206,t207⟩,ng,H⟩:=H
 (try dsimp only at H)
 have A3:=A_ ng;clear ng;simp only[Option.some.injEq,Prod.mk.injEq]at H;obtain⟨rfl,rfl,rfl⟩:=H;go_enter Tryz.func49,Tryz.ntmps49
 go_wp2_with (first|((with_reducible refine bT (f:=26) rfl ?_);refine gL (some 7) Tryz.func26 #[.pointer (some ⟨g,0,none⟩),.int .i64 a1] ?_;(with_reducible refine(eW.calls g bw cJ cO a1 t205 t206 t207 w0 _ ?bG ?bH A3.out).mono ?_);(case bG=>exact eL bO);(case bH=>exact gB HB);rintro e w4 ⟨rfl,hi,hb,hk⟩;refine⟨_,rfl,?_⟩;have ah:=A_ (KeepBut.trans (fS HK) hk (.inl rfl));have ai:=A_ (hb);have ay:=A_ (hi);clear HK;clear HB;clear bO;have HK:=ah;have HB:=ai;have bO:=ay;clear ah ai ay;(try clear hb);(try clear hb2);(try clear hk);(try clear hi)))
 go_ret;exact⟨eR,eL bO,gB HB,fS HK⟩
def Bq.f (l0:List Int):Option (List Int):=(some (([]:List Int):List Int)).bind fun sF=>(if sF.length+l0.length<17592186044416 then(some (sF++l0))else(none))
theorem Bq.calls (A0:Option Addr) (c0:Nat) (l0:List Int) (r:List Int) (w:World) (cd:Kd.C (Kd.int .i64) w A0 l0.length l0) (hc0:l0.length≤c0) (h:Bq.f l0=some r):
  Calls Tryz.prog 108 #[.slice A0 l0.length c0] w fun e w'=>∃v0_:Value,e= .returned (v0_)∧Kd.R (Kd.int .i64) 3 w' w.heap.size (fun _=>True) v0_ r∧Below w.heap.size w w':=by
 have dI:=A_ cd;have nh:=A_ hc0;clear cd hc0;have HB:=A_ (Below.refl w.heap.size w);have H:((some (([]:List Int):List Int)).bind fun sF=>(if sF.length+l0.length<17592186044416 then(some (sF++l0))else(none)))=some r:=h;clear h;obtain⟨sF,hy208⟩:∃y_:List Int,y_=(([]:List Int)):=⟨_,rfl⟩;replace H:(if sF.length+l0.length<17592186044416 then(some (sF++l0))else(none))=some r:=by first|(rw[hy208];with_reducible exact H)|(have aI:=(Option.bind_some _ _).symm.trans H;rw[hy208];with_reducible exact aI)|(have aI:=(Option.bind_some _ _).symm.trans H;with_reducible exact aI)|with_reducible exact H|(rw[hy208];exact H)|exact H
 have Ny208:=A_ hy208;clear hy208;by_cases c2:sF.length+l0.length<17592186044416
 ·rw[if_pos c2]at H;have tQ:=A_ c2;clear c2;obtain⟨akV,EB⟩:∃y_:List Int,y_=(sF++l0):=⟨_,rfl⟩;replace H:(some akV)=some r:=by first|(rw[EB];with_reducible exact H)|(have aI:=(Option.bind_some _ _).symm.trans H;rw[EB];with_reducible exact aI)|(have aI:=(Option.bind_some _ _).symm.trans H;with_reducible exact aI)|with_reducible exact H|(rw[EB];exact H)|exact H
  have aar:=A_ EB;clear EB;obtain rfl:=Option.some.inj H;go_enter Tryz.func108,Tryz.ntmps108
  go_wp2_with (first|((with_reducible refine gate_dst (N:=3) rfl ?_);refine Kd.iB (Kd.int .i64) _ 3 ?hg (N:=3) ?hd (xs:=([]:List Int)) (inner:=[]) (ok:=fun _=>True) (cU:=fun _=>True) ?hr ?hp (fun _ hk=>hk) trivial (Below.refl _ _) (Nat.le_refl _) (by simp) ?_;(case hd=>rfl);(case hg=>rfl);(case hr=>first|(go_simp;done)|(go_simp;rfl));(case hp=>exact(bf.none _ _));intro aj9 w3 gi hb cT dx;clear cT dx;(first|rw[←Ny208.out]at gi|(simp only[Int.reduceToNat]at gi;rw[←Ny208.out]at gi));have ah:=A_ (Kd.dr gi (bn (oB HB)));have ai:=A_ (bz (oB HB) hb);clear HB;have Qj:=ah;have HB:=ai;clear ah ai;clear hb gi)|((with_reducible refine jz (b:= .append) (xs:= #[.tmp 3,.tmp 4]) rfl ?_);at_builtin;refine Kd.xq (Kd.int .i64) (w0:=w) w.heap.size rfl (.tmp 3) (.tmp 4) 25 3 (.int .i64 0) 8 rfl Tryz.underlying25 info3 rfl (by decide) (by omega) aj9 sF l0 _ _ _ (fun _=>True) (fun _=>False) rfl rfl ?aO ?aR (fun _ _ h=>h) (fun _ h=>h.elim) ?aF ?aB ?aS ?aL ?_;(case aR=>exact eM dI.out);(case aB=>exact(oB HB));(case aF=>exact(fun _ _=>trivial));(case aO=>exact(oR Qj));(case aS=>exact(bn (oB HB)));(case aL=>have:=tQ.out;omega);intro v212 w5 ho hb hg hat;rw[←aar.out]at ho;have ah:=A_ (hb);have ai:=A_ (ho);clear HB;clear Qj;have HB:=ah;have Zn:=ai;clear ah ai;clear ho hb hg hat))
  go_ret;exact⟨_,eR,oR Zn,oB HB⟩
 ·rw[if_neg c2]at H;exact absurd H (by simp)
def qM.f (l0:List (S64)):Option ((List (S64))):=(some (([]:List (S64)):List (S64))).bind fun sG=>(if sG.length+l0.length<4398046511104 then(some (sG++l0))else(none))
theorem qM.calls (A0:Option Addr) (c0:Nat) (l0:List (S64)) (r:List (S64)) (w:World) (cd:Kd.C k64 w A0 l0.length l0) (hc0:l0.length≤c0) (h:qM.f l0=some r):
  Calls Tryz.prog 69 #[.slice A0 l0.length c0] w fun e w'=>∃v0_:Value,e= .returned (v0_)∧Kd.R k64 64 w' w.heap.size (fun _=>True) v0_ r∧Below w.heap.size w w':=by
 have dI:=A_ cd;have nh:=A_ hc0;clear cd hc0;have HB:=A_ (Below.refl w.heap.size w);have H:((some (([]:List (S64)):List (S64))).bind fun sG=>(if sG.length+l0.length<4398046511104 then(some (sG++l0))else(none)))=some r:=h;clear h;obtain⟨sG,EC⟩:∃y_:List (S64),y_=(([]:List (S64))):=⟨_,rfl⟩;replace H:(if sG.length+l0.length<4398046511104 then(some (sG++l0))else(none))=some r:=by first|(rw[EC];with_reducible exact H)|(have aI:=(Option.bind_some _ _).symm.trans H;rw[EC];with_reducible exact aI)|(have aI:=(Option.bind_some _ _).symm.trans H;with_reducible exact aI)|with_reducible exact H|(rw[EC];exact H)|exact H
 have Q5:=A_ EC;clear EC;by_cases c2:sG.length+l0.length<4398046511104
 ·rw[if_pos c2]at H;have tQ:=A_ c2;clear c2;obtain⟨akW,ED⟩:∃y_:List (S64),y_=(sG++l0):=⟨_,rfl⟩;replace H:(some akW)=some r:=by first|(rw[ED];with_reducible exact H)|(have aI:=(Option.bind_some _ _).symm.trans H;rw[ED];with_reducible exact aI)|(have aI:=(Option.bind_some _ _).symm.trans H;with_reducible exact aI)|with_reducible exact H|(rw[ED];exact H)|exact H
  have aas:=A_ ED;clear ED;obtain rfl:=Option.some.inj H;go_enter Tryz.func69,Tryz.ntmps69
  go_wp2_with (first|((with_reducible refine gate_dst (N:=3) rfl ?_);refine Kd.iB k64 _ 64 ?hg (N:=3) ?hd (xs:=([]:List (S64))) (inner:=[]) (ok:=fun _=>True) (cU:=fun _=>True) ?hr ?hp (fun _ hk=>hk) trivial (Below.refl _ _) (Nat.le_refl _) (by simp) ?_;(case hd=>rfl);(case hg=>rfl);(case hr=>first|(go_simp;done)|(go_simp;rfl));(case hp=>exact(bf.none _ _));intro aj_ w3 gi hb cT dx;clear cT dx;(first|rw[←Q5.out]at gi|(simp only[Int.reduceToNat]at gi;rw[←Q5.out]at gi));have ah:=A_ (Kd.dr gi (bn (oB HB)));have ai:=A_ (bz (oB HB) hb);clear HB;have Qk:=ah;have HB:=ai;clear ah ai;clear hb gi)|((with_reducible refine jz (b:= .append) (xs:= #[.tmp 3,.tmp 4]) rfl ?_);at_builtin;refine Kd.xq k64 (w0:=w) w.heap.size rfl (.tmp 3) (.tmp 4) 28 64 (.agg #[(.int .i64 0),(.int .i64 0),(.int .i64 0),(.int .i64 0)]) 32 rfl Tryz.underlying28 EU rfl (by decide) (by omega) aj_ sG l0 _ _ _ (fun _=>True) (fun _=>False) rfl rfl ?aO ?aR (fun _ _ h=>h) (fun _ h=>h.elim) ?aF ?aB ?aS ?aL ?_;(case aR=>exact eM dI.out);(case aB=>exact(oB HB));(case aF=>exact(fun _ _=>trivial));(case aO=>exact(oR Qk));(case aS=>exact(bn (oB HB)));(case aL=>have:=tQ.out;omega);intro v226 w5 ho hb hg hat;rw[←aas.out]at ho;have ah:=A_ (hb);have ai:=A_ (ho);clear HB;clear Qk;have HB:=ah;have Zo:=ai;clear ah ai;clear ho hb hg hat))
  go_ret;exact⟨_,eR,oR Zo,oB HB⟩
 ·rw[if_neg c2]at H;exact absurd H (by simp)
def eK.f (a0:Int) (a1:Int) (a2:Int):Option (Bool):=if a1≤a0 then(some (decide (a0≤a2)))else(some false)
theorem eK.calls (a0:Int) (a1:Int) (a2:Int) (r:Bool) (w:World) (h:eK.f a0 a1 a2=some r):
  Calls Tryz.prog 58 #[.int .i64 a0,.int .i64 a1,.int .i64 a2] w fun e w'=>e= .returned (.bool r)∧cV w w':=by
 have H:(if a1≤a0 then(some (decide (a0≤a2)))else(some false))=some r:=h;clear h;by_cases c4:a1≤a0
 ·rw[if_pos c4]at H;have kj:decide (a1≤a0)=true:=decide_eq_true c4;clear c4;obtain rfl:=Option.some.inj H;go_enter Tryz.func58,Tryz.ntmps58;go_wp2;go_ret;exact⟨eS,by repeat(first|exact cV.refl _|apply cV.step)⟩
 ·rw[if_neg c4]at H;have kj:decide (a1≤a0)=false:=decide_eq_false c4;clear c4;obtain rfl:=Option.some.inj H;go_enter Tryz.func58,Tryz.ntmps58;go_wp2;go_ret;exact⟨eS,by repeat(first|exact cV.refl _|apply cV.step)⟩
def fP.f (a0:Int):Option (Bool):=(eK.f a0 1 10000000).bind fun FD=>(some FD)
theorem fP.calls (a0:Int) (r:Bool) (w:World) (h:fP.f a0=some r):
  Calls Tryz.prog 98 #[.int .i64 a0] w fun e w'=>e= .returned (.bool r)∧cV w w':=by
 have H:((eK.f a0 1 10000000).bind fun FD=>(some FD))=some r:=h;clear h;replace H:=Option.bind_eq_some_iff.mp H;obtain⟨FD,fh,H⟩:=H
 (try dsimp only at H)
 have A2:=A_ fh;clear fh;obtain rfl:=Option.some.inj H;go_enter Tryz.func98,Tryz.ntmps98
 go_wp2_with (first|((with_reducible refine bT (f:=58) rfl ?_);refine gL (some 4) Tryz.func58 #[.int .i64 a0,.int .i64 1,.int .i64 10000000] ?_;(with_reducible refine(eK.calls a0 1 10000000 FD _ A2.out).mono ?_);rintro e w' ⟨rfl,⟨nd,rfl⟩⟩;refine⟨_,rfl,?_⟩))
 go_ret;exact⟨eS,by repeat(first|exact cV.refl _|apply cV.step)⟩
def kP.l0:Nat→List (ar)→Int→Int→Option (Int)
 |0,_,_,_=>none
 |k+1,x0,x1,x5=>if x5<(x0.length:Int)then(if 0≤x5 then(if((au x0 x5).f1)=x1 then(some x5)else(kP.l0 k x0 x1 (wrap64 (x5+1))))else(none))else(some (-1))
def kP.f (k:Nat) (l0:List (ar)) (a1:Int):Option (Int):=kP.l0 k l0 a1 0
theorem kP.calls (k:Nat) (A0:Option Addr) (c0:Nat) (l0:List (ar)) (a1:Int) (r:Int) (w:World) (cd:Kd.C bl w A0 l0.length l0) (hc0:l0.length≤c0) (h:kP.f k l0 a1=some r):
  Calls Tryz.prog 110 #[.slice A0 l0.length c0,.int .i64 a1] w fun e w'=>e= .returned (.int .i64 r)∧cV w w':=by
 have dI:=A_ cd;have nh:=A_ hc0;clear cd hc0;have H:(kP.l0 k l0 a1 0)=some r:=h;clear h;have H':=A_ H;clear H;go_enter Tryz.func110,Tryz.ntmps110;go_wp2
 go_loopg [5] k (fun kq v5 w'=>∃(dy:Int),v5= .int .i64 dy∧aj (kP.l0 kq l0 a1 dy=some r)∧aj (kq≤k)∧cV w w')
 case atStart=>exact⟨(0),eS,H',⟨Nat.le_refl _⟩,by repeat(first|exact cV.refl _|apply cV.step)⟩
 case round=>
  clear H'
  try clear c1
  try clear p2
  obtain⟨dy,rfl,HA,dh,⟨m1,rfl⟩⟩:=hrel;cases gk with
  |zero=>exact absurd HA.out (by simp[kP.l0])
  |succ k1=>
   have H:=HA.out;clear HA;simp only[kP.l0]at H;by_cases c3:dy<(l0.length:Int)
   ·rw[if_pos c3]at H;have c3b0:decide (dy<(l0.length:Int))=true:=decide_eq_true c3;clear c3;by_cases c4:0≤dy
    ·rw[if_pos c4]at H;have kj:decide (0≤dy)=true:=decide_eq_true c4;clear c4;by_cases c5:((au l0 dy).f1)=a1
     ·rw[if_pos c5]at H;have ug:(((au l0 dy).f1)==a1)=true:=beq_iff_eq.mpr c5;have CL:(((au l0 dy).f1) != a1)=false:=bne_eq_false_iff_eq.mpr c5;clear c5;obtain rfl:=Option.some.inj H;have yO:0≤(dy:Int):=oD;have za:dy<(l0.length:Int):=oD;obtain⟨abe,Lp,ae4,ae5,ae6,ae7⟩:=iC dI.out dy yO za;cases Lp;replace yO:=eq_true yO;replace za:=eq_true za;go_wp2;go_ret;exact⟨eS,by repeat(first|exact cV.refl _|apply cV.step)⟩
     ·rw[if_neg c5]at H;have ug:(((au l0 dy).f1)==a1)=false:=beq_eq_false_iff_ne.mpr c5;have CL:(((au l0 dy).f1) != a1)=true:=bne_iff_ne.mpr c5;have H':=A_ H;clear H;have yO:0≤(dy:Int):=oD;have za:dy<(l0.length:Int):=oD;obtain⟨abe,Lp,ae4,ae5,ae6,ae7⟩:=iC dI.out dy yO za;cases Lp;replace yO:=eq_true yO;replace za:=eq_true za;go_wp2
      go_roundg k1
      case measure=>have:=dh.out;omega
      case rel=>exact⟨(wrap64 (dy+1)),eS,H',⟨by have:=dh.out;omega⟩,by repeat(first|exact cV.refl _|apply cV.step)⟩
    ·rw[if_neg c4]at H;exact absurd H (by simp)
   ·rw[if_neg c3]at H;have c3b0:decide (dy<(l0.length:Int))=false:=decide_eq_false c3;clear c3;obtain rfl:=Option.some.inj H;go_wp2;go_ret;exact⟨eS,by repeat(first|exact cV.refl _|apply cV.step)⟩
mutual
def fe.j0:Nat→Bool→List (ar)→Int→List Int→Option (Bool)
 |0,_,_,_,_=>none
 |k+1,tJ,zB,zC,x242002=>if tJ=true then(some false)else(fe.l0 k 0 zB zC x242002)
def fe.l0:Nat→Int→List (ar)→Int→List Int→Option (Bool)
 |0,_,_,_,_=>none
 |k+1,x3,zB,zC,x242002=>if x3<12 then((kP.f k zB x3).bind fun t244=>(if x3=0 then(if 0≤x3 then(if x3<(x242002.length:Int)then((spec_l18Pitch.f (rd x242002 x3)).bind fun t246=>(if t246=true then(fe.l0 k (wrap64 (x3+1)) zB zC x242002)else(some false)))else(none))else(none))else(if t244≥0 then(if t244<zC then(if 0≤x3 then(if x3<(x242002.length:Int)then((spec_l18Pitch.f (rd x242002 x3)).bind fun t248=>(if t248=true then(fe.l0 k (wrap64 (x3+1)) zB zC x242002)else(some false)))else(none))else(none))else(if 0≤x3 then(if x3<(x242002.length:Int)then(if(rd x242002 x3)=0 then(fe.l0 k (wrap64 (x3+1)) zB zC x242002)else(some false))else(none))else(none)))else(if 0≤x3 then(if x3<(x242002.length:Int)then(if(rd x242002 x3)=0 then(fe.l0 k (wrap64 (x3+1)) zB zC x242002)else(some false))else(none))else(none)))))else(some true)
end
def fe.f (k:Nat) (ak:List (ar)) (ax:Int) (aq:List Int):Option (Bool):=(qK.f ak).bind fun t242=>(if t242=true then((im.f ax 0 (ak.length:Int)).bind fun t243=>(if t243=true then(fe.j0 k ((aq.length:Int) != 12) ak ax aq)else(fe.j0 k true ak ax aq)))else(fe.j0 k true ak ax aq))
theorem fe.calls (k:Nat) (aU:Option Addr) (c0_0:Nat) (ak:List (ar)) (ax:Int) (a6:Option Addr) (aW:Nat) (aq:List Int) (r:Bool) (w:World) (cp:Kd.C bl w aU ak.length ak) (cx:ak.length≤c0_0) (cv:Kd.C (Kd.int .i64) w a6 aq.length aq) (cA:aq.length≤aW) (h:fe.f k ak ax aq=some r):
  Calls Tryz.prog 70 #[.agg #[.slice aU ak.length c0_0,.int .i64 ax,.slice a6 aq.length aW]] w fun e w'=>e= .returned (.bool r)∧Below w.heap.size w w':=by
 have lR:=Tryz.underlying27;have ix:=A_ cp;have iK:=A_ cx;clear cp cx;have iY:=A_ cv;have nM:=A_ cA;clear cv cA;have HB:=A_ (Below.refl w.heap.size w);have H:((qK.f ak).bind fun t242=>(if t242=true then((im.f ax 0 (ak.length:Int)).bind fun t243=>(if t243=true then(fe.j0 k ((aq.length:Int) != 12) ak ax aq)else(fe.j0 k true ak ax aq)))else(fe.j0 k true ak ax aq)))=some r:=h;clear h;have HC2:=A_ H;clear H;go_enter Tryz.func70,Tryz.ntmps70
 go_upto_region 1 with (first|((with_reducible refine gate_dst (N:=1) rfl ?_);(try(refine mg (by rfl) ?_;dsimp only));refine bX (N:=1) (cs:= #[.slice aU ak.length c0_0,.int .i64 ax,.slice a6 aq.length aW]) (t:=27) ?_;intro gb241 hg w3 cj hb;have ah:=A_ (bz (oB HB) hb);have ai:=A_ (cj);have ay:=A_ ((by rw[hg];exact(bn (oB HB)):w.heap.size≤gb241));have aG:=A_ ((by rw[hg];exact(bn (oB HB)):w.heap.size≤gb241));clear HB;have HB:=ah;have cf:=ai;have aly:=ay;have alk:=aG;clear ah ai ay aG;clear hb cj hg))
 (try simp only[Act.put,List.setIfInBounds_toArray,List.set_cons_zero,List.set_cons_succ])
 go_cut [24] (fun v24 wc=>∃(kq:Nat) (Jx:Bool),v24= .bool Jx∧aj (fe.j0 kq Jx ak ax aq=some r)∧aj (kq≤k)∧aj (wc.heap[gb241]? =some (.cells #[(.slice aU ak.length c0_0),.int .i64 ax,(.slice a6 aq.length aW)] 27 (0,0)))∧aj (Below w.heap.size w wc))
 case first=>
  have H:=HC2.out;clear HC2;replace H:=Option.bind_eq_some_iff.mp H;obtain⟨t242,mn,H⟩:=H
  (try dsimp only at H)
  have A4:=A_ mn;clear mn;by_cases c5:t242=true
  ·subst c5;rw[if_pos rfl]at H;replace H:=Option.bind_eq_some_iff.mp H;obtain⟨t243,oy,H⟩:=H
   (try dsimp only at H)
   have A6:=A_ oy;clear oy;by_cases c7:t243=true
   ·subst c7;rw[if_pos rfl]at H;have H':=A_ H;clear H;have Md:=cz cf 0;have Me:=cz cf 1;have Mf:=cz cf 2;have Mj:=aJ cf.out 0;have hfz8_1:=aJ cf.out 1;have Ml:=aJ cf.out 2
    go_wp2_with (first|((with_reducible refine bT (f:=109) rfl ?_);refine gL (some 8) Tryz.func109 #[.slice aU ak.length c0_0] ?_;(with_reducible refine(qK.calls _ _ ak true _ ?bG ?bH A4.out).mono ?_);(case bG=>exact eM ix.out);(case bH=>exact iK.out);rintro e w9 ⟨rfl,hb⟩;refine⟨_,rfl,?_⟩;have ah:=A_ (bb cf hb);have ai:=A_ (bz (oB HB) hb);clear cf;clear HB;have cf:=ah;have HB:=ai;clear ah ai;(try clear hb);(try clear hb2);(try clear hk);(try clear hi);have Tj:=cz cf 0;have Tk:=cz cf 1;have Tl:=cz cf 2;have TJ:=aJ cf.out 0;have TK:=aJ cf.out 1;have TL:=aJ cf.out 2)|(go_at_call 72;(with_reducible refine(im.calls ax 0 (ak.length:Int) true _ A6.out).mono ?_);rintro e w' ⟨rfl,⟨nd,rfl⟩⟩))
    go_meet
    case rel=>exact⟨_,(((aq.length:Int) != 12)),eS,H',⟨by first|omega|exact Nat.le_refl _⟩,⟨oK cf⟩,⟨oB HB⟩⟩
   ·replace c7:=Bool.eq_false_iff.mpr c7;subst c7;rw[if_neg (show¬(false=true)by decide)]at H;have H':=A_ H;clear H;have HY:=cz cf 0;have hcz11_1:=cz cf 1;have H3:=cz cf 2;have Ia:=aJ cf.out 0;have Ib:=aJ cf.out 1;have Ic:=aJ cf.out 2
    go_wp2_with (first|((with_reducible refine bT (f:=109) rfl ?_);refine gL (some 8) Tryz.func109 #[.slice aU ak.length c0_0] ?_;(with_reducible refine(qK.calls _ _ ak true _ ?bG ?bH A4.out).mono ?_);(case bG=>exact eM ix.out);(case bH=>exact iK.out);rintro e w12 ⟨rfl,hb⟩;refine⟨_,rfl,?_⟩;have ah:=A_ (bb cf hb);have ai:=A_ (bz (oB HB) hb);clear cf;clear HB;have cf:=ah;have HB:=ai;clear ah ai;(try clear hb);(try clear hb2);(try clear hk);(try clear hi);have C5:=cz cf 0;have C6:=cz cf 1;have C7:=cz cf 2;have Db:=aJ cf.out 0;have Dc:=aJ cf.out 1;have Dd:=aJ cf.out 2)|(go_at_call 72;(with_reducible refine(im.calls ax 0 (ak.length:Int) false _ A6.out).mono ?_);rintro e w' ⟨rfl,⟨nd,rfl⟩⟩))
    go_meet
    case rel=>exact⟨_,(true),eS,H',⟨by first|omega|exact Nat.le_refl _⟩,⟨oK cf⟩,⟨oB HB⟩⟩
  ·replace c5:=Bool.eq_false_iff.mpr c5;subst c5;rw[if_neg (show¬(false=true)by decide)]at H;have H':=A_ H;clear H;have Tq:=cz cf 0;have Tr:=cz cf 1;have Ts:=cz cf 2;have TQ:=aJ cf.out 0;have TR:=aJ cf.out 1;have TS:=aJ cf.out 2
   go_wp2_with (first|((with_reducible refine bT (f:=109) rfl ?_);refine gL (some 8) Tryz.func109 #[.slice aU ak.length c0_0] ?_;(with_reducible refine(qK.calls _ _ ak false _ ?bG ?bH A4.out).mono ?_);(case bG=>exact eM ix.out);(case bH=>exact iK.out);rintro e l4 ⟨rfl,hb⟩;refine⟨_,rfl,?_⟩;have ah:=A_ (bb cf hb);have ai:=A_ (bz (oB HB) hb);clear cf;clear HB;have cf:=ah;have HB:=ai;clear ah ai;(try clear hb);(try clear hb2);(try clear hk);(try clear hi)))
   go_meet
   case rel=>exact⟨_,(true),eS,H',⟨by first|omega|exact Nat.le_refl _⟩,⟨oK cf⟩,⟨oB HB⟩⟩
 case rest=>
  clear HC2
  try clear c1
  try clear p2
  try clear c5
  try clear c7
  try clear c10
  try clear Tj
  try clear Tk
  try clear Tl
  try clear HY
  try clear hcz11_1
  try clear H3
  try clear C5
  try clear C6
  try clear C7
  try clear Tq
  try clear Tr
  try clear Ts
  try clear Md
  try clear Me
  try clear Mf
  try clear TJ
  try clear TK
  try clear TL
  try clear Ia
  try clear Ib
  try clear Ic
  try clear Db
  try clear Dc
  try clear Dd
  try clear TQ
  try clear TR
  try clear TS
  try clear Mj
  try clear hfz8_1
  try clear Ml
  obtain⟨kq,Jx,rfl,HA,q9,cf,HB⟩:=hcut;cases kq with
  |zero=>exact absurd HA.out (by simp[fe.j0])
  |succ UO=>
   have H:=HA.out;clear HA;simp only[fe.j0]at H;by_cases c16:Jx=true
   ·subst c16;rw[if_pos rfl]at H;obtain rfl:=Option.some.inj H;go_wp2;go_ret;exact⟨eR,oB HB⟩
   ·replace c16:=Bool.eq_false_iff.mpr c16;subst c16;rw[if_neg (show¬(false=true)by decide)]at H;have H':=A_ H;clear H;go_wp2
    go_loopg [3] UO (fun kq v3 w'=>∃(cH:Int),v3= .int .i64 cH∧aj (fe.l0 kq cH ak ax aq=some r)∧aj (kq≤UO)∧aj (w'.heap[gb241]? =some (.cells #[(.slice aU ak.length c0_0),.int .i64 ax,(.slice a6 aq.length aW)] 27 (0,0)))∧aj (Below w.heap.size w w'))
    case atStart=>exact⟨(0),eS,H',⟨Nat.le_refl _⟩,⟨oK cf⟩,⟨oB HB⟩⟩
    case round=>
     clear H'
     try clear c1
     try clear p2
     try clear c5
     try clear c7
     try clear c10
     try clear c16
     try clear Tj
     try clear Tk
     try clear Tl
     try clear HY
     try clear hcz11_1
     try clear H3
     try clear C5
     try clear C6
     try clear C7
     try clear Tq
     try clear Tr
     try clear Ts
     try clear Md
     try clear Me
     try clear Mf
     try clear TJ
     try clear TK
     try clear TL
     try clear Ia
     try clear Ib
     try clear Ic
     try clear Db
     try clear Dc
     try clear Dd
     try clear TQ
     try clear TR
     try clear TS
     try clear Mj
     try clear hfz8_1
     try clear Ml
     try clear p2
     obtain⟨cH,rfl,HA,jJ,cf,HB⟩:=hrel;cases gk with
     |zero=>exact absurd HA.out (by simp[fe.l0])
     |succ k2=>
      have H:=HA.out;clear HA;simp only[fe.l0]at H;by_cases c17:cH<12
      ·rw[if_pos c17]at H;have AA:decide (cH<12)=true:=decide_eq_true c17;clear c17;replace H:=Option.bind_eq_some_iff.mp H;obtain⟨t244,vt,H⟩:=H
       (try dsimp only at H)
       have ox:=A_ vt;clear vt;by_cases c19:cH=0
       ·rw[if_pos c19]at H;have vT:(cH==0)=true:=beq_iff_eq.mpr c19;have CJ:(cH != 0)=false:=bne_eq_false_iff_eq.mpr c19;clear c19;by_cases c20:0≤cH
        ·rw[if_pos c20]at H;have vU:decide (0≤cH)=true:=decide_eq_true c20;clear c20;by_cases c21:cH<(aq.length:Int)
         ·rw[if_pos c21]at H;have RR:decide (cH<(aq.length:Int))=true:=decide_eq_true c21;clear c21;replace H:=Option.bind_eq_some_iff.mp H;obtain⟨t246,A220,H⟩:=H
          (try dsimp only at H)
          have BW:=A_ A220;clear A220;by_cases ju:t246=true
          ·subst ju;rw[if_pos rfl]at H;have H':=A_ H;clear H;have adz:=cz cf 0;have adA:=cz cf 1;have adB:=cz cf 2;have aee:=aJ cf.out 0;have aef:=aJ cf.out 1;have aeg:=aJ cf.out 2
           go_wp2_with (first|((with_reducible refine bT (f:=110) rfl ?_);refine gL (some 32) Tryz.func110 #[.slice aU ak.length c0_0,.int .i64 cH] ?_;(with_reducible refine(kP.calls k2 _ _ ak cH t244 _ ?bG ?bH ox.out).mono ?_);(case bG=>exact eM ix.out);(case bH=>exact iK.out);rintro e w' ⟨rfl,⟨nd,rfl⟩⟩;refine⟨_,rfl,?_⟩;have yP:0≤(cH:Int):=oD;have zb:cH<(aq.length:Int):=oD;obtain⟨abf,Lq,DI⟩:=Kd.jZ iY.out cH yP zb;cases Lq;replace DI:=hW HB DI;replace yP:=eq_true yP;replace zb:=eq_true zb)|(go_at_call 111;(with_reducible refine(spec_l18Pitch.calls (rd aq cH) true _ BW.out).mono ?_);rintro e w' ⟨rfl,⟨nd,rfl⟩⟩))
           go_roundg k2
           case measure=>have:=q9.out;have:=jJ.out;omega
           case rel=>exact⟨(wrap64 (cH+1)),eS,H',⟨by have:=q9.out;have:=jJ.out;omega⟩,⟨oK cf⟩,⟨oB HB⟩⟩
          ·replace ju:=Bool.eq_false_iff.mpr ju;subst ju;rw[if_neg (show¬(false=true)by decide)]at H;obtain rfl:=Option.some.inj H;have amZ:=cz cf 0;have am0:=cz cf 1;have am1:=cz cf 2;have aoH:=aJ cf.out 0;have aoI:=aJ cf.out 1;have aoJ:=aJ cf.out 2
           go_wp2_with (first|((with_reducible refine bT (f:=110) rfl ?_);refine gL (some 32) Tryz.func110 #[.slice aU ak.length c0_0,.int .i64 cH] ?_;(with_reducible refine(kP.calls k2 _ _ ak cH t244 _ ?bG ?bH ox.out).mono ?_);(case bG=>exact eM ix.out);(case bH=>exact iK.out);rintro e w' ⟨rfl,⟨nd,rfl⟩⟩;refine⟨_,rfl,?_⟩;have yP:0≤(cH:Int):=oD;have zb:cH<(aq.length:Int):=oD;obtain⟨abf,Lq,DI⟩:=Kd.jZ iY.out cH yP zb;cases Lq;replace DI:=hW HB DI;replace yP:=eq_true yP;replace zb:=eq_true zb)|(go_at_call 111;(with_reducible refine(spec_l18Pitch.calls (rd aq cH) false _ BW.out).mono ?_);rintro e w' ⟨rfl,⟨nd,rfl⟩⟩))
           go_ret;exact⟨eR,oB HB⟩
         ·rw[if_neg c21]at H;exact absurd H (by simp)
        ·rw[if_neg c20]at H;exact absurd H (by simp)
       ·rw[if_neg c19]at H;have vT:(cH==0)=false:=beq_eq_false_iff_ne.mpr c19;have CJ:(cH != 0)=true:=bne_iff_ne.mpr c19;by_cases kF:t244≥0
        ·rw[if_pos kF]at H;have RT:decide (0≤t244)=true:=decide_eq_true kF;clear kF;by_cases c27:t244<ax
         ·rw[if_pos c27]at H;have AB:decide (t244<ax)=true:=decide_eq_true c27;clear c27;by_cases c28:0≤cH
          ·rw[if_pos c28]at H;have al8:decide (0≤cH)=true:=decide_eq_true c28;clear c28;by_cases ud:cH<(aq.length:Int)
           ·rw[if_pos ud]at H;have abK:decide (cH<(aq.length:Int))=true:=decide_eq_true ud;clear ud;replace H:=Option.bind_eq_some_iff.mp H;obtain⟨t248,A300,H⟩:=H
            (try dsimp only at H)
            have ng:=A_ A300;clear A300;by_cases c31:t248=true
            ·subst c31;rw[if_pos rfl]at H;have H':=A_ H;clear H;have Tx:=cz cf 0;have Ty:=cz cf 1;have Tz:=cz cf 2;have TX:=aJ cf.out 0;have TY:=aJ cf.out 1;have TZ:=aJ cf.out 2
             go_wp2_with (first|((with_reducible refine bT (f:=110) rfl ?_);refine gL (some 32) Tryz.func110 #[.slice aU ak.length c0_0,.int .i64 cH] ?_;(with_reducible refine(kP.calls k2 _ _ ak cH t244 _ ?bG ?bH ox.out).mono ?_);(case bG=>exact eM ix.out);(case bH=>exact iK.out);rintro e w' ⟨rfl,⟨nd,rfl⟩⟩;refine⟨_,rfl,?_⟩;have yQ:0≤(cH:Int):=oD;have ze:cH<(aq.length:Int):=oD;obtain⟨abg,Lr,DJ⟩:=Kd.jZ iY.out cH yQ ze;cases Lr;replace DJ:=hW HB DJ;replace yQ:=eq_true yQ;replace ze:=eq_true ze)|(go_at_call 111;(with_reducible refine(spec_l18Pitch.calls (rd aq cH) true _ ng.out).mono ?_);rintro e w' ⟨rfl,⟨nd,rfl⟩⟩))
             go_roundg k2
             case measure=>have:=q9.out;have:=jJ.out;omega
             case rel=>exact⟨(wrap64 (cH+1)),eS,H',⟨by have:=q9.out;have:=jJ.out;omega⟩,⟨oK cf⟩,⟨oB HB⟩⟩
            ·replace c31:=Bool.eq_false_iff.mpr c31;subst c31;rw[if_neg (show¬(false=true)by decide)]at H;obtain rfl:=Option.some.inj H;have am2:=cz cf 0;have am3:=cz cf 1;have am4:=cz cf 2;have aoK:=aJ cf.out 0;have aoL:=aJ cf.out 1;have aoM:=aJ cf.out 2
             go_wp2_with (first|((with_reducible refine bT (f:=110) rfl ?_);refine gL (some 32) Tryz.func110 #[.slice aU ak.length c0_0,.int .i64 cH] ?_;(with_reducible refine(kP.calls k2 _ _ ak cH t244 _ ?bG ?bH ox.out).mono ?_);(case bG=>exact eM ix.out);(case bH=>exact iK.out);rintro e w' ⟨rfl,⟨nd,rfl⟩⟩;refine⟨_,rfl,?_⟩;have yQ:0≤(cH:Int):=oD;have ze:cH<(aq.length:Int):=oD;obtain⟨abg,Lr,DJ⟩:=Kd.jZ iY.out cH yQ ze;cases Lr;replace DJ:=hW HB DJ;replace yQ:=eq_true yQ;replace ze:=eq_true ze)|(go_at_call 111;(with_reducible refine(spec_l18Pitch.calls (rd aq cH) false _ ng.out).mono ?_);rintro e w' ⟨rfl,⟨nd,rfl⟩⟩))
             go_ret;exact⟨eR,oB HB⟩
           ·rw[if_neg ud]at H;exact absurd H (by simp)
          ·rw[if_neg c28]at H;exact absurd H (by simp)
         ·rw[if_neg c27]at H;have AB:decide (t244<ax)=false:=decide_eq_false c27;clear c27;by_cases oH:0≤cH
          ·rw[if_pos oH]at H;have abM:decide (0≤cH)=true:=decide_eq_true oH;clear oH;by_cases uf:cH<(aq.length:Int)
           ·rw[if_pos uf]at H;have abN:decide (cH<(aq.length:Int))=true:=decide_eq_true uf;clear uf;by_cases xP:(rd aq cH)=0
            ·rw[if_pos xP]at H;have abO:((rd aq cH)==0)=true:=beq_iff_eq.mpr xP;have abP:((rd aq cH) != 0)=false:=bne_eq_false_iff_eq.mpr xP;clear xP;have H':=A_ H;clear H;have adO:=cz cf 0;have adP:=cz cf 1;have adQ:=cz cf 2;have aet:=aJ cf.out 0;have aeu:=aJ cf.out 1;have aev:=aJ cf.out 2
             go_wp2_with (first|((with_reducible refine bT (f:=110) rfl ?_);refine gL (some 32) Tryz.func110 #[.slice aU ak.length c0_0,.int .i64 cH] ?_;(with_reducible refine(kP.calls k2 _ _ ak cH t244 _ ?bG ?bH ox.out).mono ?_);(case bG=>exact eM ix.out);(case bH=>exact iK.out);rintro e w' ⟨rfl,⟨nd,rfl⟩⟩;refine⟨_,rfl,?_⟩;have yR:0≤(cH:Int):=oD;have zf:cH<(aq.length:Int):=oD;obtain⟨abh,e249,DK⟩:=Kd.jZ iY.out cH yR zf;cases e249;replace DK:=hW HB DK;replace yR:=eq_true yR;replace zf:=eq_true zf))
             go_roundg k2
             case measure=>have:=q9.out;have:=jJ.out;omega
             case rel=>exact⟨(wrap64 (cH+1)),eS,H',⟨by have:=q9.out;have:=jJ.out;omega⟩,⟨oK cf⟩,⟨oB HB⟩⟩
            ·rw[if_neg xP]at H;have abO:((rd aq cH)==0)=false:=beq_eq_false_iff_ne.mpr xP;have abP:((rd aq cH) != 0)=true:=bne_iff_ne.mpr xP;obtain rfl:=Option.some.inj H;have ane:=cz cf 0;have anf:=cz cf 1;have ang:=cz cf 2;have aoX:=aJ cf.out 0;have aoY:=aJ cf.out 1;have aoZ:=aJ cf.out 2
             go_wp2_with (first|((with_reducible refine bT (f:=110) rfl ?_);refine gL (some 32) Tryz.func110 #[.slice aU ak.length c0_0,.int .i64 cH] ?_;(with_reducible refine(kP.calls k2 _ _ ak cH t244 _ ?bG ?bH ox.out).mono ?_);(case bG=>exact eM ix.out);(case bH=>exact iK.out);rintro e w' ⟨rfl,⟨nd,rfl⟩⟩;refine⟨_,rfl,?_⟩;have yR:0≤(cH:Int):=oD;have zf:cH<(aq.length:Int):=oD;obtain⟨abh,e249,DK⟩:=Kd.jZ iY.out cH yR zf;cases e249;replace DK:=hW HB DK;replace yR:=eq_true yR;replace zf:=eq_true zf))
             go_ret;exact⟨eR,oB HB⟩
           ·rw[if_neg uf]at H;exact absurd H (by simp)
          ·rw[if_neg oH]at H;exact absurd H (by simp)
        ·rw[if_neg kF]at H;have RT:decide (0≤t244)=false:=decide_eq_false kF;clear kF;by_cases sR:0≤cH
         ·rw[if_pos sR]at H;have amc:decide (0≤cH)=true:=decide_eq_true sR;clear sR;by_cases c40:cH<(aq.length:Int)
          ·rw[if_pos c40]at H;have amd:decide (cH<(aq.length:Int))=true:=decide_eq_true c40;clear c40;by_cases pz:(rd aq cH)=0
           ·rw[if_pos pz]at H;have abQ:((rd aq cH)==0)=true:=beq_iff_eq.mpr pz;have abR:((rd aq cH) != 0)=false:=bne_eq_false_iff_eq.mpr pz;clear pz;have H':=A_ H;clear H;have anp:=cz cf 0;have anq:=cz cf 1;have anr:=cz cf 2;have ao8:=aJ cf.out 0;have ao9:=aJ cf.out 1;have ao_:=aJ cf.out 2
            go_wp2_with (first|((with_reducible refine bT (f:=110) rfl ?_);refine gL (some 32) Tryz.func110 #[.slice aU ak.length c0_0,.int .i64 cH] ?_;(with_reducible refine(kP.calls k2 _ _ ak cH t244 _ ?bG ?bH ox.out).mono ?_);(case bG=>exact eM ix.out);(case bH=>exact iK.out);rintro e w' ⟨rfl,⟨nd,rfl⟩⟩;refine⟨_,rfl,?_⟩;have yT:0≤(cH:Int):=oD;have zh:cH<(aq.length:Int):=oD;obtain⟨abi,Lt,DL⟩:=Kd.jZ iY.out cH yT zh;cases Lt;replace DL:=hW HB DL;replace yT:=eq_true yT;replace zh:=eq_true zh))
            go_roundg k2
            case measure=>have:=q9.out;have:=jJ.out;omega
            case rel=>exact⟨(wrap64 (cH+1)),eS,H',⟨by have:=q9.out;have:=jJ.out;omega⟩,⟨oK cf⟩,⟨oB HB⟩⟩
           ·rw[if_neg pz]at H;have abQ:((rd aq cH)==0)=false:=beq_eq_false_iff_ne.mpr pz;have abR:((rd aq cH) != 0)=true:=bne_iff_ne.mpr pz;obtain rfl:=Option.some.inj H;have ans:=cz cf 0;have ant:=cz cf 1;have anu:=cz cf 2;have ao':=aJ cf.out 0;have apa:=aJ cf.out 1;have apb:=aJ cf.out 2
            go_wp2_with (first|((with_reducible refine bT (f:=110) rfl ?_);refine gL (some 32) Tryz.func110 #[.slice aU ak.length c0_0,.int .i64 cH] ?_;(with_reducible refine(kP.calls k2 _ _ ak cH t244 _ ?bG ?bH ox.out).mono ?_);(case bG=>exact eM ix.out);(case bH=>exact iK.out);rintro e w' ⟨rfl,⟨nd,rfl⟩⟩;refine⟨_,rfl,?_⟩;have yT:0≤(cH:Int):=oD;have zh:cH<(aq.length:Int):=oD;obtain⟨abi,Lt,DL⟩:=Kd.jZ iY.out cH yT zh;cases Lt;replace DL:=hW HB DL;replace yT:=eq_true yT;replace zh:=eq_true zh))
            go_ret;exact⟨eR,oB HB⟩
          ·rw[if_neg c40]at H;exact absurd H (by simp)
         ·rw[if_neg sR]at H;exact absurd H (by simp)
      ·rw[if_neg c17]at H;have AA:decide (cH<12)=false:=decide_eq_false c17;clear c17;obtain rfl:=Option.some.inj H;go_wp2;go_ret;exact⟨eR,oB HB⟩
def uY.f (bw:List Int) (cJ:Int) (cO:Int) (l1:List Int):Option (Int×Int×Int):=(eW.f bw cJ cO (l1.length:Int)).bind fun rC=>(if 0≤rC.1 then(if rC.1<(l1.length:Int)then(some (rd l1 rC.1,rC.2.1,rC.2.2))else(none))else(none))
theorem uY.calls (g:Nat) (bw:List Int) (cJ:Int) (cO:Int) (A1:Option Addr) (c1:Nat) (l1:List Int) (r1:Int) (r2:Int) (r3:Int) (w0 w:World) (hI:bQ w0 w g bw cJ cO) (hB:Below w0.heap.size w0 w) (hr1:Kd.C (Kd.int .i64) w A1 l1.length l1) (hc1:l1.length≤c1) (Mg:∀ad,A1=some ad→0<l1.length→ad.block≠g) (h:uY.f bw cJ cO l1=some (r1,r2,r3)):
  Calls Tryz.prog 95 #[.pointer (some ⟨g,0,none⟩),.slice A1 l1.length c1] w fun e w'=>e= .returned (.int .i64 r1)∧bQ w0 w' g bw r2 r3∧Below w0.heap.size w0 w'∧KeepBut w w' g none:=by
 have kg:=A_ hr1;have qZ:=A_ hc1;clear hr1 hc1;have bO:=A_ hI;have HK:=A_ (KeepBut.refl w g none);have HL:=A_ hB.size;clear hI;have xn:=A_ hB.size;have HB:=A_ hB;clear hB;have H:((eW.f bw cJ cO (l1.length:Int)).bind fun rC=>(if 0≤rC.1 then(if rC.1<(l1.length:Int)then(some (rd l1 rC.1,rC.2.1,rC.2.2))else(none))else(none)))=some (r1,r2,r3):=h;clear h;replace H:=Option.bind_eq_some_iff.mp H;obtain⟨⟨wQ,ajn,ajo⟩,ng,H⟩:=H
 (try dsimp only at H)
 have A3:=A_ ng;clear ng;by_cases c4:0≤wQ
 ·rw[if_pos c4]at H;have kj:decide (0≤wQ)=true:=decide_eq_true c4;clear c4;by_cases c5:wQ<(l1.length:Int)
  ·rw[if_pos c5]at H;have ug:decide (wQ<(l1.length:Int))=true:=decide_eq_true c5;clear c5;simp only[Option.some.injEq,Prod.mk.injEq]at H;obtain⟨rfl,rfl,rfl⟩:=H;go_enter Tryz.func95,Tryz.ntmps95
   go_wp2_with (first|((with_reducible refine bT (f:=26) rfl ?_);refine gL (some 9) Tryz.func26 #[.pointer (some ⟨g,0,none⟩),.int .i64 (l1.length:Int)] ?_;(with_reducible refine(eW.calls g bw cJ cO (l1.length:Int) wQ ajn ajo w0 _ ?bG ?bH A3.out).mono ?_);(case bG=>exact eL bO);(case bH=>exact gB HB);rintro e w6 ⟨rfl,hi,hb,hk⟩;refine⟨_,rfl,?_⟩;have ah:=A_ (KeepBut.trans (fS HK) hk (.inl rfl));have ai:=A_ (hb);have ay:=A_ (hi);clear HK;clear HB;clear bO;have HK:=ah;have HB:=ai;have bO:=ay;clear ah ai ay;(try clear hb);(try clear hb2);(try clear hk);(try clear hi);have Ng:0≤(wQ:Int):=oD;have NA:wQ<(l1.length:Int):=oD;obtain⟨abj,acB,Ut⟩:=Kd.jZ kg.out wQ Ng NA;cases acB;replace Ut:=afM HK.out Ut (by first|(rw[add_block];exact Mg _ rfl (by omega))|exact Mg _ rfl (by omega)|exact Mg abj rfl (by omega));replace Ng:=eq_true Ng;replace NA:=eq_true NA))
   go_ret;exact⟨eR,eL bO,gB HB,fS HK⟩
  ·rw[if_neg c5]at H;exact absurd H (by simp)
 ·rw[if_neg c4]at H;exact absurd H (by simp)
def spec_l19Plan.l0:Nat→List (ar)→Int→List Int→Int→Int→Option ((List (ar))×Int×Int)
 |0,_,_,_,_,_=>none
 |k+1,x3,x4,lK,x1001,x1002=>if x4<(x3.length:Int)then((eW.f lK x1001 x1002 1500).bind fun KM=>(if 0≤x4 then((some (x3.set (x4:Int).toNat (⟨(au x3 x4).f0,(au x3 x4).f1,(au x3 x4).f2,KM.1⟩:ar):List (ar))).bind fun iJ=>((tx.f lK KM.2.1 KM.2.2 5).bind fun rE=>(if rE.1=true then(spec_l19Plan.l0 k (iJ.set (x4:Int).toNat (⟨(au iJ x4).f0,(au iJ x4).f1,2,(au iJ x4).f3⟩:ar)) (wrap64 (x4+1)) lK rE.2.1 rE.2.2)else(spec_l19Plan.l0 k iJ (wrap64 (x4+1)) lK rE.2.1 rE.2.2))))else(none)))else((eW.f lK x1001 x1002 12).bind fun KL=>((uY.f lK KL.2.1 KL.2.2 (([11,11,11,KL.1]:List Int))).bind fun rD=>(if 0≤rD.1 then(if rD.1≤(x3.length:Int)then(some ((x3.take (rD.1:Int).toNat),rD.2.1,rD.2.2))else(none))else(none))))
def spec_l19Plan.f (k:Nat) (bw:List Int) (cJ:Int) (cO:Int):Option ((List (ar))×Int×Int):=(kz.f k 0).bind fun BB=>(spec_l19Plan.l0 k BB 0 bw cJ cO)
theorem spec_l19Plan.calls (k:Nat) (g:Nat) (bw:List Int) (cJ:Int) (cO:Int) (r1:List (ar)) (r2:Int) (r3:Int) (w0 w:World) (hI:bQ w0 w g bw cJ cO) (hB:Below w0.heap.size w0 w) (h:spec_l19Plan.f k bw cJ cO=some (r1,r2,r3)):
  Calls Tryz.prog 93 #[.pointer (some ⟨g,0,none⟩)] w fun e w'=>∃v0_:Value,e= .returned (v0_)∧Kd.R bl 110 w' w.heap.size (fun _=>True) v0_ r1∧bQ w0 w' g bw r2 r3∧Below w0.heap.size w0 w'∧KeepBut w w' g none:=by
 have bO:=A_ hI;have HK:=A_ (KeepBut.refl w g none);have HL:=A_ hB.size;clear hI;have xn:=A_ hB.size;have HB:=A_ hB;clear hB;have H:((kz.f k 0).bind fun BB=>(spec_l19Plan.l0 k BB 0 bw cJ cO))=some (r1,r2,r3):=h;clear h;replace H:=Option.bind_eq_some_iff.mp H;obtain⟨BB,fh,H⟩:=H
 (try dsimp only at H)
 have A2:=A_ fh;clear fh;have H':=A_ H;clear H;go_enter Tryz.func93,Tryz.ntmps93
 go_wp2_with (first|((with_reducible refine bT (f:=92) rfl ?_);refine gL (some 5) Tryz.func92 #[.int .i64 0] ?_;(with_reducible refine(kz.calls k 0 BB _ A2.out).mono ?_);rintro e w3 ⟨aj',rfl,ho0,hb⟩;refine⟨_,rfl,?_⟩;have ah:=A_ (Kd.dr ho0 (keep_size (w:=w) (g:=g) (row:=none) (by repeat(first|(with_reducible first|exact HK.out|apply KeepBut.wF|apply yy|apply yx|apply wu)|exact HK.out))));have ai:=A_ (bQ.below (eL bO) hb);have ay:=A_ (KeepBut.trans (fS HK) (KeepBut.wB hb g none) (.inl rfl));have aG:=A_ (bz (gB HB) hb);clear bO;clear HK;clear HB;have HO481:=ah;have bO:=ai;have HK:=ay;have HB:=aG;clear ah ai ay aG;(try clear hb);(try clear hb2);(try clear hk);(try clear hi);(try clear ho0)))
 go_loopg [4] k (fun kq v4 w'=>∃(bA:List (ar)) (aC:Int) (l7:Int) (l8:Int),v4= .int .i64 aC∧aj (spec_l19Plan.l0 kq bA aC bw l7 l8=some (r1,r2,r3))∧aj (kq≤k)∧aj (Kd.R bl 110 w' w.heap.size (fun _=>True) aj' bA)∧aj (bQ w0 w' g bw l7 l8)∧aj (KeepBut w w' g none)∧aj (Below w0.heap.size w0 w'))
 case atStart=>exact⟨(BB),(0),(cJ),(cO),eS,H',⟨Nat.le_refl _⟩,⟨oR HO481⟩,⟨eL bO⟩,⟨fS HK⟩,⟨gB HB⟩⟩
 case round=>
  clear H'
  try clear p2
  obtain⟨bA,aC,l7,l8,rfl,HA,dh,bc,bO,HK,HB⟩:=hrel;cases gk with
  |zero=>exact absurd HA.out (by simp[spec_l19Plan.l0])
  |succ k1=>
   have H:=HA.out;clear HA;simp only[spec_l19Plan.l0]at H;by_cases c4:aC<(bA.length:Int)
   ·rw[if_pos c4]at H;have kj:decide (aC<(bA.length:Int))=true:=decide_eq_true c4;clear c4;replace H:=Option.bind_eq_some_iff.mp H;obtain⟨⟨sq,zu,zv⟩,k9,H⟩:=H
    (try dsimp only at H)
    have A5:=A_ k9;clear k9;by_cases c6:0≤aC
    ·rw[if_pos c6]at H;have rI:decide (0≤aC)=true:=decide_eq_true c6;clear c6;obtain⟨iJ,EG⟩:∃y_:List (ar),y_=(bA.set (aC:Int).toNat (⟨(au bA aC).f0,(au bA aC).f1,(au bA aC).f2,sq⟩:ar)):=⟨_,rfl⟩;replace H:((tx.f bw zu zv 5).bind fun rE=>(if rE.1=true then(spec_l19Plan.l0 k1 (iJ.set (aC:Int).toNat (⟨(au iJ aC).f0,(au iJ aC).f1,2,(au iJ aC).f3⟩:ar)) (wrap64 (aC+1)) bw rE.2.1 rE.2.2)else(spec_l19Plan.l0 k1 iJ (wrap64 (aC+1)) bw rE.2.1 rE.2.2)))=some (r1,r2,r3):=by first|(rw[EG];with_reducible exact H)|(have aI:=(Option.bind_some _ _).symm.trans H;rw[EG];with_reducible exact aI)|(have aI:=(Option.bind_some _ _).symm.trans H;with_reducible exact aI)|with_reducible exact H|(rw[EG];exact H)|exact H
     have Q8:=A_ EG;clear EG;replace H:=Option.bind_eq_some_iff.mp H;obtain⟨⟨ajp,FB,FC⟩,qX,H⟩:=H
     (try dsimp only at H)
     have A8:=A_ qX;clear qX;by_cases c9:ajp=true
     ·subst c9;rw[if_pos rfl]at H;obtain⟨Pr,EH⟩:∃y_:List (ar),y_=(iJ.set (aC:Int).toNat (⟨(au iJ aC).f0,(au iJ aC).f1,2,(au iJ aC).f3⟩:ar)):=⟨_,rfl⟩;replace H:(spec_l19Plan.l0 k1 Pr (wrap64 (aC+1)) bw FB FC)=some (r1,r2,r3):=by first|(rw[EH];with_reducible exact H)|(have aI:=(Option.bind_some _ _).symm.trans H;rw[EH];with_reducible exact aI)|(have aI:=(Option.bind_some _ _).symm.trans H;with_reducible exact aI)|with_reducible exact H|(rw[EH];exact H)|exact H
      have aat:=A_ EH;clear EH;have H':=A_ H;clear H;obtain⟨mq,co11,CS⟩:=Kd.dp bc.out;subst CS
      go_wp2_with (first|((with_reducible refine bT (f:=26) rfl ?_);refine gL (some 15) Tryz.func26 #[.pointer (some ⟨g,0,none⟩),.int .i64 1500] ?_;(with_reducible refine(eW.calls g bw l7 l8 1500 sq zu zv w0 _ ?bG ?bH A5.out).mono ?_);(case bG=>exact eL bO);(case bH=>exact gB HB);rintro e w12 ⟨rfl,hi,hb,hk⟩;refine⟨_,rfl,?_⟩;have ah:=A_ (Kd.bN (Kd.tS (bQ.apart (show bQ w0 _ g bw l7 l8 from eL bO) (oR bc) (by decide)) hk (fun _ h=>h.2)) (fun _ h=>h.1));have ai:=A_ (KeepBut.trans (fS HK) hk (.inl rfl));have ay:=A_ (hb);have aG:=A_ (hi);clear bc;clear HK;clear HB;clear bO;have bc:=ah;have HK:=ai;have HB:=ay;have bO:=aG;clear ah ai ay aG;(try clear hb);(try clear hb2);(try clear hk);(try clear hi);have p7:0≤(aC:Int):=oD;have q7:(aC:Int)<((bA.length:Int):Int):=oD;obtain⟨fR,Hv,xV,CW,LN,cl7,vy⟩:=Kd.xr bc.out (by omega);(first|cases xV|(injection xV with lQ xT xS;(first|subst lQ|(injection lQ with lQ;subst lQ));subst xS;clear xT));have GG:=A_ CW;have YG:=A_ vy;clear CW LN vy;obtain⟨ce7,Mb,CY,rV,rW⟩:=Kd.zZ bc.out gb (aC:Int) p7 q7;obtain rfl:=k110_openM CY;have ae9:w12.cell? ⟨fR,(aC:Int).toNat*4,none⟩=some (.int .i64 ((au bA aC).f0)):=rV 0 _ rfl;have ae_:w12.cell? ⟨fR,(aC:Int).toNat*4+1,none⟩=some (.int .i64 ((au bA aC).f1)):=rV 1 _ rfl;have ae':w12.cell? ⟨fR,(aC:Int).toNat*4+2,none⟩=some (.int .i64 ((au bA aC).f2)):=rV 2 _ rfl;have afa:w12.cell? ⟨fR,(aC:Int).toNat*4+3,none⟩=some (.int .i64 ((au bA aC).f3)):=rV 3 _ rfl;have ad_:w12.frozen? ⟨fR,(aC:Int).toNat*4,none⟩=false:=rW 0;have ad':w12.frozen? ⟨fR,(aC:Int).toNat*4+1,none⟩=false:=rW 1;have aea:w12.frozen? ⟨fR,(aC:Int).toNat*4+2,none⟩=false:=rW 2;have aeb:w12.frozen? ⟨fR,(aC:Int).toNat*4+3,none⟩=false:=rW 3;clear Mb rV rW CY;replace p7:=eq_true p7;replace q7:=eq_true q7;have QC:=A_ (show Kd.R bl 110 w12 w.heap.size (fun _=>True) (.slice (some ⟨fR,0,none⟩) bA.length co11) bA from(oR bc));obtain⟨amo,Tf,SU,L9,TG⟩:=Kd.zZ QC.out gb (aC:Int) (oD) (by have h_:(aC:Int)<((bA.length:Int):Int):=oD;first|exact h_|(have e_:=(Kd.ct bc.out).1;omega)|simpa using h_);obtain rfl:=k110_openM SU;have J0:=Kd.Kr QC.out (aC:Int) (oD) (by have h_:(aC:Int)<((bA.length:Int):Int):=oD;first|exact h_|(have e_:=(Kd.ct bc.out).1;omega)|simpa using h_) (seg:=[.int .i64 sq]) (j:=3) Tf L9 (show 4≤4 from by decide) (x':=(⟨(au bA aC).f0,(au bA aC).f1,(au bA aC).f2,sq⟩:ar)) (s6 _ _ _ (⟨(au bA aC).f0,(au bA aC).f1,(au bA aC).f2,sq⟩:ar)) (fun _ hk=>hk);have ae0:=L9 3 _ rfl;(try simp only[show(bl).sz=4 from rfl,Nat.mul_one,Nat.add_zero]at ae0);have ad6:=TG 3;(try simp only[show(bl).sz=4 from rfl,Nat.mul_one,Nat.add_zero]at ad6);clear Tf L9 TG SU)|((with_reducible refine AL (t:=3) (p:=17) rfl ?_);refine Br (t:=3) (p:=17) (v:= ?asL) (w1:=(w12.setCell ⟨fR,(aC:Int).toNat*4+3,none⟩ (.int .i64 sq))) ?hg ?ho ?hn ?hr ?_;(case ho=>rfl);(case hg=>rfl);(case hn=>rfl);(case hr=>first|(go_simp;done)|(go_simp;rfl));intro wW hw;have hg:w12.grownBy wW (some fR):=(by rw[hw];exact J0.2);have mJ:Kd.R bl 110 wW w.heap.size (fun _=>True) (.slice (some ⟨fR,0,none⟩) bA.length co11) iJ:=(by rw[hw,Q8.out];exact J0.1);clear J0;have ah:=A_ (mJ);have ai:=A_ (bQ.grown (eL bO) hg (bQ.wC bO.out bc.out (by decide)));have ay:=A_ ((by rw[hw];exact nZ (HB.out) (Nat.le_trans HL.out GG.out):Below w0.heap.size w0 wW));have aG:=A_ (KeepBut.trans (fS HK) (KeepBut.Bc hg g) (Kd.GW bc.out));clear bc;clear bO;clear HB;clear HK;have bc:=ah;have bO:=ai;have HB:=ay;have HK:=aG;clear ah ai ay aG;clear hg hw mJ)|((with_reducible refine bT (f:=49) rfl ?_);refine gL (some 19) Tryz.func49 #[.pointer (some ⟨g,0,none⟩),.int .i64 5] ?_;(with_reducible refine(tx.calls g bw zu zv 5 true FB FC w0 _ ?bG ?bH A8.out).mono ?_);(case bG=>exact eL bO);(case bH=>exact gB HB);rintro e l4 ⟨rfl,hi,hb,hk⟩;refine⟨_,rfl,?_⟩;have ah:=A_ (Kd.bN (Kd.tS (bQ.apart (show bQ w0 _ g bw zu zv from eL bO) (oR bc) (by decide)) hk (fun _ h=>h.2)) (fun _ h=>h.1));have ai:=A_ (KeepBut.trans (fS HK) hk (.inl rfl));have ay:=A_ (hb);have aG:=A_ (hi);clear bc;clear HK;clear HB;clear bO;have bc:=ah;have HK:=ai;have HB:=ay;have bO:=aG;clear ah ai ay aG;(try clear hb);(try clear hb2);(try clear hk);(try clear hi);have p10:0≤(aC:Int):=oD;have Np:(aC:Int)<((bA.length:Int):Int):=oD;obtain⟨amn,adr,SS,C1,C9⟩:=Kd.zZ bc.out gb (aC:Int) p10 Np;obtain rfl:=k110_openM SS;have aqF:l4.cell? ⟨fR,(aC:Int).toNat*4,none⟩=some (.int .i64 ((au iJ aC).f0)):=C1 0 _ rfl;have aqG:l4.cell? ⟨fR,(aC:Int).toNat*4+1,none⟩=some (.int .i64 ((au iJ aC).f1)):=C1 1 _ rfl;have aqH:l4.cell? ⟨fR,(aC:Int).toNat*4+2,none⟩=some (.int .i64 ((au iJ aC).f2)):=C1 2 _ rfl;have aqI:l4.cell? ⟨fR,(aC:Int).toNat*4+3,none⟩=some (.int .i64 ((au iJ aC).f3)):=C1 3 _ rfl;have aor:l4.frozen? ⟨fR,(aC:Int).toNat*4,none⟩=false:=C9 0;have aos:l4.frozen? ⟨fR,(aC:Int).toNat*4+1,none⟩=false:=C9 1;have aot:l4.frozen? ⟨fR,(aC:Int).toNat*4+2,none⟩=false:=C9 2;have aou:l4.frozen? ⟨fR,(aC:Int).toNat*4+3,none⟩=false:=C9 3;clear adr C1 C9 SS;replace p10:=eq_true p10;replace Np:=eq_true Np;have QD:=A_ (show Kd.R bl 110 l4 w.heap.size (fun _=>True) (.slice (some ⟨fR,0,none⟩) bA.length co11) iJ from(oR bc));obtain⟨amp,Tg,SV,L_,TH⟩:=Kd.zZ QD.out gb (aC:Int) (oD) (by have h_:(aC:Int)<((bA.length:Int):Int):=oD;first|exact h_|(have e_:=(Kd.ct bc.out).1;omega)|simpa using h_);obtain rfl:=k110_openM SV;have J2:=Kd.Kr QD.out (aC:Int) (oD) (by have h_:(aC:Int)<((bA.length:Int):Int):=oD;first|exact h_|(have e_:=(Kd.ct bc.out).1;omega)|simpa using h_) (seg:=[.int .i64 2]) (j:=2) Tg L_ (show 3≤4 from by decide) (x':=(⟨(au iJ aC).f0,(au iJ aC).f1,2,(au iJ aC).f3⟩:ar)) (s6 _ _ _ (⟨(au iJ aC).f0,(au iJ aC).f1,2,(au iJ aC).f3⟩:ar)) (fun _ hk=>hk);have ae2:=L_ 2 _ rfl;(try simp only[show(bl).sz=4 from rfl,Nat.mul_one,Nat.add_zero]at ae2);have ad7:=TH 2;(try simp only[show(bl).sz=4 from rfl,Nat.mul_one,Nat.add_zero]at ad7);clear Tg L_ TH SV)|((with_reducible refine AL (t:=3) (p:=23) rfl ?_);refine Br (t:=3) (p:=23) (v:= ?asN) (w1:=(l4.setCell ⟨fR,(aC:Int).toNat*4+2,none⟩ (.int .i64 2))) ?hg ?ho ?hn ?hr ?_;(case ho=>rfl);(case hg=>rfl);(case hn=>rfl);(case hr=>first|(go_simp;done)|(go_simp;rfl));intro Jl hw;have hg:l4.grownBy Jl (some fR):=(by rw[hw];exact J2.2);have mJ:Kd.R bl 110 Jl w.heap.size (fun _=>True) (.slice (some ⟨fR,0,none⟩) bA.length co11) Pr:=(by rw[hw,aat.out];exact J2.1);clear J2;have ah:=A_ (mJ);have ai:=A_ (bQ.grown (eL bO) hg (bQ.wC bO.out bc.out (by decide)));have ay:=A_ ((by rw[hw];exact nZ (HB.out) (Nat.le_trans HL.out GG.out):Below w0.heap.size w0 Jl));have aG:=A_ (KeepBut.trans (fS HK) (KeepBut.Bc hg g) (Kd.GW bc.out));clear bc;clear bO;clear HB;clear HK;have bc:=ah;have bO:=ai;have HB:=ay;have HK:=aG;clear ah ai ay aG;clear hg hw mJ))
      go_roundg k1
      case measure=>have:=dh.out;omega
      case rel=>exact⟨(Pr),(wrap64 (aC+1)),(FB),(FC),eS,H',⟨by have:=dh.out;omega⟩,⟨oR bc⟩,⟨eL bO⟩,⟨fS HK⟩,⟨gB HB⟩⟩
     ·replace c9:=Bool.eq_false_iff.mpr c9;subst c9;rw[if_neg (show¬(false=true)by decide)]at H;have H':=A_ H;clear H;obtain⟨PN,Ht,LA⟩:=Kd.dp bc.out;subst LA
      go_wp2_with (first|((with_reducible refine bT (f:=26) rfl ?_);refine gL (some 15) Tryz.func26 #[.pointer (some ⟨g,0,none⟩),.int .i64 1500] ?_;(with_reducible refine(eW.calls g bw l7 l8 1500 sq zu zv w0 _ ?bG ?bH A5.out).mono ?_);(case bG=>exact eL bO);(case bH=>exact gB HB);rintro e w19 ⟨rfl,hi,hb,hk⟩;refine⟨_,rfl,?_⟩;have ah:=A_ (Kd.bN (Kd.tS (bQ.apart (show bQ w0 _ g bw l7 l8 from eL bO) (oR bc) (by decide)) hk (fun _ h=>h.2)) (fun _ h=>h.1));have ai:=A_ (KeepBut.trans (fS HK) hk (.inl rfl));have ay:=A_ (hb);have aG:=A_ (hi);clear bc;clear HK;clear HB;clear bO;have bc:=ah;have HK:=ai;have HB:=ay;have bO:=aG;clear ah ai ay aG;(try clear hb);(try clear hb2);(try clear hk);(try clear hi);have p7:0≤(aC:Int):=oD;have q7:(aC:Int)<((bA.length:Int):Int):=oD;obtain⟨fR,Hv,xV,CW,LN,cl7,vy⟩:=Kd.xr bc.out (by omega);(first|cases xV|(injection xV with lQ xT xS;(first|subst lQ|(injection lQ with lQ;subst lQ));subst xS;clear xT));have GG:=A_ CW;have YG:=A_ vy;clear CW LN vy;obtain⟨ce7,Mb,CY,rV,rW⟩:=Kd.zZ bc.out gb (aC:Int) p7 q7;obtain rfl:=k110_openM CY;have ae9:w19.cell? ⟨fR,(aC:Int).toNat*4,none⟩=some (.int .i64 ((au bA aC).f0)):=rV 0 _ rfl;have ae_:w19.cell? ⟨fR,(aC:Int).toNat*4+1,none⟩=some (.int .i64 ((au bA aC).f1)):=rV 1 _ rfl;have ae':w19.cell? ⟨fR,(aC:Int).toNat*4+2,none⟩=some (.int .i64 ((au bA aC).f2)):=rV 2 _ rfl;have afa:w19.cell? ⟨fR,(aC:Int).toNat*4+3,none⟩=some (.int .i64 ((au bA aC).f3)):=rV 3 _ rfl;have ad_:w19.frozen? ⟨fR,(aC:Int).toNat*4,none⟩=false:=rW 0;have ad':w19.frozen? ⟨fR,(aC:Int).toNat*4+1,none⟩=false:=rW 1;have aea:w19.frozen? ⟨fR,(aC:Int).toNat*4+2,none⟩=false:=rW 2;have aeb:w19.frozen? ⟨fR,(aC:Int).toNat*4+3,none⟩=false:=rW 3;clear Mb rV rW CY;replace p7:=eq_true p7;replace q7:=eq_true q7;have QE:=A_ (show Kd.R bl 110 w19 w.heap.size (fun _=>True) (.slice (some ⟨fR,0,none⟩) bA.length Ht) bA from(oR bc));obtain⟨amq,Th,SX,Ma,TI⟩:=Kd.zZ QE.out gb (aC:Int) (oD) (by have h_:(aC:Int)<((bA.length:Int):Int):=oD;first|exact h_|(have e_:=(Kd.ct bc.out).1;omega)|simpa using h_);obtain rfl:=k110_openM SX;have J4:=Kd.Kr QE.out (aC:Int) (oD) (by have h_:(aC:Int)<((bA.length:Int):Int):=oD;first|exact h_|(have e_:=(Kd.ct bc.out).1;omega)|simpa using h_) (seg:=[.int .i64 sq]) (j:=3) Th Ma (show 4≤4 from by decide) (x':=(⟨(au bA aC).f0,(au bA aC).f1,(au bA aC).f2,sq⟩:ar)) (s6 _ _ _ (⟨(au bA aC).f0,(au bA aC).f1,(au bA aC).f2,sq⟩:ar)) (fun _ hk=>hk);have ae3:=Ma 3 _ rfl;(try simp only[show(bl).sz=4 from rfl,Nat.mul_one,Nat.add_zero]at ae3);have ad8:=TI 3;(try simp only[show(bl).sz=4 from rfl,Nat.mul_one,Nat.add_zero]at ad8);clear Th Ma TI SX)|((with_reducible refine AL (t:=3) (p:=17) rfl ?_);refine Br (t:=3) (p:=17) (v:= ?asP) (w1:=(w19.setCell ⟨fR,(aC:Int).toNat*4+3,none⟩ (.int .i64 sq))) ?hg ?ho ?hn ?hr ?_;(case ho=>rfl);(case hg=>rfl);(case hn=>rfl);(case hr=>first|(go_simp;done)|(go_simp;rfl));intro wX hw;have hg:w19.grownBy wX (some fR):=(by rw[hw];exact J4.2);have mJ:Kd.R bl 110 wX w.heap.size (fun _=>True) (.slice (some ⟨fR,0,none⟩) bA.length Ht) iJ:=(by rw[hw,Q8.out];exact J4.1);clear J4;have ah:=A_ (mJ);have ai:=A_ (bQ.grown (eL bO) hg (bQ.wC bO.out bc.out (by decide)));have ay:=A_ ((by rw[hw];exact nZ (HB.out) (Nat.le_trans HL.out GG.out):Below w0.heap.size w0 wX));have aG:=A_ (KeepBut.trans (fS HK) (KeepBut.Bc hg g) (Kd.GW bc.out));clear bc;clear bO;clear HB;clear HK;have bc:=ah;have bO:=ai;have HB:=ay;have HK:=aG;clear ah ai ay aG;clear hg hw mJ)|((with_reducible refine bT (f:=49) rfl ?_);refine gL (some 19) Tryz.func49 #[.pointer (some ⟨g,0,none⟩),.int .i64 5] ?_;(with_reducible refine(tx.calls g bw zu zv 5 false FB FC w0 _ ?bG ?bH A8.out).mono ?_);(case bG=>exact eL bO);(case bH=>exact gB HB);rintro e w22 ⟨rfl,hi,hb,hk⟩;refine⟨_,rfl,?_⟩;have ah:=A_ (Kd.bN (Kd.tS (bQ.apart (show bQ w0 _ g bw zu zv from eL bO) (oR bc) (by decide)) hk (fun _ h=>h.2)) (fun _ h=>h.1));have ai:=A_ (KeepBut.trans (fS HK) hk (.inl rfl));have ay:=A_ (hb);have aG:=A_ (hi);clear bc;clear HK;clear HB;clear bO;have bc:=ah;have HK:=ai;have HB:=ay;have bO:=aG;clear ah ai ay aG;(try clear hb);(try clear hb2);(try clear hk);(try clear hi)))
      go_roundg k1
      case measure=>have:=dh.out;omega
      case rel=>exact⟨(iJ),(wrap64 (aC+1)),(FB),(FC),eS,H',⟨by have:=dh.out;omega⟩,⟨oR bc⟩,⟨eL bO⟩,⟨fS HK⟩,⟨gB HB⟩⟩
    ·rw[if_neg c6]at H;exact absurd H (by simp)
   ·rw[if_neg c4]at H;have kj:decide (aC<(bA.length:Int))=false:=decide_eq_false c4;clear c4;replace H:=Option.bind_eq_some_iff.mp H;obtain⟨⟨BC,Fz,FA⟩,BZ,H⟩:=H
    (try dsimp only at H)
    have A23:=A_ BZ;clear BZ;obtain⟨Pq,EE⟩:∃y_:List Int,y_=(([11,11,11,BC]:List Int)):=⟨_,rfl⟩;replace H:((uY.f bw Fz FA Pq).bind fun rD=>(if 0≤rD.1 then(if rD.1≤(bA.length:Int)then(some ((bA.take (rD.1:Int).toNat),rD.2.1,rD.2.2))else(none))else(none)))=some (r1,r2,r3):=by first|(rw[EE];with_reducible exact H)|(have aI:=(Option.bind_some _ _).symm.trans H;rw[EE];with_reducible exact aI)|(have aI:=(Option.bind_some _ _).symm.trans H;with_reducible exact aI)|with_reducible exact H|(rw[EE];exact H)|exact H
    have Q6:=A_ EE;clear EE;replace H:=Option.bind_eq_some_iff.mp H;obtain⟨⟨tB,Ws,Wt⟩,A240,H⟩:=H
    (try dsimp only at H)
    have Gy:=A_ A240;clear A240;by_cases rH:0≤tB
    ·rw[if_pos rH]at H;have al5:=eq_true rH;have al6:decide (0≤tB)=true:=decide_eq_true rH;clear rH;by_cases kF:tB≤(bA.length:Int)
     ·rw[if_pos kF]at H;have RT:=eq_true kF;have al7:decide (tB≤(bA.length:Int))=true:=decide_eq_true kF;clear kF;obtain⟨XO,EF⟩:∃y_:List (ar),y_=(bA.take (tB:Int).toNat):=⟨_,rfl⟩;replace H:(some (XO,Ws,Wt))=some (r1,r2,r3):=by first|(rw[EF];with_reducible exact H)|(have aI:=(Option.bind_some _ _).symm.trans H;rw[EF];with_reducible exact aI)|(have aI:=(Option.bind_some _ _).symm.trans H;with_reducible exact aI)|with_reducible exact H|(rw[EF];exact H)|exact H
      have Q7:=A_ EF;clear EF;simp only[Option.some.injEq,Prod.mk.injEq]at H;obtain⟨rfl,rfl,rfl⟩:=H;obtain⟨jW,co27,LC⟩:=Kd.dp bc.out;subst LC
      go_wp2_with (first|((with_reducible refine bT (f:=26) rfl ?_);refine gL (some 27) Tryz.func26 #[.pointer (some ⟨g,0,none⟩),.int .i64 12] ?_;(with_reducible refine(eW.calls g bw l7 l8 12 BC Fz FA w0 _ ?bG ?bH A23.out).mono ?_);(case bG=>exact eL bO);(case bH=>exact gB HB);rintro e F3 ⟨rfl,hi,hb,hk⟩;refine⟨_,rfl,?_⟩;have ah:=A_ (Kd.bN (Kd.tS (bQ.apart (show bQ w0 _ g bw l7 l8 from eL bO) (oR bc) (by decide)) hk (fun _ h=>h.2)) (fun _ h=>h.1));have ai:=A_ (KeepBut.trans (fS HK) hk (.inl rfl));have ay:=A_ (hb);have aG:=A_ (hi);clear bc;clear HK;clear HB;clear bO;have bc:=ah;have HK:=ai;have HB:=ay;have bO:=aG;clear ah ai ay aG;(try clear hb);(try clear hb2);(try clear hk);(try clear hi))|((with_reducible refine gate_dst (N:=28) rfl ?_);refine Kd.iB (Kd.int .i64) _ 3 ?hg (N:=28) ?hd (xs:=([11,11,11,BC]:List Int)) (inner:=[.int .i64 11,.int .i64 11,.int .i64 11,.int .i64 BC]) (ok:=fun _=>True) (cU:=fun _=>True) ?hr ?hp (fun _ hk=>hk) trivial (Below.refl _ _) (Nat.le_refl _) (by simp) ?_;(case hd=>rfl);(case hg=>rfl);(case hr=>first|(go_simp;done)|(go_simp;rfl));(case hp=>exact(bf.one (show Kd.M (Kd.int .i64) _ _ _ 11 [.int .i64 11]from rfl) (bf.one (show Kd.M (Kd.int .i64) _ _ _ 11 [.int .i64 11]from rfl) (bf.one (show Kd.M (Kd.int .i64) _ _ _ 11 [.int .i64 11]from rfl) (bf.one (show Kd.M (Kd.int .i64) _ _ _ BC [.int .i64 BC]from rfl) (bf.none _ _))))));intro asD WR qz hb cT dx;clear cT dx;(first|rw[←Q6.out]at qz|(simp only[Int.reduceToNat]at qz;rw[←Q6.out]at qz));have ah:=A_ (Kd.bh (oR bc) hb);have ai:=A_ (Kd.dr qz (keep_size (w:=w) (g:=g) (row:=none) (by repeat(first|(with_reducible first|exact HK.out|apply KeepBut.wF|apply yy|apply yx|apply wu)|exact HK.out))));have ay:=A_ (bQ.below (eL bO) hb);have aG:=A_ (KeepBut.trans (fS HK) (KeepBut.wB hb g none) (.inl rfl));have bD:=A_ (bz (gB HB) hb);clear bc;clear bO;clear HK;clear HB;have bc:=ah;have xk:=ai;have bO:=ay;have HK:=aG;have HB:=bD;clear ah ai ay aG bD;clear hb qz;obtain⟨JK,Ld,LD⟩:=Kd.dp xk.out;subst LD)|((with_reducible refine bT (f:=95) rfl ?_);refine gL (some 29) Tryz.func95 #[.pointer (some ⟨g,0,none⟩),.slice JK Pq.length Ld] ?_;(with_reducible refine(uY.calls g bw Fz FA _ _ Pq tB Ws Wt w0 _ ?bG ?bH ?iF ?iG ?mS Gy.out).mono ?_);(case bG=>exact eL bO);(case bH=>exact gB HB);(case iF=>repeat(first|exact(Kd.ct xk.out).2.2|(with_reducible refine Kd.gP ?_ _)|(with_reducible refine Kd.gX ?_ _)|(with_reducible refine Kd.gW ?_)));(case iG=>exact(Kd.ct xk.out).2.1);(case mS=>exact ac2 (bQ.wC bO.out xk.out (by decide)));rintro e F5 ⟨rfl,hi,hb,hk⟩;refine⟨_,rfl,?_⟩;have ah:=A_ (Kd.bN (Kd.tS (bQ.apart (show bQ w0 _ g bw Fz FA from eL bO) (oR bc) (by decide)) hk (fun _ h=>h.2)) (fun _ h=>h.1));have ai:=A_ (Kd.bN (Kd.tS (bQ.apart (show bQ w0 _ g bw Fz FA from eL bO) (oR xk) (by decide)) hk (fun _ h=>h.2)) (fun _ h=>h.1));have ay:=A_ (KeepBut.trans (fS HK) hk (.inl rfl));have aG:=A_ (hb);have bD:=A_ (hi);clear bc;clear xk;clear HK;clear HB;clear bO;have bc:=ah;have xk:=ai;have HK:=ay;have HB:=aG;have bO:=bD;clear ah ai ay aG bD;(try clear hb);(try clear hb2);(try clear hk);(try clear hi);have Nz:(tB:Int)≤((bA.length:Int):Int):=oD;obtain⟨aqU,hi033,_,aeT,_⟩:=info_parts info110;have adw:=Sa (P:=Tryz.prog) 24 110 .i64 Tryz.underlying24 hi033 jW bA.length co27 tB (oD) Nz (Kd.ct bc.out).2.1;have Ir:=Kd.aaR (m:=(tB:Int).toNat) bc.out (by omega);have UB:XO.length=(tB:Int).toNat:=(by rw[Q7.out,List.length_take];omega);rw[←Q7.out]at Ir;rw[←UB]at Ir adw;clear UB hi033 aeT bc;have Zq:=A_ Ir;clear Ir;replace Nz:=eq_true Nz))
      go_ret;exact⟨_,eR,oR Zq,eL bO,gB HB,fS HK⟩
     ·rw[if_neg kF]at H;exact absurd H (by simp)
    ·rw[if_neg rH]at H;exact absurd H (by simp)
def impl_copyPlan.f (l0:List (ar)):Option ((List (ar))):=(some (([]:List (ar)):List (ar))).bind fun sH=>(if sH.length+l0.length<4398046511104 then(some (sH++l0))else(none))
theorem impl_copyPlan.calls (A0:Option Addr) (c0:Nat) (l0:List (ar)) (r:List (ar)) (w:World) (cd:Kd.C bl w A0 l0.length l0) (hc0:l0.length≤c0) (h:impl_copyPlan.f l0=some r):
  Calls Tryz.prog 96 #[.slice A0 l0.length c0] w fun e w'=>∃v0_:Value,e= .returned (v0_)∧Kd.R bl 110 w' w.heap.size (fun _=>True) v0_ r∧Below w.heap.size w w':=by
 have dI:=A_ cd;have nh:=A_ hc0;clear cd hc0;have HB:=A_ (Below.refl w.heap.size w);have H:((some (([]:List (ar)):List (ar))).bind fun sH=>(if sH.length+l0.length<4398046511104 then(some (sH++l0))else(none)))=some r:=h;clear h;obtain⟨sH,EK⟩:∃y_:List (ar),y_=(([]:List (ar))):=⟨_,rfl⟩;replace H:(if sH.length+l0.length<4398046511104 then(some (sH++l0))else(none))=some r:=by first|(rw[EK];with_reducible exact H)|(have aI:=(Option.bind_some _ _).symm.trans H;rw[EK];with_reducible exact aI)|(have aI:=(Option.bind_some _ _).symm.trans H;with_reducible exact aI)|with_reducible exact H|(rw[EK];exact H)|exact H
 have Q_:=A_ EK;clear EK;by_cases c2:sH.length+l0.length<4398046511104
 ·rw[if_pos c2]at H;have tQ:=A_ c2;clear c2;obtain⟨akX,EL⟩:∃y_:List (ar),y_=(sH++l0):=⟨_,rfl⟩;replace H:(some akX)=some r:=by first|(rw[EL];with_reducible exact H)|(have aI:=(Option.bind_some _ _).symm.trans H;rw[EL];with_reducible exact aI)|(have aI:=(Option.bind_some _ _).symm.trans H;with_reducible exact aI)|with_reducible exact H|(rw[EL];exact H)|exact H
  have aav:=A_ EL;clear EL;obtain rfl:=Option.some.inj H;go_enter Tryz.func96,Tryz.ntmps96
  go_wp2_with (first|((with_reducible refine gate_dst (N:=3) rfl ?_);refine Kd.iB bl _ 110 ?hg (N:=3) ?hd (xs:=([]:List (ar))) (inner:=[]) (ok:=fun _=>True) (cU:=fun _=>True) ?hr ?hp (fun _ hk=>hk) trivial (Below.refl _ _) (Nat.le_refl _) (by simp) ?_;(case hd=>rfl);(case hg=>rfl);(case hr=>first|(go_simp;done)|(go_simp;rfl));(case hp=>exact(bf.none _ _));intro aka w3 gi hb cT dx;clear cT dx;(first|rw[←Q_.out]at gi|(simp only[Int.reduceToNat]at gi;rw[←Q_.out]at gi));have ah:=A_ (Kd.dr gi (bn (oB HB)));have ai:=A_ (bz (oB HB) hb);clear HB;have Ql:=ah;have HB:=ai;clear ah ai;clear hb gi)|((with_reducible refine jz (b:= .append) (xs:= #[.tmp 3,.tmp 4]) rfl ?_);at_builtin;refine Kd.xq bl (w0:=w) w.heap.size rfl (.tmp 3) (.tmp 4) 24 110 (.agg #[(.int .i64 0),(.int .i64 0),(.int .i64 0),(.int .i64 0)]) 32 rfl Tryz.underlying24 info110 rfl (by decide) (by omega) aka sH l0 _ _ _ (fun _=>True) (fun _=>False) rfl rfl ?aO ?aR (fun _ _ h=>h) (fun _ h=>h.elim) ?aF ?aB ?aS ?aL ?_;(case aR=>exact eM dI.out);(case aB=>exact(oB HB));(case aF=>exact(fun _ _=>trivial));(case aO=>exact(oR Ql));(case aS=>exact(bn (oB HB)));(case aL=>have:=tQ.out;omega);intro asG w5 ho hb hg hat;rw[←aav.out]at ho;have ah:=A_ (hb);have ai:=A_ (ho);clear HB;clear Ql;have HB:=ah;have Zs:=ai;clear ah ai;clear ho hb hg hat))
  go_ret;exact⟨_,eR,oR Zs,oB HB⟩
 ·rw[if_neg c2]at H;exact absurd H (by simp)
def kI.f (ak:List (ar)) (ax:Int) (aq:List Int):Option ((List (ar))×Int×List Int):=(impl_copyPlan.f ak).bind fun ou=>((some (([]:List Int):List Int)).bind fun pX=>(if pX.length+aq.length<17592186044416 then(some (ou,ax,(pX++aq)))else(none)))
def kI.T1:Bool×List (List Nat×List Nat):=(true,[([],[]),([0],[0]),([1],[1]),([],[]),([3],[3]),([],[]),([],[]),([6],[6]),([5,7,2],[5,7]),([2,4,8],[2,4,8]),([9,8,0,1,2,3,4,5,6,7,8,9],[9])])
def kI.B1:List Nat:=[0,1,3,0,8,0,0,64,231,511,1023]
theorem kI.FN:rtab .any (opsOf Tryz.f53 1)=kI.T1:=by kernel_rfl
theorem kI.Ct:eN kI.T1.2 kI.B1=true:=by kernel_rfl
theorem kI.calls (aU:Option Addr) (c0_0:Nat) (ak:List (ar)) (ax:Int) (a6:Option Addr) (aW:Nat) (aq:List Int) (r1:List (ar)) (r2:Int) (r3:List Int) (w:World) (cp:Kd.C bl w aU ak.length ak) (cx:ak.length≤c0_0) (cv:Kd.C (Kd.int .i64) w a6 aq.length aq) (cA:aq.length≤aW) (h:kI.f ak ax aq=some (r1,r2,r3)):
  Calls Tryz.prog 53 #[.agg #[.slice aU ak.length c0_0,.int .i64 ax,.slice a6 aq.length aW]] w fun e w'=>∃v0_ cB:Value,e= .returned (.agg #[v0_,.int .i64 r2,cB])∧Kd.R bl 110 w' w.heap.size (fun _=>True) v0_ r1∧Kd.R (Kd.int .i64) 3 w' w.heap.size (fun _=>True) cB r3∧Below w.heap.size w w':=by
 have lR:=Tryz.underlying27;have ix:=A_ cp;have iK:=A_ cx;clear cp cx;have iY:=A_ cv;have nM:=A_ cA;clear cv cA;have HB:=A_ (Below.refl w.heap.size w);have H:((impl_copyPlan.f ak).bind fun ou=>((some (([]:List Int):List Int)).bind fun pX=>(if pX.length+aq.length<17592186044416 then(some (ou,ax,(pX++aq)))else(none))))=some (r1,r2,r3):=h;clear h;replace H:=Option.bind_eq_some_iff.mp H;obtain⟨ou,fh,H⟩:=H
 (try dsimp only at H)
 have A2:=A_ fh;clear fh;obtain⟨pX,EM⟩:∃y_:List Int,y_=(([]:List Int)):=⟨_,rfl⟩;replace H:(if pX.length+aq.length<17592186044416 then(some (ou,ax,(pX++aq)))else(none))=some (r1,r2,r3):=by first|(rw[EM];with_reducible exact H)|(have aI:=(Option.bind_some _ _).symm.trans H;rw[EM];with_reducible exact aI)|(have aI:=(Option.bind_some _ _).symm.trans H;with_reducible exact aI)|with_reducible exact H|(rw[EM];exact H)|exact H
 have GV:=A_ EM;clear EM;by_cases c3:pX.length+aq.length<17592186044416
 ·rw[if_pos c3]at H;have ZM:=A_ c3;clear c3;obtain⟨JG,EN⟩:∃y_:List Int,y_=(pX++aq):=⟨_,rfl⟩;replace H:(some (ou,ax,JG))=some (r1,r2,r3):=by first|(rw[EN];with_reducible exact H)|(have aI:=(Option.bind_some _ _).symm.trans H;rw[EN];with_reducible exact aI)|(have aI:=(Option.bind_some _ _).symm.trans H;with_reducible exact aI)|with_reducible exact H|(rw[EN];exact H)|exact H
  have aaw:=A_ EN;clear EN;simp only[Option.some.injEq,Prod.mk.injEq]at H;obtain⟨rfl,rfl,rfl⟩:=H;go_enter Tryz.func53,Tryz.ntmps53
  try go_wp2_with (first|((with_reducible refine gate_dst (N:=1) rfl ?_);refine bX (N:=1) (cs:= #[.slice aU ak.length c0_0,.int .i64 ax,.slice a6 aq.length aW]) (t:=27) ?_;intro pB hg w4 cj hb;have ah:=A_ (bz (oB HB) hb);have ai:=A_ (cj);have ay:=A_ ((by rw[hg];exact(bn (oB HB)):w.heap.size≤pB));have aG:=A_ ((by rw[hg];exact(bn (oB HB)):w.heap.size≤pB));clear HB;have HB:=ah;have eP:=ai;have alz:=ay;have aln:=aG;clear ah ai ay aG;clear hb cj hg)|((with_reducible refine gate_dst (N:=2) rfl ?_);refine bX (N:=2) (cs:= #[.slice none 0 0,.int .i64 0,.slice none 0 0]) (t:=27) ?_;intro rO hg w5 cj hb;have ah:=A_ (bb eP hb);have ai:=A_ (bz (oB HB) hb);have ay:=A_ (cj);have aG:=A_ ((by rw[hg];exact(bn (oB HB)):w.heap.size≤rO));have bD:=A_ ((by rw[hg];exact(bn (oB HB)):w.heap.size≤rO));have n5_:=A_ (nL eP hg);have dm:=A_ (nG eP hg);clear eP;clear HB;have eP:=ah;have HB:=ai;have gD:=ay;have alA:=aG;have alo:=bD;have zX:=n5_;have NB725_724:=dm;clear ah ai ay aG bD n5_ dm;clear hb cj hg))
  have ah:=A_ (bF eP.out);have ai:=A_ (bF gD.out);have ay:=A_ (fC HB.out);clear eP;clear gD;clear HB;have eP:=ah;have gD:=ai;have HB:=ay;clear ah ai ay;refine pJ (n:=11) (S:=fun w'=>w'.cell? ⟨pB,0,none⟩=some (.slice aU ak.length c0_0)∧w'.cell? ⟨pB,1,none⟩=some (.int .i64 ax)∧w'.cell? ⟨pB,2,none⟩=some (.slice a6 aq.length aW)) (ds:=[]) #[false,false,false,false,false,false,false,false,false,false,false] (by kernel_rfl) rfl rfl ⟨cz eP 0,cz eP 1,cz eP 2⟩ (fun hHeld=> ?_);refine su kI.FN kI.Ct (fun ag HW_=> ?_);generalize w5.drew=w6 at eP gD HB hHeld ⊢;refine pA 0 (some 3) ag.out ?_;refine pA 3 (some 6) ag.out ?_;refine pA 6 (some 9) ag.out ?_;refine pT 1 (some 4) ag.out HW_.out hHeld ?_;refine pT 4 (some 7) ag.out HW_.out hHeld ?_;refine pT 7 (some 10) ag.out HW_.out hHeld ?_;refine afD (σ:=Value×Value) 3 #[true,true,true,true,true,true,true,true,false,false,false] (fun s_=>[(5,s_.1),(8,s_.2)]) (fun s_ w'=>(w'.cell? ⟨pB,0,none⟩=some (.slice aU ak.length c0_0)∧w'.cell? ⟨pB,1,none⟩=some (.int .i64 ax)∧w'.cell? ⟨pB,2,none⟩=some (.slice a6 aq.length aW))∧(Kd.R bl 110 w' w.heap.size (fun _=>True) s_.1 ou)∧(Kd.R (Kd.int .i64) 3 w' w.heap.size (fun _=>True) s_.2 pX)∧(w'.heap[pB]? =some (.cells #[.slice aU ak.length c0_0,.int .i64 ax,.slice a6 aq.length aW] 27 (0,0)))∧(w'.heap[rO]? =some (.cells #[.slice none 0 0,.int .i64 0,.slice none 0 0] 27 (0,0)))∧(Below w.heap.size w w')) ?_ ?_;rotate_left
  ·intro SR;refine WI (i:=2) (j:=5) (Ni:=some 5) (Nj:=some 8) #[true,true,true,true,true,false,true,true,false,false,false] #[true,true,false,true,true,true,true,true,false,false,false] rfl rfl rfl rfl (WJ ag.out (by kernel_rfl)) (by decide) (by decide) (fun K hK=> ?_) (fun K hK=> ?_)
   ·skip
    refine gH Tryz.func96 (by kernel_rfl) rfl #[.slice aU ak.length c0_0] (by rfl) rfl rfl (by(try simp only[List.map_toArray,List.map_cons,List.map_nil]);first|done|rfl|(simp only[List.length_drop,List.length_take];rfl)) ?_
    with_reducible refine(impl_copyPlan.calls _ _ ak ou _ ?bG ?bH A2.out).mono ?_
    (case bG=>exact eM ix.out)
    (case bH=>exact iK.out)
    rintro e w7 ⟨FY,rfl,ho0,hb⟩;refine⟨_,rfl,?_⟩;have ah:=A_ (Kd.dr ho0 (bn (oB HB)));have ai:=A_ (bb eP hb);have ay:=A_ (bb gD hb);have aG:=A_ (bz (oB HB) hb);clear eP;clear gD;clear HB;have HO728:=ah;have eP:=ai;have gD:=ay;have HB:=aG;clear ah ai ay aG
    (try clear hb)
    (try clear hb2)
    (try clear hk)
    (try clear hi)
    (try clear ho0)
    refine hK.out _ _ ⟨cz eP 0,cz eP 1,cz eP 2⟩ (fun hHeld=> ?_);clear hK K;refine kM (a':= ?_) ?_ ?_;rotate_left
    ·show Act.put _ (some 5) _=_;simp only[Act.put,List.setIfInBounds_toArray,List.set_cons_zero,List.set_cons_succ,eJ,gj];rfl
    refine one_ (i:=5) (N:=some 8) #[true,true,true,true,true,true,true,true,false,false,false] rfl rfl (ji ag.out (by kernel_rfl)) (by decide) (fun K hK=> ?_);refine Kd.vK (Kd.int .i64) _ 3 ?hg (N:=8) ?hd (xs:=([]:List Int)) (inner:=[]) (ok:=fun _=>True) (cU:=fun _=>True) ?hr ?hp (fun _ hk=>hk) trivial (Below.refl _ _) (Nat.le_refl _) (by simp) ?_;(case hd=>rfl);(case hg=>rfl);(case hr=>first|(go_simp;done)|(go_simp;rfl));(case hp=>exact(bf.none _ _));intro BI w8 Dm hb cT dx;clear cT dx
    (first|rw[←GV.out]at Dm|(simp only[Int.reduceToNat]at Dm;rw[←GV.out]at Dm))
    have ah:=A_ (Kd.bh (oR HO728) hb);have ai:=A_ (Kd.dr Dm (bn (oB HB)));have ay:=A_ (bb eP hb);have aG:=A_ (bb gD hb);have bD:=A_ (bz (oB HB) hb);clear HO728;clear eP;clear gD;clear HB;have HO728:=ah;have HO731:=ai;have eP:=ay;have gD:=aG;have HB:=bD;clear ah ai ay aG bD;clear hb Dm;refine hK.out _ _ ⟨cz eP 0,cz eP 1,cz eP 2⟩ (fun hHeld=> ?_);clear hK K;refine kM (a':= ?_) ?_ ?_;rotate_left
    ·show Act.put _ (some 8) _=_;simp only[Act.put,List.setIfInBounds_toArray,List.set_cons_zero,List.set_cons_succ,eJ,gj];rfl
    exact kM (by simp only[Bg,Act.put,List.setIfInBounds_toArray,List.set_cons_zero,List.set_cons_succ]) (SR (FY,BI) _ ⟨hHeld,(oR HO728),(oR HO731),(oK eP),(oK gD),(oB HB)⟩)
   ·skip
    refine Kd.vK (Kd.int .i64) _ 3 ?hg (N:=8) ?hd (xs:=([]:List Int)) (inner:=[]) (ok:=fun _=>True) (cU:=fun _=>True) ?hr ?hp (fun _ hk=>hk) trivial (Below.refl _ _) (Nat.le_refl _) (by simp) ?_;(case hd=>rfl);(case hg=>rfl);(case hr=>first|(go_simp;done)|(go_simp;rfl));(case hp=>exact(bf.none _ _));intro BI w7 Dl hb cT dx;clear cT dx
    (first|rw[←GV.out]at Dl|(simp only[Int.reduceToNat]at Dl;rw[←GV.out]at Dl))
    have ah:=A_ (Kd.dr Dl (bn (oB HB)));have ai:=A_ (bb eP hb);have ay:=A_ (bb gD hb);have aG:=A_ (bz (oB HB) hb);clear eP;clear gD;clear HB;have HO731:=ah;have eP:=ai;have gD:=ay;have HB:=aG;clear ah ai ay aG;clear hb Dl;refine hK.out _ _ ⟨cz eP 0,cz eP 1,cz eP 2⟩ (fun hHeld=> ?_);clear hK K;refine kM (a':= ?_) ?_ ?_;rotate_left
    ·show Act.put _ (some 8) _=_;simp only[Act.put,List.setIfInBounds_toArray,List.set_cons_zero,List.set_cons_succ,eJ,gj];rfl
    refine one_ (i:=2) (N:=some 5) #[true,true,true,true,true,true,true,true,false,false,false] rfl rfl (ji ag.out (by kernel_rfl)) (by decide) (fun K hK=> ?_);refine gH Tryz.func96 (by kernel_rfl) rfl #[.slice aU ak.length c0_0] (by rfl) rfl rfl (by(try simp only[List.map_toArray,List.map_cons,List.map_nil]);first|done|rfl|(simp only[List.length_drop,List.length_take];rfl)) ?_
    with_reducible refine(impl_copyPlan.calls _ _ ak ou _ ?bG ?bH A2.out).mono ?_
    (case bG=>exact eM ix.out)
    (case bH=>exact iK.out)
    rintro e w9 ⟨FY,rfl,ho0,hb⟩;refine⟨_,rfl,?_⟩;have ah:=A_ (Kd.bh (oR HO731) hb);have ai:=A_ (Kd.dr ho0 (bn (oB HB)));have ay:=A_ (bb eP hb);have aG:=A_ (bb gD hb);have bD:=A_ (bz (oB HB) hb);clear HO731;clear eP;clear gD;clear HB;have HO731:=ah;have HO728:=ai;have eP:=ay;have gD:=aG;have HB:=bD;clear ah ai ay aG bD
    (try clear hb)
    (try clear hb2)
    (try clear hk)
    (try clear hi)
    (try clear ho0)
    refine hK.out _ _ ⟨cz eP 0,cz eP 1,cz eP 2⟩ (fun hHeld=> ?_);clear hK K;refine kM (a':= ?_) ?_ ?_;rotate_left
    ·show Act.put _ (some 5) _=_;simp only[Act.put,List.setIfInBounds_toArray,List.set_cons_zero,List.set_cons_succ,eJ,gj];rfl
    exact kM (by simp only[Bg,Act.put,List.setIfInBounds_toArray,List.set_cons_zero,List.set_cons_succ]) (SR (FY,BI) _ ⟨hHeld,(oR HO728),(oR HO731),(oK eP),(oK gD),(oB HB)⟩)
  rintro⟨FY,BI⟩ lJ ⟨hS_,bU,SL,SM,SN,SP⟩;have ah:aj (Kd.R bl 110 lJ w.heap.size (fun _=>True) FY ou):=⟨bU⟩;have ai:aj (Kd.R (Kd.int .i64) 3 lJ w.heap.size (fun _=>True) BI pX):=⟨SL⟩;have ay:aj (lJ.heap[pB]? =some (.cells #[.slice aU ak.length c0_0,.int .i64 ax,.slice a6 aq.length aW] 27 (0,0))):=⟨SM⟩;have aG:aj (lJ.heap[rO]? =some (.cells #[.slice none 0 0,.int .i64 0,.slice none 0 0] 27 (0,0))):=⟨SN⟩;have bD:aj (Below w.heap.size w lJ):=⟨SP⟩;clear eP;clear gD;clear HB;clear bU SL SM SN SP;have HO728:=ah;have HO731:=ai;have eP:=ay;have gD:=aG;have HB:=bD;clear ah ai ay aG bD;have hHeld:lJ.cell? ⟨pB,0,none⟩=some (.slice aU ak.length c0_0)∧lJ.cell? ⟨pB,1,none⟩=some (.int .i64 ax)∧lJ.cell? ⟨pB,2,none⟩=some (.slice a6 aq.length aW):=hS_;refine kM (a':= ?_) ?_ ?_;rotate_left
  ·simp only[Bg,Act.put,List.setIfInBounds_toArray,List.set_cons_zero,List.set_cons_succ];rfl
  refine one_ (i:=8) (N:=some 11) #[true,true,true,true,true,true,true,true,true,false,false] rfl rfl (ji ag.out (by kernel_rfl)) (by decide) (fun K hK=> ?_);refine Kd.Rf (Kd.int .i64) (w0:=w) w.heap.size (by rfl) (.tmp 8) (.tmp 10) 25 3 (.int .i64 0) 8 rfl Tryz.underlying25 info3 rfl (by decide) (by omega) BI pX aq _ _ _ (fun _=>True) (fun _=>False) rfl rfl ?aO ?aR (fun _ _ h=>h) (fun _ h=>h.elim) ?aF ?aB ?aS ?aL ?_
  (case aR=>exact eM iY.out)
  (case aB=>exact(oB HB))
  (case aF=>exact(fun _ _=>trivial))
  (case aO=>exact(oR HO731))
  (case aS=>exact(bn (oB HB)))
  (case aL=>have:=ZM.out;omega)
  intro asH w11 ho hb hg hat;rw[←aaw.out]at ho;have ah:=A_ (bg eP hg (Kd.nr HO731.out eP.out (by decide)));have ai:=A_ (bg gD hg (Kd.nr HO731.out gD.out (by decide)));have ay:=A_ (Kd.iM (oR HO728) (Kd.iN (oR HO731)) (by decide) hg);have aG:=A_ (hb);have bD:=A_ (ho);clear eP;clear gD;clear HO728;clear HB;clear HO731;have eP:=ah;have gD:=ai;have HO728:=ay;have HB:=aG;have Qm:=bD;clear ah ai ay aG bD;clear ho hb hg hat;obtain⟨zF,rJ,uk⟩:=Kd.dp Qm.out
  (first|subst uk|(injection uk with mG rK mH;have rL:=mG.symm;have rM:=mH.symm;clear mG rK mH;subst rL;subst rM))
  obtain⟨ke,co13,AH⟩:=Kd.dp HO728.out
  (first|subst AH|(injection AH with mG rK mH;have rL:=mG.symm;have rM:=mH.symm;clear mG rK mH;subst rL;subst rM))
  refine hK.out _ _ ⟨cz eP 0,cz eP 1,cz eP 2⟩ (fun hHeld=> ?_);clear hK K;refine kM (a':= ?_) ?_ ?_;rotate_left
  ·show Act.put _ (some 11) _=_;simp only[Act.put,List.setIfInBounds_toArray,List.set_cons_zero,List.set_cons_succ,eJ,gj];rfl
  refine pA 9 (some 12) ag.out ?_;refine one_ (i:=10) (N:=none) #[true,true,true,true,true,true,true,true,true,true,true] rfl rfl (ji ag.out (by kernel_rfl)) (by decide) (fun K hK=> ?_);have aqx:=cz gD 0;have aoz:=aJ gD.out 0;have aqt:=zX.out;have aqe:=NB725_724.out;have aqy:=cz gD 1;have aoA:=aJ gD.out 1;have aqu:=zX.out;have aqf:=NB725_724.out;have aqz:=cz gD 2;have aoB:=aJ gD.out 2;have aqv:=zX.out;have aqg:=NB725_724.out;refine Bp (w1:= ?_) (by rfl) rfl ?_ ?_;rotate_left
  ·go_simp
   rfl
  refine hK.out _ _ ⟨(cF zX.out hHeld.1),(cF zX.out hHeld.2.1),(cF zX.out hHeld.2.2)⟩ (fun hHeld=> ?_);clear hK K;refine done_ (done_of ag.out (by kernel_rfl)) ?_
  try go_wp2
  refine bodyPost_ret (results_cell_row rfl _ _ rO 27 #[.slice ke ou.length co13,.int .i64 ax,.slice zF JG.length rJ] (0,0) _ rfl (by(with_reducible repeat(first|refine bP ?_ _|refine bF ?_|refine bC ?_ _));refine di (cs:= #[.slice ke ou.length co13,.int .i64 ax,.slice none 0 0]) ?_ 2 _ rfl;(with_reducible repeat(first|refine bP ?_ _|refine bF ?_|refine bC ?_ _));refine di (cs:= #[.slice ke ou.length co13,.int .i64 0,.slice none 0 0]) ?_ 1 _ rfl;(with_reducible repeat(first|refine bP ?_ _|refine bF ?_|refine bC ?_ _));refine di (cs:= #[.slice none 0 0,.int .i64 0,.slice none 0 0]) ?_ 0 _ rfl;(with_reducible repeat(first|refine bP ?_ _|refine bF ?_|refine bC ?_ _));exact gD.out) Tryz.underlying27 rfl (by kernel_rfl)) rfl ?_;exact⟨_,_,eR,by(with_reducible repeat(first|apply Kd.bY|apply Kd.R_drewN|apply Kd.R_drew));exact Kd.bN (Kd.aM (p:=⟨rO,2,none⟩) (Kd.aM (p:=⟨rO,1,none⟩) (Kd.aM (p:=⟨rO,0,none⟩) (Kd.fN HO728.out gD.out (by decide)) (fun _ hk=>hk.2) (.slice ke ou.length co13)) (fun _ hk=>hk.2) (.int .i64 ax)) (fun _ hk=>hk.2) (.slice zF JG.length rJ)) (fun _ hk=>trivial),by(with_reducible repeat(first|apply Kd.bY|apply Kd.R_drewN|apply Kd.R_drew));exact Kd.bN (Kd.aM (p:=⟨rO,2,none⟩) (Kd.aM (p:=⟨rO,1,none⟩) (Kd.aM (p:=⟨rO,0,none⟩) (Kd.fN Qm.out gD.out (by decide)) (fun _ hk=>hk.2) (.slice ke ou.length co13)) (fun _ hk=>hk.2) (.int .i64 ax)) (fun _ hk=>hk.2) (.slice zF JG.length rJ)) (fun _ hk=>trivial),oB HB⟩
 ·rw[if_neg c3]at H;exact absurd H (by simp)
def oP.f (l0:List (S64)):Option ((List (S64))):=(some (([]:List (S64)):List (S64))).bind fun sI=>(if sI.length+l0.length<4398046511104 then(some (sI++l0))else(none))
theorem oP.calls (A0:Option Addr) (c0:Nat) (l0:List (S64)) (r:List (S64)) (w:World) (cd:Kd.C k64 w A0 l0.length l0) (hc0:l0.length≤c0) (h:oP.f l0=some r):
  Calls Tryz.prog 54 #[.slice A0 l0.length c0] w fun e w'=>∃v0_:Value,e= .returned (v0_)∧Kd.R k64 64 w' w.heap.size (fun _=>True) v0_ r∧Below w.heap.size w w':=by
 have dI:=A_ cd;have nh:=A_ hc0;clear cd hc0;have HB:=A_ (Below.refl w.heap.size w);have H:((some (([]:List (S64)):List (S64))).bind fun sI=>(if sI.length+l0.length<4398046511104 then(some (sI++l0))else(none)))=some r:=h;clear h;obtain⟨sI,EO⟩:∃y_:List (S64),y_=(([]:List (S64))):=⟨_,rfl⟩;replace H:(if sI.length+l0.length<4398046511104 then(some (sI++l0))else(none))=some r:=by first|(rw[EO];with_reducible exact H)|(have aI:=(Option.bind_some _ _).symm.trans H;rw[EO];with_reducible exact aI)|(have aI:=(Option.bind_some _ _).symm.trans H;with_reducible exact aI)|with_reducible exact H|(rw[EO];exact H)|exact H
 have Ra:=A_ EO;clear EO;by_cases c2:sI.length+l0.length<4398046511104
 ·rw[if_pos c2]at H;have tQ:=A_ c2;clear c2;obtain⟨akY,EP⟩:∃y_:List (S64),y_=(sI++l0):=⟨_,rfl⟩;replace H:(some akY)=some r:=by first|(rw[EP];with_reducible exact H)|(have aI:=(Option.bind_some _ _).symm.trans H;rw[EP];with_reducible exact aI)|(have aI:=(Option.bind_some _ _).symm.trans H;with_reducible exact aI)|with_reducible exact H|(rw[EP];exact H)|exact H
  have aax:=A_ EP;clear EP;obtain rfl:=Option.some.inj H;go_enter Tryz.func54,Tryz.ntmps54
  go_wp2_with (first|((with_reducible refine gate_dst (N:=3) rfl ?_);refine Kd.iB k64 _ 64 ?hg (N:=3) ?hd (xs:=([]:List (S64))) (inner:=[]) (ok:=fun _=>True) (cU:=fun _=>True) ?hr ?hp (fun _ hk=>hk) trivial (Below.refl _ _) (Nat.le_refl _) (by simp) ?_;(case hd=>rfl);(case hg=>rfl);(case hr=>first|(go_simp;done)|(go_simp;rfl));(case hp=>exact(bf.none _ _));intro akb w3 gi hb cT dx;clear cT dx;(first|rw[←Ra.out]at gi|(simp only[Int.reduceToNat]at gi;rw[←Ra.out]at gi));have ah:=A_ (Kd.dr gi (bn (oB HB)));have ai:=A_ (bz (oB HB) hb);clear HB;have Qn:=ah;have HB:=ai;clear ah ai;clear hb gi)|((with_reducible refine jz (b:= .append) (xs:= #[.tmp 3,.tmp 4]) rfl ?_);at_builtin;refine Kd.xq k64 (w0:=w) w.heap.size rfl (.tmp 3) (.tmp 4) 28 64 (.agg #[(.int .i64 0),(.int .i64 0),(.int .i64 0),(.int .i64 0)]) 32 rfl Tryz.underlying28 EU rfl (by decide) (by omega) akb sI l0 _ _ _ (fun _=>True) (fun _=>False) rfl rfl ?aO ?aR (fun _ _ h=>h) (fun _ h=>h.elim) ?aF ?aB ?aS ?aL ?_;(case aR=>exact eM dI.out);(case aB=>exact(oB HB));(case aF=>exact(fun _ _=>trivial));(case aO=>exact(oR Qn));(case aS=>exact(bn (oB HB)));(case aL=>have:=tQ.out;omega);intro asI w5 ho hb hg hat;rw[←aax.out]at ho;have ah:=A_ (hb);have ai:=A_ (ho);clear HB;clear Qn;have HB:=ah;have Zt:=ai;clear ah ai;clear ho hb hg hat))
  go_ret;exact⟨_,eR,oR Zt,oB HB⟩
 ·rw[if_neg c2]at H;exact absurd H (by simp)
def lz.f (a0:Int):Option (Bool):=(eK.f a0 (-10) 40).bind fun FE=>(some FE)
theorem lz.calls (a0:Int) (r:Bool) (w:World) (h:lz.f a0=some r):
  Calls Tryz.prog 57 #[.int .i64 a0] w fun e w'=>e= .returned (.bool r)∧cV w w':=by
 have H:((eK.f a0 (-10) 40).bind fun FE=>(some FE))=some r:=h;clear h;replace H:=Option.bind_eq_some_iff.mp H;obtain⟨FE,fh,H⟩:=H
 (try dsimp only at H)
 have A2:=A_ fh;clear fh;obtain rfl:=Option.some.inj H;go_enter Tryz.func57,Tryz.ntmps57
 go_wp2_with (first|((with_reducible refine bT (f:=58) rfl ?_);refine gL (some 4) Tryz.func58 #[.int .i64 a0,.int .i64 (-10),.int .i64 40] ?_;(with_reducible refine(eK.calls a0 (-10) 40 FE _ A2.out).mono ?_);rintro e w' ⟨rfl,⟨nd,rfl⟩⟩;refine⟨_,rfl,?_⟩))
 go_ret;exact⟨eS,by repeat(first|exact cV.refl _|apply cV.step)⟩
def iP.j0:Nat→Int→Int→Int→Bool→Option (Int)
 |0,_,_,_,_=>none
 |k+1,x0,x1,x2,x27=>if x27=true then(some 0)else(if x1=1 then((fP.f (wrap64 (Int.tdiv (mx (wrap64 ((wrap64 (3*x0))-x2)) 0) 2))).bind fun FJ=>(if FJ=true then(some (wrap64 (Int.tdiv (mx (wrap64 ((wrap64 (3*x0))-x2)) 0) 2)))else(some 0)))else(if x1=2 then((fP.f (wrap64 (Int.tdiv (mx (wrap64 ((wrap64 (3*x0))-x2)) 0) 4))).bind fun t766=>(if t766=true then(some (wrap64 (Int.tdiv (mx (wrap64 ((wrap64 (3*x0))-x2)) 0) 4)))else(some 0)))else(if x1=3 then((fP.f (wrap64 (2*x0))).bind fun Oh=>(if Oh=true then(some (wrap64 (2*x0)))else(some 0)))else(if x1=4 then((fP.f (wrap64 (Int.tdiv x0 2))).bind fun Oi=>(if Oi=true then(some (wrap64 (Int.tdiv x0 2)))else(some 0)))else((fP.f 0).bind fun Oj=>(if Oj=true then(some 0)else(some 0)))))))
def iP.f (k:Nat) (a0:Int) (a1:Int) (a2:Int):Option (Int):=(fP.f a0).bind fun FH=>(if FH=true then((eK.f a2 0 100000).bind fun FI=>(if FI=true then(if a2=0 then(iP.j0 k a0 a1 a2 false)else(if a1=3 then(iP.j0 k a0 a1 a2 true)else(iP.j0 k a0 a1 a2 (a1==4))))else(iP.j0 k a0 a1 a2 true)))else(iP.j0 k a0 a1 a2 true))
theorem iP.calls (k:Nat) (a0:Int) (a1:Int) (a2:Int) (r:Int) (w:World) (h:iP.f k a0 a1 a2=some r):
  Calls Tryz.prog 146 #[.int .i64 a0,.int .i64 a1,.int .i64 a2] w fun e w'=>e= .returned (.int .i64 r)∧Below w.heap.size w w':=by
 have HB:=A_ (Below.refl w.heap.size w);have H:((fP.f a0).bind fun FH=>(if FH=true then((eK.f a2 0 100000).bind fun FI=>(if FI=true then(if a2=0 then(iP.j0 k a0 a1 a2 false)else(if a1=3 then(iP.j0 k a0 a1 a2 true)else(iP.j0 k a0 a1 a2 (a1==4))))else(iP.j0 k a0 a1 a2 true)))else(iP.j0 k a0 a1 a2 true)))=some r:=h;clear h;have xg:=A_ H;clear H;go_enter Tryz.func146,Tryz.ntmps146
 go_upto_region 1 with (fail)
 go_cut [27] (fun v27 wc=>∃(kq:Nat) (Jy:Bool),v27= .bool Jy∧aj (iP.j0 kq a0 a1 a2 Jy=some r)∧aj (kq≤k)∧aj (Below w.heap.size w wc))
 case first=>
  have H:=xg.out;clear xg;replace H:=Option.bind_eq_some_iff.mp H;obtain⟨FH,k9,H⟩:=H
  (try dsimp only at H)
  have A5:=A_ k9;clear k9;by_cases c6:FH=true
  ·subst c6;rw[if_pos rfl]at H;replace H:=Option.bind_eq_some_iff.mp H;obtain⟨FI,mo,H⟩:=H
   (try dsimp only at H)
   have A7:=A_ mo;clear mo;by_cases c8:FI=true
   ·subst c8;rw[if_pos rfl]at H;by_cases c9:a2=0
    ·rw[if_pos c9]at H;have mF:(a2==0)=true:=beq_iff_eq.mpr c9;have sS:(a2 != 0)=false:=bne_eq_false_iff_eq.mpr c9;clear c9
     (first|rw[mF]|(simp only[eJ,gj];rw[mF])|skip)
     have H':=A_ H;clear H
     go_wp2_with (first|((with_reducible refine bT (f:=98) rfl ?_);refine gL (some 9) Tryz.func98 #[.int .i64 a0] ?_;(with_reducible refine(fP.calls a0 true _ A5.out).mono ?_);rintro e w' ⟨rfl,⟨nd,rfl⟩⟩;refine⟨_,rfl,?_⟩)|(go_at_call 58;(with_reducible refine(eK.calls a2 0 100000 true _ A7.out).mono ?_);rintro e w' ⟨rfl,⟨nd,rfl⟩⟩))
     go_meet
     case rel=>exact⟨_,(false),eS,H',⟨by first|omega|exact Nat.le_refl _⟩,⟨oB HB⟩⟩
    ·rw[if_neg c9]at H;have mF:(a2==0)=false:=beq_eq_false_iff_ne.mpr c9;have sS:(a2 != 0)=true:=bne_iff_ne.mpr c9
     (first|rw[mF]|(simp only[eJ,gj];rw[mF])|skip)
     by_cases c10:a1=3
     ·rw[if_pos c10]at H;have t_:(a1==3)=true:=beq_iff_eq.mpr c10;have Az:(a1 != 3)=false:=bne_eq_false_iff_eq.mpr c10;clear c10;have H':=A_ H;clear H
      go_wp2_with (first|((with_reducible refine bT (f:=98) rfl ?_);refine gL (some 9) Tryz.func98 #[.int .i64 a0] ?_;(with_reducible refine(fP.calls a0 true _ A5.out).mono ?_);rintro e w' ⟨rfl,⟨nd,rfl⟩⟩;refine⟨_,rfl,?_⟩)|(go_at_call 58;(with_reducible refine(eK.calls a2 0 100000 true _ A7.out).mono ?_);rintro e w' ⟨rfl,⟨nd,rfl⟩⟩))
      go_meet
      case rel=>exact⟨_,(true),eS,H',⟨by first|omega|exact Nat.le_refl _⟩,⟨oB HB⟩⟩
     ·rw[if_neg c10]at H;have t_:(a1==3)=false:=beq_eq_false_iff_ne.mpr c10;have Az:(a1 != 3)=true:=bne_iff_ne.mpr c10;have H':=A_ H;clear H
      go_wp2_with (first|((with_reducible refine bT (f:=98) rfl ?_);refine gL (some 9) Tryz.func98 #[.int .i64 a0] ?_;(with_reducible refine(fP.calls a0 true _ A5.out).mono ?_);rintro e w' ⟨rfl,⟨nd,rfl⟩⟩;refine⟨_,rfl,?_⟩)|(go_at_call 58;(with_reducible refine(eK.calls a2 0 100000 true _ A7.out).mono ?_);rintro e w' ⟨rfl,⟨nd,rfl⟩⟩))
      go_meet
      case rel=>exact⟨_,((a1==4)),eS,H',⟨by first|omega|exact Nat.le_refl _⟩,⟨oB HB⟩⟩
   ·replace c8:=Bool.eq_false_iff.mpr c8;subst c8;rw[if_neg (show¬(false=true)by decide)]at H;have H':=A_ H;clear H
    go_wp2_with (first|((with_reducible refine bT (f:=98) rfl ?_);refine gL (some 9) Tryz.func98 #[.int .i64 a0] ?_;(with_reducible refine(fP.calls a0 true _ A5.out).mono ?_);rintro e w' ⟨rfl,⟨nd,rfl⟩⟩;refine⟨_,rfl,?_⟩)|(go_at_call 58;(with_reducible refine(eK.calls a2 0 100000 false _ A7.out).mono ?_);rintro e w' ⟨rfl,⟨nd,rfl⟩⟩))
    go_meet
    case rel=>exact⟨_,(true),eS,H',⟨by first|omega|exact Nat.le_refl _⟩,⟨oB HB⟩⟩
  ·replace c6:=Bool.eq_false_iff.mpr c6;subst c6;rw[if_neg (show¬(false=true)by decide)]at H;have H':=A_ H;clear H
   go_wp2_with (first|((with_reducible refine bT (f:=98) rfl ?_);refine gL (some 9) Tryz.func98 #[.int .i64 a0] ?_;(with_reducible refine(fP.calls a0 false _ A5.out).mono ?_);rintro e w' ⟨rfl,⟨nd,rfl⟩⟩;refine⟨_,rfl,?_⟩))
   go_meet
   case rel=>exact⟨_,(true),eS,H',⟨by first|omega|exact Nat.le_refl _⟩,⟨oB HB⟩⟩
 case rest=>
  clear xg
  try clear c1
  try clear p2
  try clear c6
  try clear c8
  try clear c9
  try clear mF
  try clear sS
  try clear c10
  try clear t_
  try clear Az
  obtain⟨kq,Jy,rfl,HA,HJ3,HB⟩:=hcut;cases kq with
  |zero=>exact absurd HA.out (by simp[iP.j0])
  |succ UQ=>
   have H:=HA.out;clear HA;simp only[iP.j0]at H;by_cases c11:Jy=true
   ·subst c11;rw[if_pos rfl]at H;obtain rfl:=Option.some.inj H;go_wp2;go_ret;exact⟨eR,oB HB⟩
   ·replace c11:=Bool.eq_false_iff.mpr c11;subst c11;rw[if_neg (show¬(false=true)by decide)]at H;by_cases c12:a1=1
    ·rw[if_pos c12]at H;have Hj:(a1==1)=true:=beq_iff_eq.mpr c12;have Hk:(a1 != 1)=false:=bne_eq_false_iff_eq.mpr c12;clear c12;obtain⟨yu,hji13⟩:∃j_:Int,(mx (wrap64 ((wrap64 (3*a0))-a2)) 0)=j_:=⟨_,rfl⟩;replace H:((fP.f (wrap64 (Int.tdiv (yu) 2))).bind fun FJ=>(if FJ=true then(some (wrap64 (Int.tdiv (yu) 2)))else(some 0)))=some r:=by first|(rw[hji13]at H;exact H)|(simp only[hji13]at H ⊢;exact H)
     have ap_:(if(wrap64 ((wrap64 (3*a0))-a2))<0 then 0 else(wrap64 ((wrap64 (3*a0))-a2)))=yu:=hji13;replace H:=Option.bind_eq_some_iff.mp H;obtain⟨FJ,Pu,H⟩:=H
     (try dsimp only at H)
     have Pt:=A_ Pu;clear Pu;by_cases c15:FJ=true
     ·subst c15;rw[if_pos rfl]at H;obtain rfl:=Option.some.inj H
      go_wp2_with (first|((with_reducible refine bT (f:=98) rfl ?_);refine ur (some 54) rfl rfl Tryz.func98 (by kernel_rfl) rfl #[.int .i64 (wrap64 (Int.tdiv (yu) 2))] rfl (by(try simp only[List.map_toArray,List.map_cons,List.map_nil]);first|done|(simp only[hji13];rfl)|rfl|(simp only[List.length_drop,List.length_take];rfl)) ?_;(with_reducible refine(fP.calls (wrap64 (Int.tdiv (yu) 2)) true _ Pt.out).mono ?_);rintro e w' ⟨rfl,⟨nd,rfl⟩⟩;refine⟨_,rfl,?_⟩))
      go_ret;exact⟨by first|rfl|(simp[errW_none,errW_some]<;>rfl)|(simp only[←hji13];first|rfl|(simp[errW_none,errW_some]<;>rfl))|(simp[*,errW_none,errW_some]<;>rfl),oB HB⟩
     ·replace c15:=Bool.eq_false_iff.mpr c15;subst c15;rw[if_neg (show¬(false=true)by decide)]at H;obtain rfl:=Option.some.inj H
      go_wp2_with (first|((with_reducible refine bT (f:=98) rfl ?_);refine ur (some 54) rfl rfl Tryz.func98 (by kernel_rfl) rfl #[.int .i64 (wrap64 (Int.tdiv (yu) 2))] rfl (by(try simp only[List.map_toArray,List.map_cons,List.map_nil]);first|done|(simp only[hji13];rfl)|rfl|(simp only[List.length_drop,List.length_take];rfl)) ?_;(with_reducible refine(fP.calls (wrap64 (Int.tdiv (yu) 2)) false _ Pt.out).mono ?_);rintro e w' ⟨rfl,⟨nd,rfl⟩⟩;refine⟨_,rfl,?_⟩))
      go_ret;exact⟨by first|rfl|(simp[errW_none,errW_some]<;>rfl)|(simp only[←hji13];first|rfl|(simp[errW_none,errW_some]<;>rfl))|(simp[*,errW_none,errW_some]<;>rfl),oB HB⟩
    ·rw[if_neg c12]at H;have Hj:(a1==1)=false:=beq_eq_false_iff_ne.mpr c12;have Hk:(a1 != 1)=true:=bne_iff_ne.mpr c12;by_cases c16:a1=2
     ·rw[if_pos c16]at H;have CI:(a1==2)=true:=beq_iff_eq.mpr c16;have K6:(a1 != 2)=false:=bne_eq_false_iff_eq.mpr c16;clear c16;obtain⟨yw,hji17⟩:∃j_:Int,(mx (wrap64 ((wrap64 (3*a0))-a2)) 0)=j_:=⟨_,rfl⟩;replace H:((fP.f (wrap64 (Int.tdiv (yw) 4))).bind fun t766=>(if t766=true then(some (wrap64 (Int.tdiv (yw) 4)))else(some 0)))=some r:=by first|(rw[hji17]at H;exact H)|(simp only[hji17]at H ⊢;exact H)
      have aqa:(if(wrap64 ((wrap64 (3*a0))-a2))<0 then 0 else(wrap64 ((wrap64 (3*a0))-a2)))=yw:=hji17;replace H:=Option.bind_eq_some_iff.mp H;obtain⟨t766,vt,H⟩:=H
      (try dsimp only at H)
      have ox:=A_ vt;clear vt;by_cases c19:t766=true
      ·subst c19;rw[if_pos rfl]at H;obtain rfl:=Option.some.inj H
       go_wp2_with (first|((with_reducible refine bT (f:=98) rfl ?_);refine ur (some 54) rfl rfl Tryz.func98 (by kernel_rfl) rfl #[.int .i64 (wrap64 (Int.tdiv (yw) 4))] rfl (by(try simp only[List.map_toArray,List.map_cons,List.map_nil]);first|done|(simp only[hji17];rfl)|rfl|(simp only[List.length_drop,List.length_take];rfl)) ?_;(with_reducible refine(fP.calls (wrap64 (Int.tdiv (yw) 4)) true _ ox.out).mono ?_);rintro e w' ⟨rfl,⟨nd,rfl⟩⟩;refine⟨_,rfl,?_⟩))
       go_ret;exact⟨by first|rfl|(simp[errW_none,errW_some]<;>rfl)|(simp only[←hji17];first|rfl|(simp[errW_none,errW_some]<;>rfl))|(simp[*,errW_none,errW_some]<;>rfl),oB HB⟩
      ·replace c19:=Bool.eq_false_iff.mpr c19;subst c19;rw[if_neg (show¬(false=true)by decide)]at H;obtain rfl:=Option.some.inj H
       go_wp2_with (first|((with_reducible refine bT (f:=98) rfl ?_);refine ur (some 54) rfl rfl Tryz.func98 (by kernel_rfl) rfl #[.int .i64 (wrap64 (Int.tdiv (yw) 4))] rfl (by(try simp only[List.map_toArray,List.map_cons,List.map_nil]);first|done|(simp only[hji17];rfl)|rfl|(simp only[List.length_drop,List.length_take];rfl)) ?_;(with_reducible refine(fP.calls (wrap64 (Int.tdiv (yw) 4)) false _ ox.out).mono ?_);rintro e w' ⟨rfl,⟨nd,rfl⟩⟩;refine⟨_,rfl,?_⟩))
       go_ret;exact⟨by first|rfl|(simp[errW_none,errW_some]<;>rfl)|(simp only[←hji17];first|rfl|(simp[errW_none,errW_some]<;>rfl))|(simp[*,errW_none,errW_some]<;>rfl),oB HB⟩
     ·rw[if_neg c16]at H;have CI:(a1==2)=false:=beq_eq_false_iff_ne.mpr c16;have K6:(a1 != 2)=true:=bne_iff_ne.mpr c16;by_cases c20:a1=3
      ·rw[if_pos c20]at H;have vU:(a1==3)=true:=beq_iff_eq.mpr c20;have CK:(a1 != 3)=false:=bne_eq_false_iff_eq.mpr c20;clear c20;replace H:=Option.bind_eq_some_iff.mp H;obtain⟨Oh,BV,H⟩:=H
       (try dsimp only at H)
       have Gw:=A_ BV;clear BV;by_cases lv:Oh=true
       ·subst lv;rw[if_pos rfl]at H;obtain rfl:=Option.some.inj H
        go_wp2_with (first|((with_reducible refine bT (f:=98) rfl ?_);refine gL (some 54) Tryz.func98 #[.int .i64 (wrap64 (2*a0))] ?_;(with_reducible refine(fP.calls (wrap64 (2*a0)) true _ Gw.out).mono ?_);rintro e w' ⟨rfl,⟨nd,rfl⟩⟩;refine⟨_,rfl,?_⟩))
        go_ret;exact⟨eR,oB HB⟩
       ·replace lv:=Bool.eq_false_iff.mpr lv;subst lv;rw[if_neg (show¬(false=true)by decide)]at H;obtain rfl:=Option.some.inj H
        go_wp2_with (first|((with_reducible refine bT (f:=98) rfl ?_);refine gL (some 54) Tryz.func98 #[.int .i64 (wrap64 (2*a0))] ?_;(with_reducible refine(fP.calls (wrap64 (2*a0)) false _ Gw.out).mono ?_);rintro e w' ⟨rfl,⟨nd,rfl⟩⟩;refine⟨_,rfl,?_⟩))
        go_ret;exact⟨eR,oB HB⟩
      ·rw[if_neg c20]at H;have vU:(a1==3)=false:=beq_eq_false_iff_ne.mpr c20;have CK:(a1 != 3)=true:=bne_iff_ne.mpr c20;by_cases ju:a1=4
       ·rw[if_pos ju]at H;have ub:(a1==4)=true:=beq_iff_eq.mpr ju;have Hl:(a1 != 4)=false:=bne_eq_false_iff_eq.mpr ju;clear ju;replace H:=Option.bind_eq_some_iff.mp H;obtain⟨Oi,A240,H⟩:=H
        (try dsimp only at H)
        have Gy:=A_ A240;clear A240;by_cases rH:Oi=true
        ·subst rH;rw[if_pos rfl]at H;obtain rfl:=Option.some.inj H
         go_wp2_with (first|((with_reducible refine bT (f:=98) rfl ?_);refine gL (some 54) Tryz.func98 #[.int .i64 (wrap64 (Int.tdiv a0 2))] ?_;(with_reducible refine(fP.calls (wrap64 (Int.tdiv a0 2)) true _ Gy.out).mono ?_);rintro e w' ⟨rfl,⟨nd,rfl⟩⟩;refine⟨_,rfl,?_⟩))
         go_ret;exact⟨eR,oB HB⟩
        ·replace rH:=Bool.eq_false_iff.mpr rH;subst rH;rw[if_neg (show¬(false=true)by decide)]at H;obtain rfl:=Option.some.inj H
         go_wp2_with (first|((with_reducible refine bT (f:=98) rfl ?_);refine gL (some 54) Tryz.func98 #[.int .i64 (wrap64 (Int.tdiv a0 2))] ?_;(with_reducible refine(fP.calls (wrap64 (Int.tdiv a0 2)) false _ Gy.out).mono ?_);rintro e w' ⟨rfl,⟨nd,rfl⟩⟩;refine⟨_,rfl,?_⟩))
         go_ret;exact⟨eR,oB HB⟩
       ·rw[if_neg ju]at H;have ub:(a1==4)=false:=beq_eq_false_iff_ne.mpr ju;have Hl:(a1 != 4)=true:=bne_iff_ne.mpr ju;replace H:=Option.bind_eq_some_iff.mp H;obtain⟨Oj,PD,H⟩:=H
        (try dsimp only at H)
        have PC:=A_ PD;clear PD;by_cases c27:Oj=true
        ·subst c27;rw[if_pos rfl]at H;obtain rfl:=Option.some.inj H
         go_wp2_with (first|((with_reducible refine bT (f:=98) rfl ?_);refine gL (some 54) Tryz.func98 #[.int .i64 0] ?_;(with_reducible refine(fP.calls 0 true _ PC.out).mono ?_);rintro e w' ⟨rfl,⟨nd,rfl⟩⟩;refine⟨_,rfl,?_⟩))
         go_ret;exact⟨eR,oB HB⟩
        ·replace c27:=Bool.eq_false_iff.mpr c27;subst c27;rw[if_neg (show¬(false=true)by decide)]at H;obtain rfl:=Option.some.inj H
         go_wp2_with (first|((with_reducible refine bT (f:=98) rfl ?_);refine gL (some 54) Tryz.func98 #[.int .i64 0] ?_;(with_reducible refine(fP.calls 0 false _ PC.out).mono ?_);rintro e w' ⟨rfl,⟨nd,rfl⟩⟩;refine⟨_,rfl,?_⟩))
         go_ret;exact⟨eR,oB HB⟩
def lA.f (k:Nat) (ak:List (ar)) (ax:Int) (aq:List Int) (a1:Int):Option (Int):=if 0≤a1 then(if a1<(ak.length:Int)then(if 0≤((au ak a1).f0)then(if((au ak a1).f0)<(aq.length:Int)then((iP.f k (rd aq ((au ak a1).f0)) ((au ak a1).f2) ((au ak a1).f3)).bind fun FL=>(some FL))else(none))else(none))else(none))else(none)
def lA.T2:Bool×List (List Nat×List Nat):=(true,[([],[]),([0],[0]),([],[]),([2],[2]),([1,3],[1,3]),([4],[4]),([],[]),([6],[6]),([],[]),([8],[8]),([5,7,9],[5,7,9]),([10,10,0,1,2,3,4,5,6,7,8,9,10],[10])])
def lA.B2:List Nat:=[0,1,0,4,15,31,0,64,0,256,1023,2047]
theorem lA.Ol:rtab .any (opsOf Tryz.f131 2)=lA.T2:=by kernel_rfl
theorem lA.KE:eN lA.T2.2 lA.B2=true:=by kernel_rfl
theorem lA.calls (k:Nat) (aU:Option Addr) (c0_0:Nat) (ak:List (ar)) (ax:Int) (a6:Option Addr) (aW:Nat) (aq:List Int) (a1:Int) (r:Int) (w:World) (cp:Kd.C bl w aU ak.length ak) (cx:ak.length≤c0_0) (cv:Kd.C (Kd.int .i64) w a6 aq.length aq) (cA:aq.length≤aW) (h:lA.f k ak ax aq a1=some r):
  Calls Tryz.prog 131 #[.agg #[.slice aU ak.length c0_0,.int .i64 ax,.slice a6 aq.length aW],.int .i64 a1] w fun e w'=>e= .returned (.int .i64 r)∧Below w.heap.size w w':=by
 have lR:=Tryz.underlying27;have yb:=Tryz.underlying110;have ix:=A_ cp;have iK:=A_ cx;clear cp cx;have iY:=A_ cv;have nM:=A_ cA;clear cv cA;have HB:=A_ (Below.refl w.heap.size w);have H:(if 0≤a1 then(if a1<(ak.length:Int)then(if 0≤((au ak a1).f0)then(if((au ak a1).f0)<(aq.length:Int)then((iP.f k (rd aq ((au ak a1).f0)) ((au ak a1).f2) ((au ak a1).f3)).bind fun FL=>(some FL))else(none))else(none))else(none))else(none))=some r:=h;clear h;by_cases c3:0≤a1
 ·rw[if_pos c3]at H;have c3b0:decide (0≤a1)=true:=decide_eq_true c3;clear c3;by_cases c4:a1<(ak.length:Int)
  ·rw[if_pos c4]at H;have kj:decide (a1<(ak.length:Int))=true:=decide_eq_true c4;clear c4;by_cases c5:0≤((au ak a1).f0)
   ·rw[if_pos c5]at H;have ug:decide (0≤((au ak a1).f0))=true:=decide_eq_true c5;clear c5;by_cases c6:((au ak a1).f0)<(aq.length:Int)
    ·rw[if_pos c6]at H;have rI:decide (((au ak a1).f0)<(aq.length:Int))=true:=decide_eq_true c6;clear c6;replace H:=Option.bind_eq_some_iff.mp H;obtain⟨FL,mo,H⟩:=H
     (try dsimp only at H)
     have A7:=A_ mo;clear mo;obtain rfl:=Option.some.inj H;go_enter Tryz.func131,Tryz.ntmps131
     try go_wp2_with (first|((with_reducible refine gate_dst (N:=2) rfl ?_);refine bX (N:=2) (cs:= #[.slice aU ak.length c0_0,.int .i64 ax,.slice a6 aq.length aW]) (t:=27) ?_;intro gb770 hg w8 cj hb;have ah:=A_ (bz (oB HB) hb);have ai:=A_ (cj);have ay:=A_ ((by rw[hg];exact(bn (oB HB)):w.heap.size≤gb770));have aG:=A_ ((by rw[hg];exact(bn (oB HB)):w.heap.size≤gb770));clear HB;have HB:=ah;have iX:=ai;have alB:=ay;have alp:=aG;clear ah ai ay aG;clear hb cj hg;have aon:=cz iX 0;have aoo:=cz iX 1;have aop:=cz iX 2;have ap4:=aJ iX.out 0;have ap5:=aJ iX.out 1;have ap6:=aJ iX.out 2;have Nh:0≤(a1:Int):=oD;have ND:a1<(ak.length:Int):=oD;obtain⟨Rt,acC,Uv,Uw,Ux,Uy⟩:=iC ix.out a1 Nh ND;cases acC;replace Uv:=hW HB Uv;replace Uw:=hW HB Uw;replace Ux:=hW HB Ux;replace Uy:=hW HB Uy;replace Nh:=eq_true Nh;replace ND:=eq_true ND)|((with_reducible refine gate_dst (N:=5) rfl ?_);refine bX (N:=5) (cs:= #[.int .i64 0,.int .i64 0,.int .i64 0,.int .i64 0]) (t:=110) ?_;intro kn hg lJ cj hb;have ah:=A_ (bb iX hb);have ai:=A_ (bz (oB HB) hb);have ay:=A_ (cj);have aG:=A_ ((by rw[hg];exact(bn (oB HB)):w.heap.size≤kn));have bD:=A_ ((by rw[hg];exact(bn (oB HB)):w.heap.size≤kn));have n5_:=A_ (nL iX hg);have dm:=A_ (nG iX hg);clear iX;clear HB;have iX:=ah;have HB:=ai;have BK772:=ay;have alC:=aG;have alq:=bD;have Ci:=n5_;have Z3:=dm;clear ah ai ay aG bD n5_ dm;clear hb cj hg;have aeN:=Z3.out;have aeO:=Ci.out;have C3:=cz BK772 0;have C4:=cz BK772 1;have H4:=cz BK772 2;have H6:=cz BK772 3;have C_:=aJ BK772.out 0;have Da:=aJ BK772.out 1;have Ie:=aJ BK772.out 2;have Ig:=aJ BK772.out 3))
     have ah:aj (((((lJ.setCell ⟨kn,0,none⟩ (.int .i64 ((au ak a1).f0))).setCell ⟨kn,1,none⟩ (.int .i64 ((au ak a1).f1))).setCell ⟨kn,2,none⟩ (.int .i64 ((au ak a1).f2))).setCell ⟨kn,3,none⟩ (.int .i64 ((au ak a1).f3))).heap[gb770]? =some (.cells #[.slice (some Rt) ak.length c0_0,.int .i64 ax,.slice a6 aq.length aW] 27 (0,0))):=⟨by(with_reducible repeat(first|refine bP ?_ _|refine bF ?_|refine bC ?_ _));refine blk_far ?_ Ci.out _;(with_reducible repeat(first|refine bP ?_ _|refine bF ?_|refine bC ?_ _));refine blk_far ?_ Ci.out _;(with_reducible repeat(first|refine bP ?_ _|refine bF ?_|refine bC ?_ _));refine blk_far ?_ Ci.out _;(with_reducible repeat(first|refine bP ?_ _|refine bF ?_|refine bC ?_ _));refine blk_far ?_ Ci.out _;(with_reducible repeat(first|refine bP ?_ _|refine bF ?_|refine bC ?_ _));exact iX.out⟩;have ai:aj (((((lJ.setCell ⟨kn,0,none⟩ (.int .i64 ((au ak a1).f0))).setCell ⟨kn,1,none⟩ (.int .i64 ((au ak a1).f1))).setCell ⟨kn,2,none⟩ (.int .i64 ((au ak a1).f2))).setCell ⟨kn,3,none⟩ (.int .i64 ((au ak a1).f3))).heap[kn]? =some (.cells #[.int .i64 ((au ak a1).f0),.int .i64 ((au ak a1).f1),.int .i64 ((au ak a1).f2),.int .i64 ((au ak a1).f3)] 110 (0,0))):=⟨by(with_reducible repeat(first|refine bP ?_ _|refine bF ?_|refine bC ?_ _));refine di (cs:= #[.int .i64 ((au ak a1).f0),.int .i64 ((au ak a1).f1),.int .i64 ((au ak a1).f2),.int .i64 0]) ?_ 3 _ rfl;(with_reducible repeat(first|refine bP ?_ _|refine bF ?_|refine bC ?_ _));refine di (cs:= #[.int .i64 ((au ak a1).f0),.int .i64 ((au ak a1).f1),.int .i64 0,.int .i64 0]) ?_ 2 _ rfl;(with_reducible repeat(first|refine bP ?_ _|refine bF ?_|refine bC ?_ _));refine di (cs:= #[.int .i64 ((au ak a1).f0),.int .i64 0,.int .i64 0,.int .i64 0]) ?_ 1 _ rfl;(with_reducible repeat(first|refine bP ?_ _|refine bF ?_|refine bC ?_ _));refine di (cs:= #[.int .i64 0,.int .i64 0,.int .i64 0,.int .i64 0]) ?_ 0 _ rfl;(with_reducible repeat(first|refine bP ?_ _|refine bF ?_|refine bC ?_ _));exact BK772.out⟩;have ay:aj (Below w.heap.size w ((((lJ.setCell ⟨kn,0,none⟩ (.int .i64 ((au ak a1).f0))).setCell ⟨kn,1,none⟩ (.int .i64 ((au ak a1).f1))).setCell ⟨kn,2,none⟩ (.int .i64 ((au ak a1).f2))).setCell ⟨kn,3,none⟩ (.int .i64 ((au ak a1).f3)))):=⟨oB HB⟩
     (try clear iX)
     (try clear BK772)
     (try clear HB)
     generalize ((((lJ.setCell ⟨kn,0,none⟩ (.int .i64 ((au ak a1).f0))).setCell ⟨kn,1,none⟩ (.int .i64 ((au ak a1).f1))).setCell ⟨kn,2,none⟩ (.int .i64 ((au ak a1).f2))).setCell ⟨kn,3,none⟩ (.int .i64 ((au ak a1).f3)))=tE at ah ai ay ⊢;have iX:=ah;have BK772:=ai;have HB:=ay;clear ah ai ay;have ah:=A_ (bF iX.out);have ai:=A_ (bF BK772.out);have ay:=A_ (fC HB.out);clear iX;clear BK772;clear HB;have iX:=ah;have BK772:=ai;have HB:=ay;clear ah ai ay;have p773:0≤(((au ak a1).f0):Int):=oD;have NF:((au ak a1).f0)<(aq.length:Int):=oD;obtain⟨Ru,acD,Iu⟩:=Kd.jZ iY.out ((au ak a1).f0) p773 NF;have Ug:=Iu;cases acD;replace Iu:=hW HB Iu;replace p773:=eq_true p773;replace NF:=eq_true NF;refine pJ (n:=12) (S:=fun w'=>w'.cell? ⟨gb770,0,none⟩=some (.slice (some Rt) ak.length c0_0)∧w'.cell? ⟨gb770,1,none⟩=some (.int .i64 ax)∧w'.cell? ⟨gb770,2,none⟩=some (.slice (some Ru) aq.length aW)∧w'.cell? ⟨kn,0,none⟩=some (.int .i64 ((au ak a1).f0))∧w'.cell? ⟨kn,1,none⟩=some (.int .i64 ((au ak a1).f1))∧w'.cell? ⟨kn,2,none⟩=some (.int .i64 ((au ak a1).f2))∧w'.cell? ⟨kn,3,none⟩=some (.int .i64 ((au ak a1).f3))∧w'.cell? (Ru.add (((au ak a1).f0)).toNat)=some (.int .i64 (rd aq ((au ak a1).f0)))) (ds:=[]) #[false,false,false,false,false,false,false,false,false,false,false,false] (by kernel_rfl) rfl rfl ⟨cz iX 0,cz iX 1,cz iX 2,cz BK772 0,cz BK772 1,cz BK772 2,cz BK772 3,(hW HB Ug)⟩ (fun hHeld=> ?_);refine su lA.Ol lA.KE (fun ag HW_=> ?_);generalize tE.drew=wW at iX BK772 HB Iu hHeld ⊢;refine pA 0 (some 11) ag.out ?_;refine pA 2 (some 13) ag.out ?_;refine pA 6 (some 17) ag.out ?_;refine pA 8 (some 19) ag.out ?_;refine pT 1 (some 12) ag.out HW_.out hHeld ?_;refine pT 3 (some 14) ag.out HW_.out hHeld ?_;refine pA 4 (some 15) ag.out ?_;refine pT 5 (some 16) ag.out HW_.out hHeld ?_;refine pT 7 (some 18) ag.out HW_.out hHeld ?_;refine pT 9 (some 20) ag.out HW_.out hHeld ?_;refine one_ (i:=10) (N:=some 21) #[true,true,true,true,true,true,true,true,true,true,true,false] rfl rfl (ji ag.out (by kernel_rfl)) (by decide) (fun K hK=> ?_);refine gH Tryz.func146 (by kernel_rfl) rfl #[.int .i64 (rd aq ((au ak a1).f0)),.int .i64 ((au ak a1).f2),.int .i64 ((au ak a1).f3)] (by rfl) rfl rfl (by(try simp only[List.map_toArray,List.map_cons,List.map_nil]);first|done|rfl|(simp only[List.length_drop,List.length_take];rfl)) ?_
     with_reducible refine(iP.calls k (rd aq ((au ak a1).f0)) ((au ak a1).f2) ((au ak a1).f3) FL _ A7.out).mono ?_
     rintro e l4 ⟨rfl,hb⟩;refine⟨_,rfl,?_⟩;have ah:=A_ (bb iX hb);have ai:=A_ (bb BK772 hb);have ay:=A_ (bz (oB HB) hb);clear iX;clear BK772;clear HB;have iX:=ah;have BK772:=ai;have HB:=ay;clear ah ai ay
     (try clear hb)
     (try clear hb2)
     (try clear hk)
     (try clear hi)
     refine hK.out _ _ ⟨cz iX 0,cz iX 1,cz iX 2,cz BK772 0,cz BK772 1,cz BK772 2,cz BK772 3,(hW HB Ug)⟩ (fun hHeld=> ?_);clear hK K;refine kM (a':= ?_) ?_ ?_;rotate_left
     ·show Act.put _ (some 21) _=_;simp only[Act.put,List.setIfInBounds_toArray,List.set_cons_zero,List.set_cons_succ,eJ,gj];rfl
     refine pA 11 (some 4) ag.out ?_;refine done_ (done_of ag.out (by kernel_rfl)) ?_
     try go_wp2
     go_ret;exact⟨eR,oB HB⟩
    ·rw[if_neg c6]at H;exact absurd H (by simp)
   ·rw[if_neg c5]at H;exact absurd H (by simp)
  ·rw[if_neg c4]at H;exact absurd H (by simp)
 ·rw[if_neg c3]at H;exact absurd H (by simp)
def oT.f (a0:Bool):Option (Int):=if a0=true then(some 1)else(some 0)
theorem oT.calls (a0:Bool) (r:Int) (w:World) (h:oT.f a0=some r):
  Calls Tryz.prog 61 #[.bool a0] w fun e w'=>e= .returned (.int .i64 r)∧cV w w':=by
 have H:(if a0=true then(some 1)else(some 0))=some r:=h;clear h;by_cases c2:a0=true
 ·subst c2;rw[if_pos rfl]at H;obtain rfl:=Option.some.inj H;go_enter Tryz.func61,Tryz.ntmps61;go_wp2;go_ret;exact⟨eS,by repeat(first|exact cV.refl _|apply cV.step)⟩
 ·replace c2:=Bool.eq_false_iff.mpr c2;subst c2;rw[if_neg (show¬(false=true)by decide)]at H;obtain rfl:=Option.some.inj H;go_enter Tryz.func61,Tryz.ntmps61;go_wp2;go_ret;exact⟨eS,by repeat(first|exact cV.refl _|apply cV.step)⟩
end Go.Proofs.YtnjfiaekdcekgaaGreatDoor.P
