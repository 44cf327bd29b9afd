/- What functions of the program come to (f), that their calls come to just this (calls), and the plain laws over lists and numbers. No condition but those of the given row. -/
import Derived.Test.YtnjfiaekdcekgaaGreatDoorE0
import Derived.Shelf.GgSortFunc.Lays
import Derived.Test.YtnjfiaekdcekgaaGreatDoorProg
import Derived.Shelf.Strconv.Itoa3
import Derived.Shelf.Strings.BuilderK
import Derived.Shelf.Strings.OnBuilder
import Derived.Shelf.SlSortFuncK.WholeK
import Derived.Shelf.GgSortFunc.Tiny
import Derived.Deep.Slices
import Derived.ChangeArms
import Derived.ChangeSame
import Derived.Below
import Derived.Deep.Draws
import Derived.Deep.AppendLies
import Derived.Maps.AppendAt
import Derived.OwnWalk
import Derived.Laws.BytesArg
import Derived.Laws.MakeOwn
import Derived.Laws.OwnMore
import Derived.Deep.OwnRows
import Derived.Tactics
import Derived.Lib.ConvBytes
import Derived.Laws.Slices
import Derived.WalkKit
import Derived.KernelRfl
import Derived.RowKit3
import Derived.Deep.LoopGhost
import Derived.Deep.QuietTactic
import Derived.BigQuiet
import Derived.WideLaws
import Derived.Deep.DeepCutAuto
import Derived.Deep.CutBlock
import Derived.Deep.RegionHeld3
import Derived.Laws.Rows
import Derived.Lib.AppendStr
import Derived.ArgAppend
import Derived.Laws.IdiomCopy
import Derived.OrdersHeld
import Derived.Laws.BitsLemmas
import Derived.RowKit
set_option linter.unusedVariables false
set_option linter.unusedSimpArgs false
namespace Go.Proofs.YtnjfiaekdcekgaaGreatDoor
namespace P
open Go.Shelf
def qf:Go.Shelf.Ren:=⟨fun|6=>152|10=>170|11=>171|12=>172|13=>173|14=>174|24=>190|25=>166|26=>191|27=>192|28=>193|29=>194|30=>195|31=>196|32=>197|33=>198|34=>199|35=>200|36=>201|37=>202|38=>203|39=>204|n=>n,fun|20=>20|26=>162|35=>177|0=>0|37=>179|3=>3|41=>115|44=>184|49=>172|51=>155|4=>4|54=>201|53=>200|58=>138|5=>5|9=>9|60=>208|64=>212|66=>214|67=>215|17=>17|32=>130|33=>175|82=>230|12=>12|75=>224|76=>225|77=>226|78=>104|79=>227|80=>228|n=>n,fun|n=>n⟩
theorem p_:Go.Proofs.LaysGg.n6 Tryz.prog qf:={
  mixed:=by kernel_rfl
  f6:=Tryz.func152.trans (congrArg some (by kernel_rfl))
  f10:=Tryz.func170.trans (congrArg some (by kernel_rfl))
  f11:=Tryz.func171.trans (congrArg some (by kernel_rfl))
  f12:=Tryz.func172.trans (congrArg some (by kernel_rfl))
  f13:=Tryz.func173.trans (congrArg some (by kernel_rfl))
  f14:=Tryz.func174.trans (congrArg some (by kernel_rfl))
  f24:=Tryz.func190.trans (congrArg some (by kernel_rfl))
  f25:=Tryz.func166.trans (congrArg some (by kernel_rfl))
  f26:=Tryz.func191.trans (congrArg some (by kernel_rfl))
  f27:=Tryz.func192.trans (congrArg some (by kernel_rfl))
  f28:=Tryz.func193.trans (congrArg some (by kernel_rfl))
  f29:=Tryz.func194.trans (congrArg some (by kernel_rfl))
  f30:=Tryz.func195.trans (congrArg some (by kernel_rfl))
  f31:=Tryz.func196.trans (congrArg some (by kernel_rfl))
  f32:=Tryz.func197.trans (congrArg some (by kernel_rfl))
  f33:=Tryz.func198.trans (congrArg some (by kernel_rfl))
  f34:=Tryz.func199.trans (congrArg some (by kernel_rfl))
  f35:=Tryz.func200.trans (congrArg some (by kernel_rfl))
  f36:=Tryz.func201.trans (congrArg some (by kernel_rfl))
  f37:=Tryz.func202.trans (congrArg some (by kernel_rfl))
  f38:=Tryz.func203.trans (congrArg some (by kernel_rfl))
  f39:=Tryz.func204.trans (congrArg some (by kernel_rfl))
  t0:=Tryz.underlying0
  a0:=Tryz.isAgg0
  z0:=Tryz.sizeOf0
  v0:=Tryz.zeroValue0
  i0:=by kernel_rfl
  t3:=Tryz.underlying3
  a3:=Tryz.isAgg3
  z3:=Tryz.sizeOf3
  v3:=Tryz.zeroValue3
  i3:=by kernel_rfl
  t4:=Tryz.underlying4
  a4:=Tryz.isAgg4
  z4:=Tryz.sizeOf4
  v4:=Tryz.zeroValue4
  i4:=by kernel_rfl
  t5:=Tryz.underlying5
  a5:=Tryz.isAgg5
  z5:=Tryz.sizeOf5
  v5:=Tryz.zeroValue5
  i5:=by kernel_rfl
  t9:=Tryz.underlying9
  a9:=Tryz.isAgg9
  z9:=Tryz.sizeOf9
  v9:=Tryz.zeroValue9
  i9:=by kernel_rfl
  t12:=Tryz.underlying12
  a12:=Tryz.isAgg12
  z12:=Tryz.sizeOf12
  v12:=Tryz.zeroValue12
  i12:=by kernel_rfl
  t17:=Tryz.underlying17
  a17:=Tryz.isAgg17
  z17:=Tryz.sizeOf17
  v17:=Tryz.zeroValue17
  i17:=by kernel_rfl
  t20:=Tryz.underlying20
  a20:=Tryz.isAgg20
  z20:=Tryz.sizeOf20
  v20:=Tryz.zeroValue20
  i20:=by kernel_rfl
  t26:=Tryz.underlying162
  a26:=Tryz.isAgg162
  z26:=Tryz.sizeOf162
  v26:=Tryz.zeroValue162
  i26:=by kernel_rfl
  t32:=Tryz.underlying130
  a32:=Tryz.isAgg130
  z32:=Tryz.sizeOf130
  v32:=Tryz.zeroValue130
  i32:=by kernel_rfl
  t33:=Tryz.underlying175
  a33:=Tryz.isAgg175
  z33:=Tryz.sizeOf175
  v33:=Tryz.zeroValue175
  i33:=by kernel_rfl
  t35:=Tryz.underlying177
  a35:=Tryz.isAgg177
  z35:=Tryz.sizeOf177
  v35:=Tryz.zeroValue177
  i35:=by kernel_rfl
  t37:=Tryz.underlying179
  a37:=Tryz.isAgg179
  z37:=Tryz.sizeOf179
  v37:=Tryz.zeroValue179
  i37:=by kernel_rfl
  t41:=Tryz.underlying115
  a41:=Tryz.isAgg115
  z41:=Tryz.sizeOf115
  v41:=Tryz.zeroValue115
  i41:=by kernel_rfl
  t44:=Tryz.underlying184
  a44:=Tryz.isAgg184
  z44:=Tryz.sizeOf184
  v44:=Tryz.zeroValue184
  i44:=by kernel_rfl
  t49:=Tryz.underlying172
  a49:=Tryz.isAgg172
  z49:=Tryz.sizeOf172
  v49:=Tryz.zeroValue172
  i49:=by kernel_rfl
  t51:=Tryz.underlying155
  a51:=Tryz.isAgg155
  z51:=Tryz.sizeOf155
  v51:=Tryz.zeroValue155
  i51:=by kernel_rfl
  t53:=Tryz.underlying200
  a53:=Tryz.isAgg200
  z53:=Tryz.sizeOf200
  v53:=Tryz.zeroValue200
  i53:=by kernel_rfl
  t54:=Tryz.underlying201
  a54:=Tryz.isAgg201
  z54:=Tryz.sizeOf201
  v54:=Tryz.zeroValue201
  i54:=by kernel_rfl
  t58:=Tryz.underlying138
  a58:=Tryz.isAgg138
  z58:=Tryz.sizeOf138
  v58:=Tryz.zeroValue138
  i58:=by kernel_rfl
  t60:=Tryz.underlying208
  a60:=Tryz.isAgg208
  z60:=Tryz.sizeOf208
  v60:=Tryz.zeroValue208
  i60:=by kernel_rfl
  t64:=Tryz.underlying212
  a64:=Tryz.isAgg212
  z64:=Tryz.sizeOf212
  v64:=Tryz.zeroValue212
  i64:=by kernel_rfl
  t66:=Tryz.underlying214
  a66:=Tryz.isAgg214
  z66:=Tryz.sizeOf214
  v66:=Tryz.zeroValue214
  i66:=by kernel_rfl
  t67:=Tryz.underlying215
  a67:=Tryz.isAgg215
  z67:=Tryz.sizeOf215
  v67:=Tryz.zeroValue215
  i67:=by kernel_rfl
  t75:=Tryz.underlying224
  a75:=Tryz.isAgg224
  z75:=Tryz.sizeOf224
  v75:=Tryz.zeroValue224
  i75:=by kernel_rfl
  t76:=Tryz.underlying225
  a76:=Tryz.isAgg225
  z76:=Tryz.sizeOf225
  v76:=Tryz.zeroValue225
  i76:=by kernel_rfl
  t77:=Tryz.underlying226
  a77:=Tryz.isAgg226
  z77:=Tryz.sizeOf226
  v77:=Tryz.zeroValue226
  i77:=by kernel_rfl
  t78:=Tryz.underlying104
  a78:=Tryz.isAgg104
  z78:=Tryz.sizeOf104
  v78:=Tryz.zeroValue104
  i78:=by kernel_rfl
  t79:=Tryz.underlying227
  a79:=Tryz.isAgg227
  z79:=Tryz.sizeOf227
  v79:=Tryz.zeroValue227
  i79:=by kernel_rfl
  t80:=Tryz.underlying228
  a80:=Tryz.isAgg228
  z80:=Tryz.sizeOf228
  v80:=Tryz.zeroValue228
  i80:=by kernel_rfl
  t82:=Tryz.underlying230
  a82:=Tryz.isAgg230
  z82:=Tryz.sizeOf230
  v82:=Tryz.zeroValue230
  i82:=by kernel_rfl}
def BD:Go.Shelf.Ren:=⟨fun|171=>44|243=>88|246=>128|283=>147|284=>148|285=>149|286=>150|129=>166|317=>165|318=>167|319=>168|320=>169|337=>179|338=>180|n=>n,fun|3=>3|9=>9|2=>2|4=>4|171=>154|0=>0|53=>155|37=>22|5=>5|173=>158|212=>171|51=>172|20=>20|213=>173|46=>115|232=>206|233=>207|n=>n,fun|17=>3|18=>6|19=>7|n=>n⟩
theorem BC:Go.Proofs.LaysM.n171 Tryz.prog BD:={
  mixed:=by kernel_rfl
  f129:=Tryz.func166.trans (congrArg some (by kernel_rfl))
  f171:=Tryz.func44.trans (congrArg some (by kernel_rfl))
  f243:=Tryz.func88.trans (congrArg some (by kernel_rfl))
  f246:=Tryz.func128.trans (congrArg some (by kernel_rfl))
  f283:=Tryz.func147.trans (congrArg some (by kernel_rfl))
  f284:=Tryz.func148.trans (congrArg some (by kernel_rfl))
  f285:=Tryz.func149.trans (congrArg some (by kernel_rfl))
  f286:=Tryz.func150.trans (congrArg some (by kernel_rfl))
  f317:=Tryz.func165.trans (congrArg some (by kernel_rfl))
  f318:=Tryz.func167.trans (congrArg some (by kernel_rfl))
  f319:=Tryz.func168.trans (congrArg some (by kernel_rfl))
  f320:=Tryz.func169.trans (congrArg some (by kernel_rfl))
  f337:=Tryz.func179.trans (congrArg some (by kernel_rfl))
  f338:=Tryz.func180.trans (congrArg some (by kernel_rfl))
  t0:=Tryz.underlying0
  a0:=Tryz.isAgg0
  z0:=Tryz.sizeOf0
  v0:=Tryz.zeroValue0
  t2:=Tryz.underlying2
  a2:=Tryz.isAgg2
  z2:=Tryz.sizeOf2
  v2:=Tryz.zeroValue2
  t3:=Tryz.underlying3
  a3:=Tryz.isAgg3
  z3:=Tryz.sizeOf3
  v3:=Tryz.zeroValue3
  t4:=Tryz.underlying4
  a4:=Tryz.isAgg4
  z4:=Tryz.sizeOf4
  v4:=Tryz.zeroValue4
  t5:=Tryz.underlying5
  a5:=Tryz.isAgg5
  z5:=Tryz.sizeOf5
  v5:=Tryz.zeroValue5
  t9:=Tryz.underlying9
  a9:=Tryz.isAgg9
  z9:=Tryz.sizeOf9
  v9:=Tryz.zeroValue9
  t20:=Tryz.underlying20
  a20:=Tryz.isAgg20
  z20:=Tryz.sizeOf20
  v20:=Tryz.zeroValue20
  t37:=Tryz.underlying22
  a37:=Tryz.isAgg22
  z37:=Tryz.sizeOf22
  v37:=Tryz.zeroValue22
  t46:=Tryz.underlying115
  a46:=Tryz.isAgg115
  z46:=Tryz.sizeOf115
  v46:=Tryz.zeroValue115
  t51:=Tryz.underlying172
  a51:=Tryz.isAgg172
  z51:=Tryz.sizeOf172
  v51:=Tryz.zeroValue172
  t53:=Tryz.underlying155
  a53:=Tryz.isAgg155
  z53:=Tryz.sizeOf155
  v53:=Tryz.zeroValue155
  t171:=Tryz.underlying154
  a171:=Tryz.isAgg154
  z171:=Tryz.sizeOf154
  v171:=Tryz.zeroValue154
  t173:=Tryz.underlying158
  a173:=Tryz.isAgg158
  z173:=Tryz.sizeOf158
  v173:=Tryz.zeroValue158
  t212:=Tryz.underlying171
  a212:=Tryz.isAgg171
  z212:=Tryz.sizeOf171
  v212:=Tryz.zeroValue171
  t213:=Tryz.underlying173
  a213:=Tryz.isAgg173
  z213:=Tryz.sizeOf173
  t232:=Tryz.underlying206
  a232:=Tryz.isAgg206
  z232:=Tryz.sizeOf206
  v232:=Tryz.zeroValue206
  t233:=Tryz.underlying207
  a233:=Tryz.isAgg207
  z233:=Tryz.sizeOf207
  v233:=Tryz.zeroValue207
  g17:=by kernel_rfl
  g18:=by kernel_rfl
  g19:=by kernel_rfl
  i0:=by kernel_rfl
  i2:=by kernel_rfl
  i3:=by kernel_rfl
  i4:=by kernel_rfl
  i5:=by kernel_rfl
  i9:=by kernel_rfl
  i20:=by kernel_rfl
  i37:=by kernel_rfl
  i46:=by kernel_rfl
  i51:=by kernel_rfl
  i53:=by kernel_rfl
  i171:=by kernel_rfl
  i173:=by kernel_rfl
  i212:=by kernel_rfl
  i232:=by kernel_rfl
  i233:=by kernel_rfl
  m17:=by kernel_rfl
  m18:=by kernel_rfl
  m19:=by kernel_rfl}
def vz:Go.Shelf.Ren:=⟨fun|156=>82|165=>120|166=>37|169=>38|240=>84|241=>136|276=>121|277=>156|n=>n,fun|31=>38|9=>9|3=>3|4=>4|0=>0|20=>20|72=>68|76=>72|70=>66|37=>22|75=>71|127=>104|164=>130|5=>5|80=>74|n=>n,fun|n=>n⟩
theorem vy:Go.Proofs.Lays.n156 Tryz.prog vz:={
  mixed:=by kernel_rfl
  f156:=Tryz.func82.trans (congrArg some (by kernel_rfl))
  f165:=Tryz.func120.trans (congrArg some (by kernel_rfl))
  f166:=Tryz.func37.trans (congrArg some (by kernel_rfl))
  f169:=Tryz.func38.trans (congrArg some (by kernel_rfl))
  f240:=Tryz.func84.trans (congrArg some (by kernel_rfl))
  f241:=Tryz.func136.trans (congrArg some (by kernel_rfl))
  f276:=Tryz.func121.trans (congrArg some (by kernel_rfl))
  f277:=Tryz.func156.trans (congrArg some (by kernel_rfl))
  t0:=Tryz.underlying0
  a0:=Tryz.isAgg0
  z0:=Tryz.sizeOf0
  v0:=Tryz.zeroValue0
  t3:=Tryz.underlying3
  a3:=Tryz.isAgg3
  z3:=Tryz.sizeOf3
  v3:=Tryz.zeroValue3
  t4:=Tryz.underlying4
  a4:=Tryz.isAgg4
  z4:=Tryz.sizeOf4
  v4:=Tryz.zeroValue4
  t9:=Tryz.underlying9
  a9:=Tryz.isAgg9
  z9:=Tryz.sizeOf9
  v9:=Tryz.zeroValue9
  t20:=Tryz.underlying20
  a20:=Tryz.isAgg20
  z20:=Tryz.sizeOf20
  v20:=Tryz.zeroValue20
  t31:=Tryz.underlying38
  a31:=Tryz.isAgg38
  z31:=Tryz.sizeOf38
  v31:=Tryz.zeroValue38
  t37:=Tryz.underlying22
  a37:=Tryz.isAgg22
  z37:=Tryz.sizeOf22
  v37:=Tryz.zeroValue22
  t70:=Tryz.underlying66
  a70:=Tryz.isAgg66
  z70:=Tryz.sizeOf66
  v70:=Tryz.zeroValue66
  t72:=Tryz.underlying68
  a72:=Tryz.isAgg68
  z72:=Tryz.sizeOf68
  v72:=Tryz.zeroValue68
  t75:=Tryz.underlying71
  a75:=Tryz.isAgg71
  z75:=Tryz.sizeOf71
  v75:=Tryz.zeroValue71
  t76:=Tryz.underlying72
  a76:=Tryz.isAgg72
  z76:=Tryz.sizeOf72
  v76:=Tryz.zeroValue72
  t127:=Tryz.underlying104
  a127:=Tryz.isAgg104
  z127:=Tryz.sizeOf104
  v127:=Tryz.zeroValue104
  t164:=Tryz.underlying130
  a164:=Tryz.isAgg130
  z164:=Tryz.sizeOf130
  v164:=Tryz.zeroValue130}
theorem vE:Builder.Extra Tryz.prog vz:={
  sizeBuilder:=by kernel_rfl
  liesBuilder:=by kernel_rfl
  t5:=Tryz.underlying5
  a5:=Tryz.isAgg5
  z5:=Tryz.sizeOf5
  v5:=Tryz.zeroValue5
  infoByte:=by kernel_rfl
  cellsByte:=by kernel_rfl
  sizeByte:=by kernel_rfl
  neB5:=by decide}
end P
namespace Q
open Go.RowKit WW.bc
theorem ak {α:Type} {c:Prop} [Decidable c] (h:c) {f g:Nat→Option α} {r:α} (k:Ev f r):Ev (fun n=>if c then f n else g n) r:=by
  simp only[ai h];exact k
theorem aH {α:Type} {c:Prop} [Decidable c] (h:¬c) {f g:Nat→Option α} {r:α} (k:Ev g r):Ev (fun n=>if c then f n else g n) r:=by
  simp only[aj h];exact k
theorem oa {α:Type} {c:Prop} [Decidable c] {f g:Nat→Option α} {r:α} (k1:c→Ev f r) (k2:¬c→Ev g r):Ev (fun n=>if c then f n else g n) r:=by
  by_cases h:c
  · exact ak h (k1 h)
  · exact aH h (k2 h)
theorem aQ {α β:Type} {x:Option α} {f:Nat→α→Option β} {a:α} {r:β} (h:x=some a) (k:Ev (fun n=>f n a) r):Ev (fun n=>x.bind (f n)) r:=by
  simp only[h,az];exact k
theorem evs {α:Type} {a b:α} (h:a=b):Ev (fun _=>some a) b:=h▸Ev.now a
theorem yg {α:Type} {g:Nat→Option α} {a b:α} (h:Ev g a) (e:a=b):Ev g b:=e▸h
theorem bE {α:Type} {c:Prop} [Decidable c] (h:c) {f:Nat→Option α} {r s:α} (k:Ev f r):Ev f (if c then r else s):=by rw[ai h];exact k
theorem bq {α:Type} {c:Prop} [Decidable c] (h:¬c) {f:Nat→Option α} {r s:α} (k:Ev f s):Ev f (if c then r else s):=by rw[aj h];exact k
theorem pq {c:Prop} [Decidable c] (h:c):decide c=true:=ah h
theorem pg {c:Prop} [Decidable c] (h:¬c):¬decide c=true:=by simpa using h
theorem down {P:Nat→Prop} {n:Nat} (he:P n) (hs:∀i,i<n→P (i+1)→P i) (i:Nat) (h:i≤n):P i:=by
  obtain⟨d,rfl⟩:∃d,n=i+d:=⟨n-i,by omega⟩;clear h
  induction d generalizing i with
  |zero=>exact he
  |succ d ih=>
   refine hs i (by omega) (ih (i+1) ?_ ?_)
   · rw[show i+1+d=i+(d+1)by omega];exact he
   · intro j hj;exact hs j (by omega)
theorem bU {n:Int} (h1: -9223372036854775808≤n) (h2:n≤9223372036854775807):wrap64 n=n:=by unfold wrap64;omega
theorem cn {n:Int} (h:(Lit.int .i64 n).wf=true): -9223372036854775808≤n∧n≤9223372036854775807:=by
  simp[Lit.wf,IntKind.min,IntKind.max,IntKind.signed,IntKind.bits]at h;omega
theorem oC (l:List Int) (i:Nat) (h:i<l.length):rd l (i:Int)=l[i]:=by
  unfold rd;simp[List.getD_eq_getElem?_getD,h]
theorem drop_cons {α:Type} (l:List α) (i:Nat) (h:i<l.length):l.drop i=l[i]::l.drop (i+1):=List.drop_eq_getElem_cons h
theorem kM {α:Type} (l:List α):l.drop l.length=[]:=List.drop_eq_nil_of_le (Nat.le_refl _)
end Q
namespace P
open Go.RowKit Go.Sort WW.bc
structure Plain {α:Type} (d:Kd α) (enc:α→List Value):Prop where
  len:∀x,(enc x).length=d.sz
  pos:0<d.sz
  of:∀{w base ok x cs},d.M w base ok x cs→cs=enc x
  make:∀w base ok x,d.M w base ok x (enc x)
theorem rE (w:World) (g j:Nat) (f:Array Value→Array Value):(mapBlock w g f).heap[j]? =if g=j then w.heap[j]?.map (onCells f)else w.heap[j]? :=by
  unfold mapBlock;simp only[Array.getElem?_modify]
section
variable {α:Type} [Inhabited α] {d:Kd α} {e base g cap:Nat} {W:World} {ok:Nat→Prop} {xs:List α} {enc:α→List Value}
theorem s8 {inner:List Value} {k i c:Nat} (hc:c<k):((inner.drop (i*k)).take k)[c]? =inner[i*k+c]? :=by
  rw[List.getElem?_take_of_lt hc,List.getElem?_drop]
theorem yE (hp:Plain d enc) (h:d.R e W base ok (.slice (some ⟨g,0,none⟩) xs.length cap) xs):HoldsK enc d.sz W g 0 xs.toArray:=by
  obtain⟨_,inner,ho,hr⟩:=h;rcases ho.2 with ⟨hn,_⟩|⟨g',cap',cur,hv,hg,hh,hle,hmx,hcs,u⟩
  · simp at hn
  obtain⟨rfl,rfl⟩:g=g'∧cap=cap':=by simp at hv;exact hv
  intro j hj;have hj':j<xs.length*d.sz:=by simpa using hj
  have hk:=hp.pos;have hi:j/d.sz<xs.length:=by rw[Nat.div_lt_iff_lt_mul hk];exact hj'
  have hc:j%d.sz<d.sz:=Nat.mod_lt _ hk;have hjj:j/d.sz*d.sz+j%d.sz=j:=by rw[Nat.mul_comm];exact Nat.div_add_mod j d.sz
  have e1:=hp.of (hr.2 (j/d.sz) xs[j/d.sz] (List.getElem?_eq_getElem hi));have e2:inner[j]? =(enc xs[j/d.sz])[j%d.sz]? :=by rw[←e1,s8 hc,hjj]
  have e3:cur[j]? =inner[j]? :=by
    rw[←u,List.getElem?_take_of_lt hj'];simp
  rw[get_flatK _ _ _ _ (by simpa using hj'),Nat.zero_add];refine⟨?_,aD hh j⟩;rw[di hh j,e3,e2];have hl:j%d.sz<(enc xs[j/d.sz]).length:=by rw[hp.len];exact hc
  simp[hi,hl]
end
theorem BB {α:Type} [Inhabited α] {lt:α→α→Bool} {D D':Array α} (hp:PermIn 0 D.size D D') (hs:SortedIn lt 0 D.size D') (tot:∀a∈D.toList,∀b∈D.toList,a≠b→lt a b=true∨lt b a=true) (nd:D.toList.Nodup):
    D'.toList.Perm D.toList∧D'.toList.Pairwise (fun a b=>lt a b=true):=by
  have hsz:=hp.1
  have u:D'.toList.Perm D.toList:=by
    have:=hp.2.2;rw[Array.extract_eq_self_of_le (by omega),Array.extract_eq_self_of_le (by omega)]at this;exact this
  refine⟨u,?_⟩;have z:D'.toList.Nodup:=u.nodup_iff.mpr nd;rw[List.pairwise_iff_getElem];intro i j hi hj hij;have hi':i<D'.size:=by simpa using hi
  have hj':j<D'.size:=by simpa using hj
  have h1:=hs i j (Nat.zero_le _) hij (by omega);simp only[getElem!_pos D' i hi',getElem!_pos D' j hj']at h1
  have hne:D'.toList[i]≠D'.toList[j]:=by
    intro he;have:=(List.pairwise_iff_getElem.1 z) i j hi hj hij;exact this he
  rcases tot D'.toList[i] (u.mem_iff.1 (List.getElem_mem hi)) D'.toList[j] (u.mem_iff.1 (List.getElem_mem hj)) hne with h|h
  · exact h
  · simp only[Array.getElem_toList]at h;rw[h]at h1;cases h1
end P
namespace Q
open Go.RowKit Go.Deep Go.ChangeShapes Go.WideShapes WW.bc
def gw {α:Type} (P:Program) (w:World) (d:Kd α) (T:TypeId) (G:α→Prop):Prop:=
  ∀(H:Type) (enc:TypeId×Value→H) (base:Nat) (spare:Nat→Bool) (held:Bool) (fuel:Nat) (cs:List Value) (x:DataW H×List MemPlace),
   DataW.trod enc P w base spare held fuel T cs=some x→∃v,d.K w v cs∧G v
def nK {α:Type} (P:Program) (w:World) (d:Kd α) (off:Nat) (fs:Array Field) (i:Nat) (G:α→Prop):Prop:=
  ∀(H:Type) (enc:TypeId×Value→H) (base:Nat) (spare:Nat→Bool) (held:Bool) (fuel:Nat) (cs:List Value),cs.length=off+d.sz→
   (∀j f,i≤j→fs[j]? =some f→∃y:DataW H×List MemPlace,DataW.trod enc P w base spare held fuel f.type ((cs.drop f.offset).take (P.cellsOf f.type))=some y)→∃v,d.K w v (cs.drop off)∧G v
section
variable {P:Program} {w:World}
theorem gw.mono {α:Type} {d:Kd α} {T:TypeId} {G G':α→Prop} (h:gw P w d T G) (hg:∀x,G x→G' x):gw P w d T G':=by
  intro H enc base spare held fuel cs x hx;obtain⟨v,hv,g⟩:=h H enc base spare held fuel cs x hx;exact⟨v,hv,hg v g⟩
theorem gw.int {k:IntKind} {T:TypeId} (ht:P.underlying T=some (.int k)):gw P w (Kd.int k) T (fun n=>(Lit.int k n).wf=true):=by
  intro H enc base spare held fuel cs x hx;obtain⟨n,rfl,_,hw⟩:=DataW.trod_int ht hx;exact⟨n,rfl,hw⟩
theorem gw.slice {α:Type} (z:α) {d:Kd α} {E T:TypeId} {G:α→Prop} (ht:P.underlying T=some (.slice E)) (hC:P.cellsOf E=d.sz) (h:gw P w d E G):
    gw P w (Kd.slice E d) T (fun l=>l.length≤9223372036854775807∧∀x∈l,G x):=by
  haveI:Inhabited α:=⟨z⟩
  intro H enc base spare held fuel cs x hx;rcases open_slice ht hx with ⟨rfl,_⟩|⟨a,len,cap,m,n,D,Pl,rfl,hb,hl,hm,I,_,hi⟩
  · exact⟨[],⟨none,0,rfl,Nat.le_refl _,rfl,by simp,fun h=>absurd h (by simp)⟩,by simp,by simp⟩
  · have J:len≤m:=by rw[I];split<;>omega
    obtain⟨V,hV⟩:=choose_lt (α:=α) (n:=len) (p:=fun i v=>G v∧∃c,c.length=d.sz∧d.K w v c∧∀j u,c[j]? =some u→w.cell? (a.add (i*d.sz+j))=some u) (fun i hil=>by
      obtain⟨cs',h1,h2⟩:=hi i (by omega);obtain⟨v,hv,g⟩:=h H enc base spare held n cs' _ h2;obtain⟨_,F,hat⟩:=World.cells?_some h1;refine⟨v,g,cs',by rw[F,hC],hv,fun j u hu=> ?_⟩;have hj:j<P.cellsOf E:=(by rw[←F];exact(List.getElem?_eq_some_iff.1 hu).1);have:=hat j hj;rw[hC,Go.Deep.add_add]at this;rw[this,hu])
    refine⟨(List.range len).map V,⟨some a,cap,by simp,by simpa using hl,by simp,by have:=hm;unfold maxLen at this;simp;omega,fun _=>⟨a,rfl,fun j p hj=> ?_⟩⟩,?_⟩
    · have hj':j<len:=(by have:=(List.getElem?_eq_some_iff.1 hj).1;simpa using this);obtain rfl:V j=p:=(by simpa[hj']using hj);exact(hV j hj').2
    · refine⟨by have:=hm;unfold maxLen at this;simp;omega,fun x hx=> ?_⟩;obtain⟨i,hi,rfl⟩:=List.mem_map.1 hx;exact(hV i (List.mem_range.1 hi)).1
theorem nK.one {α:Type} {d:Kd α} {off i:Nat} {fs:Array Field} {f:Field} {G:α→Prop} (hf:fs[i]? =some f) (h:gw P w d f.type G) (ho:f.offset=off) (hc:P.cellsOf f.type=d.sz):nK P w d off fs i G:=by
  intro H enc base spare held fuel cs hlen u;obtain⟨y,hy⟩:=u i f (Nat.le_refl _) hf;rw[ho,hc,List.take_of_length_le (by simp[hlen])]at hy;exact h H enc base spare held fuel _ _ hy
theorem nK.more {α β:Type} {d:Kd α} {d2:Kd β} {off i:Nat} {fs:Array Field} {f:Field} {G:α→Prop} {u:β→Prop} (hf:fs[i]? =some f) (h:gw P w d f.type G) (ho:f.offset=off) (hc:P.cellsOf f.type=d.sz)
    (h2:nK P w d2 (off+d.sz) fs (i+1) u):nK P w (Kd.pair d d2) off fs i (fun x=>G x.1∧u x.2):=by
  intro H enc base spare held fuel cs hlen z;have hlen':cs.length=off+(d.sz+d2.sz):=hlen;obtain⟨y,hy⟩:=z i f (Nat.le_refl _) hf;rw[ho,hc]at hy;obtain⟨v,hv,g⟩:=h H enc base spare held fuel _ _ hy;obtain⟨v2,hv2,g2⟩:=h2 H enc base spare held fuel cs (by omega) (fun j f' hj hf'=>z j f' (by omega) hf');refine⟨(v,v2),⟨_,_,?_,hv,hv2⟩,g,g2⟩;rw[←List.drop_drop,List.take_append_drop]
theorem gw.string {T:TypeId} (ht:P.underlying T=some .string):gw P w Kd.string T (fun s=>s.size≤maxLen):=by
  intro H enc base spare held fuel cs x hx;obtain⟨s,rfl,_,hs⟩:=DataW.trod_string ht hx;exact⟨s,rfl,hs⟩
end
end Q
namespace P
open Go.RowKit WW.bc WW.bY WW.bZ
attribute [local go_sem] cP cT cS cW cR cV cQ cU
def tv:Option Int→Value
 |none=> .nilIface
 |some c=> .iface 148 (.int .i64 c)
theorem eh:tv none= .nilIface:=rfl
theorem ek (c:Int):tv (some c)= .iface 148 (.int .i64 c):=rfl
theorem info3:(Tryz.prog.info? 3).map (fun i=>(i.zero,i.size,i.bytes))=some (some (.int .i64 0),1,8):=by kernel_rfl
theorem yH:(Tryz.prog.info? 4).map (fun i=>(i.zero,i.size,i.bytes))=some (some (.bool false),1,1):=by kernel_rfl
theorem rq:(Tryz.prog.info? 9).map (fun i=>(i.zero,i.size,i.bytes))=some (some (.string ⟨#[]⟩),1,16):=by kernel_rfl
theorem tJ:(Tryz.prog.info? 57).map (fun i=>(i.zero,i.size,i.bytes))=some (some (.agg #[(.int .i64 0),(.int .i64 0),(.int .i64 0),(.int .i64 0)]),4,32):=by kernel_rfl
theorem m_:(Tryz.prog.info? 64).map (fun i=>(i.zero,i.size,i.bytes))=some (some (.agg #[(.int .i64 0),(.int .i64 0),(.int .i64 0),(.int .i64 0)]),4,32):=by kernel_rfl
theorem om:(Tryz.prog.info? 110).map (fun i=>(i.zero,i.size,i.bytes))=some (some (.agg #[(.int .i64 0),(.int .i64 0),(.int .i64 0),(.int .i64 0)]),4,32):=by kernel_rfl
structure ag where
 f0:Int
 f1:Int
 f2:Int
 f3:Int
def df:ag:=⟨(0:Int),(0:Int),(0:Int),(0:Int)⟩
def aN:Kd ag:=Kd.pJ (Kd.pair (Kd.int .i64) (Kd.pair (Kd.int .i64) (Kd.pair (Kd.int .i64) (Kd.int .i64)))) (fun x:ag=>(x.f0,x.f1,x.f2,x.f3))
theorem yR {w:World} {x:ag} {cs:List Value} (h:aN.K w x cs):cs=[.int .i64 x.f0,.int .i64 x.f1,.int .i64 x.f2,.int .i64 x.f3]:=by
 obtain⟨_,_,rfl,rfl,⟨_,_,rfl,rfl,⟨_,_,rfl,rfl,rfl⟩⟩⟩:=h;exact rfl
theorem na {w:World} {base:Nat} {ok:Nat→Prop} {x:ag} {cs:List Value} (h:aN.M w base ok x cs):cs=[.int .i64 x.f0,.int .i64 x.f1,.int .i64 x.f2,.int .i64 x.f3]:=by
 obtain⟨_,_,rfl,rfl,⟨_,_,rfl,rfl,⟨_,_,rfl,rfl,rfl⟩⟩⟩:=h;exact rfl
theorem pK (w:World) (base:Nat) (ok:Nat→Prop) (x:ag):aN.M w base ok x [.int .i64 x.f0,.int .i64 x.f1,.int .i64 x.f2,.int .i64 x.f3]:=⟨[.int .i64 x.f0],[.int .i64 x.f1,.int .i64 x.f2,.int .i64 x.f3],rfl,rfl,⟨[.int .i64 x.f1],[.int .i64 x.f2,.int .i64 x.f3],rfl,rfl,⟨[.int .i64 x.f2],[.int .i64 x.f3],rfl,rfl,rfl⟩⟩⟩
def ar (xs:List ag) (i:Int):ag:=xs.getD i.toNat df
theorem eN {w:World} {A:Option Addr} {n:Nat} {xs:List ag} (h:Kd.C aN w A n xs) (i:Int) (h0:0≤i) (h1:i<n):∃ad,A=some ad∧w.cell? (ad.add (i.toNat*4))=some (.int .i64 (ar xs i).f0)∧w.cell? ⟨(ad.add (i.toNat*4)).block,(ad.add (i.toNat*4)).off+1,none⟩=some (.int .i64 (ar xs i).f1)∧w.cell? ⟨(ad.add (i.toNat*4)).block,(ad.add (i.toNat*4)).off+2,none⟩=some (.int .i64 (ar xs i).f2)∧w.cell? ⟨(ad.add (i.toNat*4)).block,(ad.add (i.toNat*4)).off+3,none⟩=some (.int .i64 (ar xs i).f3):=by
 obtain⟨ad,c,e,_,hK,hc0⟩:=Kd.qz h df i h0 h1;have hc:∀j u,c[j]? =some u→w.cell? (ad.add (i.toNat*4+j))=some u:=hc0;obtain rfl:=yR hK;exact⟨ad,e,hc 0 _ rfl,by rw[←kK _ _ 1 (by omega)];exact hc 1 _ rfl,by rw[←kK _ _ 2 (by omega)];exact hc 2 _ rfl,by rw[←kK _ _ 3 (by omega)];exact hc 3 _ rfl⟩
structure bH where
 f0:Int
 f1:Int
def CB:bH:=⟨(0:Int),(0:Int)⟩
def pL:Kd bH:=Kd.pJ (Kd.pair (Kd.int .i64) (Kd.int .i64)) (fun x:bH=>(x.f0,x.f1))
theorem yV {w:World} {x:bH} {cs:List Value} (h:pL.K w x cs):cs=[.int .i64 x.f0,.int .i64 x.f1]:=by
 obtain⟨_,_,rfl,rfl,rfl⟩:=h;exact rfl
theorem yX {w:World} {base:Nat} {ok:Nat→Prop} {x:bH} {cs:List Value} (h:pL.M w base ok x cs):cs=[.int .i64 x.f0,.int .i64 x.f1]:=by
 obtain⟨_,_,rfl,rfl,rfl⟩:=h;exact rfl
theorem yU (w:World) (base:Nat) (ok:Nat→Prop) (x:bH):pL.M w base ok x [.int .i64 x.f0,.int .i64 x.f1]:=⟨[.int .i64 x.f0],[.int .i64 x.f1],rfl,rfl,rfl⟩
structure S64 where
 f0:bH
 f1:Int
 f2:Int
def z64:S64:=⟨CB,(0:Int),(0:Int)⟩
def aK:Kd S64:=Kd.pJ (Kd.pair pL (Kd.pair (Kd.int .i64) (Kd.int .i64))) (fun x:S64=>(x.f0,x.f1,x.f2))
theorem yY {w:World} {x:S64} {cs:List Value} (h:aK.K w x cs):cs=[.int .i64 x.f0.f0,.int .i64 x.f0.f1,.int .i64 x.f1,.int .i64 x.f2]:=by
 obtain⟨_,_,rfl,s0,⟨_,_,rfl,rfl,rfl⟩⟩:=h;obtain rfl:=yV s0;exact rfl
theorem nb {w:World} {base:Nat} {ok:Nat→Prop} {x:S64} {cs:List Value} (h:aK.M w base ok x cs):cs=[.int .i64 x.f0.f0,.int .i64 x.f0.f1,.int .i64 x.f1,.int .i64 x.f2]:=by
 obtain⟨_,_,rfl,s0,⟨_,_,rfl,rfl,rfl⟩⟩:=h;obtain rfl:=yX s0;exact rfl
theorem ke (w:World) (base:Nat) (ok:Nat→Prop) (x:S64):aK.M w base ok x [.int .i64 x.f0.f0,.int .i64 x.f0.f1,.int .i64 x.f1,.int .i64 x.f2]:=⟨[.int .i64 x.f0.f0,.int .i64 x.f0.f1],[.int .i64 x.f1,.int .i64 x.f2],rfl,(yU w base ok x.f0),⟨[.int .i64 x.f1],[.int .i64 x.f2],rfl,rfl,rfl⟩⟩
def aq (xs:List S64) (i:Int):S64:=xs.getD i.toNat z64
theorem eA {w:World} {A:Option Addr} {n:Nat} {xs:List S64} (h:Kd.C aK w A n xs) (i:Int) (h0:0≤i) (h1:i<n):∃ad,A=some ad∧w.cell? (ad.add (i.toNat*4))=some (.int .i64 (aq xs i).f0.f0)∧w.cell? ⟨(ad.add (i.toNat*4)).block,(ad.add (i.toNat*4)).off+1,none⟩=some (.int .i64 (aq xs i).f0.f1)∧w.cell? ⟨(ad.add (i.toNat*4)).block,(ad.add (i.toNat*4)).off+2,none⟩=some (.int .i64 (aq xs i).f1)∧w.cell? ⟨(ad.add (i.toNat*4)).block,(ad.add (i.toNat*4)).off+3,none⟩=some (.int .i64 (aq xs i).f2):=by
 obtain⟨ad,c,e,_,hK,hc0⟩:=Kd.qz h z64 i h0 h1;have hc:∀j u,c[j]? =some u→w.cell? (ad.add (i.toNat*4+j))=some u:=hc0;obtain rfl:=yY hK;exact⟨ad,e,hc 0 _ rfl,by rw[←kK _ _ 1 (by omega)];exact hc 1 _ rfl,by rw[←kK _ _ 2 (by omega)];exact hc 2 _ rfl,by rw[←kK _ _ 3 (by omega)];exact hc 3 _ rfl⟩
structure cd where
 f0:Int
 f1:Int
 f2:Int
 f3:Int
def vX:cd:=⟨(0:Int),(0:Int),(0:Int),(0:Int)⟩
def gZ:Kd cd:=Kd.pJ (Kd.pair (Kd.int .i64) (Kd.pair (Kd.int .i64) (Kd.pair (Kd.int .i64) (Kd.int .i64)))) (fun x:cd=>(x.f0,x.f1,x.f2,x.f3))
theorem yT {w:World} {x:cd} {cs:List Value} (h:gZ.K w x cs):cs=[.int .i64 x.f0,.int .i64 x.f1,.int .i64 x.f2,.int .i64 x.f3]:=by
 obtain⟨_,_,rfl,rfl,⟨_,_,rfl,rfl,⟨_,_,rfl,rfl,rfl⟩⟩⟩:=h;exact rfl
theorem yS (w:World) (base:Nat) (ok:Nat→Prop) (x:cd):gZ.M w base ok x [.int .i64 x.f0,.int .i64 x.f1,.int .i64 x.f2,.int .i64 x.f3]:=⟨[.int .i64 x.f0],[.int .i64 x.f1,.int .i64 x.f2,.int .i64 x.f3],rfl,rfl,⟨[.int .i64 x.f1],[.int .i64 x.f2,.int .i64 x.f3],rfl,rfl,⟨[.int .i64 x.f2],[.int .i64 x.f3],rfl,rfl,rfl⟩⟩⟩
def iw (xs:List cd) (i:Int):cd:=xs.getD i.toNat vX
theorem gF {w:World} {A:Option Addr} {n:Nat} {xs:List cd} (h:Kd.C gZ w A n xs) (i:Int) (h0:0≤i) (h1:i<n):∃ad,A=some ad∧w.cell? (ad.add (i.toNat*4))=some (.int .i64 (iw xs i).f0)∧w.cell? ⟨(ad.add (i.toNat*4)).block,(ad.add (i.toNat*4)).off+1,none⟩=some (.int .i64 (iw xs i).f1)∧w.cell? ⟨(ad.add (i.toNat*4)).block,(ad.add (i.toNat*4)).off+2,none⟩=some (.int .i64 (iw xs i).f2)∧w.cell? ⟨(ad.add (i.toNat*4)).block,(ad.add (i.toNat*4)).off+3,none⟩=some (.int .i64 (iw xs i).f3):=by
 obtain⟨ad,c,e,_,hK,hc0⟩:=Kd.qz h vX i h0 h1;have hc:∀j u,c[j]? =some u→w.cell? (ad.add (i.toNat*4+j))=some u:=hc0;obtain rfl:=yT hK;exact⟨ad,e,hc 0 _ rfl,by rw[←kK _ _ 1 (by omega)];exact hc 1 _ rfl,by rw[←kK _ _ 2 (by omega)];exact hc 2 _ rfl,by rw[←kK _ _ 3 (by omega)];exact hc 3 _ rfl⟩
end P
namespace WW.bY
open Go.RowKit WW.bc
section
variable {P:Program} {ops:Array Oper} {Q:Exit→Act→World→Prop} {md:Region.Mode} {S:World→Prop} {ds:List Nat} {T:Bool×List (List Nat×List Nat)} {B:List Nat} {oi oj:Oper} {v:Value} {fuel:Nat} {l l' lj:Array Bool} {a a':Act} {w:World}
theorem pA (i:Nat) (N:Option Tmp) (u:aW md ops=T) (h:bm P md ops Q S ds fuel l' a' w) (hi:ops[i]? =some oi:=by rfl) (hN:oi.dst=N:=by rfl)
    (hl:l.setIfInBounds i true=l':=by simp only[List.setIfInBounds_toArray,List.set_cons_zero,List.set_cons_succ];rfl) (hc:mS T l.toList l'.toList i=true:=by kernel_rfl)
    (hQ:∀c a w,Q (.panic c) (a.put oi.dst v) w→Q (.panic c) a w:=by exact fun _ _ _ h=>h) (hw:Region.wanted oi (yielded ops a.tmps)=true:=by rfl)
    (hy:∀w',(execOp a.eval oi).run P w'= .ok (.value v) w':=by intro w';go_simp;with_reducible rfl) (ha:a.put N v=a':=by simp only[Act.put,List.setIfInBounds_toArray,List.set_cons_zero,List.set_cons_succ,bJ,cu];rfl):
    bm P md ops Q S ds (fuel+1) l a w:=pZ l' hi hN (pc u hc) hQ (Or.inl ⟨hw,hy⟩) ha h
theorem pU (i:Nat) (N:Option Tmp) (u:aW md ops=T) (h:bm P md ops Q S ds fuel l' a' w) (hi:ops[i]? =some oi:=by rfl) (hN:oi.dst=N:=by rfl)
    (hl:l.setIfInBounds i true=l':=by simp only[List.setIfInBounds_toArray,List.set_cons_zero,List.set_cons_succ];rfl) (hc:mS T l.toList l'.toList i=true:=by kernel_rfl)
    (hQ:∀c a w,Q (.panic c) (a.put oi.dst undef) w→Q (.panic c) a w:=by exact fun _ _ _ h=>h) (hw:Region.wanted oi (yielded ops a.tmps)=false:=by rfl)
    (ha:a.put N undef=a':=by simp only[Act.put,List.setIfInBounds_toArray,List.set_cons_zero,List.set_cons_succ,bJ,cu];rfl):
    bm P md ops Q S ds (fuel+1) l a w:=pZ (v:=undef) l' hi hN (pc u hc) hQ (Or.inr ⟨hw,rfl⟩) ha h
theorem pT (i:Nat) (N:Option Tmp) (u:aW md ops=T) (HW:bL T.2 B=true) (hS:S w) (h:bm P md ops Q S ds fuel l' a' w) (hi:ops[i]? =some oi:=by rfl) (hN:oi.dst=N:=by rfl)
    (hl:l.setIfInBounds i true=l':=by simp only[List.setIfInBounds_toArray,List.set_cons_zero,List.set_cons_succ];rfl) (hc:oT T B ds l.toList l'.toList i=true:=by kernel_rfl)
    (hQ:∀c a w,Q (.panic c) (a.put oi.dst v) w→Q (.panic c) a w:=by exact fun _ _ _ h=>h) (hw:Region.wanted oi (yielded ops a.tmps)=true:=by rfl)
    (hy:∀w',S w'→(execOp a.eval oi).run P w'= .ok (.value v) w':=by intro w' s_;(try dsimp only at s_);repeat(have:=s_.1;replace s_:=s_.2);go_simp;with_reducible rfl) (ha:a.put N v=a':=by simp only[Act.put,List.setIfInBounds_toArray,List.set_cons_zero,List.set_cons_succ,bJ,cu];rfl):
    bm P md ops Q S ds (fuel+1) l a w:=oU l' hi hN (r9 u HW hc) hQ (Or.inl ⟨hw,hy⟩) hS ha h
theorem gL {rest:List Oper} {f:FuncId} {fn:Func} {os:Array Operand} {ts:Array TypeId} (N:Option Tmp) (hf:P.funcs[f]? =some fn) (args:Array Value)
    (h:Calls P f args w fun e w'=>∃v,e= .returned v∧wpList P ops Q rest (a.put N v) w') (hd:oi.dst=N:=by rfl) (hg:oi.guard=none:=by rfl) (hname:(fn.name== "runtime.NumGoroutine")=false:=by kernel_rfl) (hb:fn.body.isSome=true:=by rfl)
    (hop:oi.op= .call {callee:= .value (.func f),args:=os,argTypes:=ts}:=by rfl) (hargs:os.map a.eval=args:=by(try simp only[List.map_toArray,List.map_cons,List.map_nil]);first|done|rfl|(simp only[List.length_drop,List.length_take];rfl)):
    wpList P ops Q (oi::rest) a w:=kP N hd hg hf hname hb args hop hargs h
end
end WW.bY
namespace P
open Go.RowKit WW.bc WW.bY WW.bZ
theorem cY {w W W':World} {g:Nat} {row:Option Nat} (h:ae (bh w W g row)) (k:bh w W g row→bh w W' g row:=by intro h_;repeat(first|(with_reducible first|exact h_|apply bh.lJ|apply mi|apply mh|apply lF|refine rr ?_ (ae.out (self:=by assumption)) _)|exact h_)):bh w W' g row:=k h.out
theorem cF {w W:World} {a:Addr} {g:Nat} {v:Option Value} (hn:a.block≠g) (h:w.cell? a=v) (k:a.block≠g→w.cell? a=v→W.cell? a=v:=by intro n_ h_;repeat(first|(with_reducible exact h_)|refine(cell_far (p:=⟨_,_,none⟩) n_ _).trans ?_)):W.cell? a=v:=k hn h
theorem nL {w W:World} {g g2:Nat} {o:Obj} (_h:ae (w.heap[g]? =some o)) (hg:g2=W.heap.size) [k:ae (W.heap[g]? =some o)]:g≠g2:=by rw[hg];exact Nat.ne_of_lt (dU k.out)
theorem nG {w W:World} {g g2:Nat} {o:Obj} (_h:ae (w.heap[g]? =some o)) (hg:g2=W.heap.size) [k:ae (W.heap[g]? =some o)]:g2≠g:=by rw[hg];exact Nat.ne_of_gt (dU k.out)
theorem bb {w W W1:World} {g:Nat} {o:Obj} (_h:ae (w.heap[g]? =some o)) (hb:Below W.heap.size W W1) [k:ae (W.heap[g]? =some o)]:W1.heap[g]? =some o:=iU k.out hb
theorem bg {w W W1:World} {g:Nat} {o:Obj} {row:Option Nat} (_h:ae (w.heap[g]? =some o)) (hw:W.grownBy W1 row) (hne:some g≠row) [k:ae (W.heap[g]? =some o)]:W1.heap[g]? =some o:=po k.out hw hne
theorem cz {w:World} {g:Nat} {cs:Array Value} {t:TypeId} {v:Value} (h:ae (w.heap[g]? =some (.cells cs t (0,0)))) (i:Nat) (e:cs[i]? =some v:=by(simp only[List.getElem?_toArray,List.getElem?_cons_zero,List.getElem?_cons_succ]);try rfl):w.cell? ⟨g,i,none⟩=some v:=(di h.out i).trans e
theorem A_ {p:Prop} (h:p):ae p:=⟨h⟩
theorem eR {p:Prop} (h:p:=by first|rfl|(simp[eh,ek]<;>rfl)|(simp[*,eh,ek]<;>rfl)):p:=h
theorem bX {P:Program} {ops:Array Oper} {rest:List Oper} {o:Oper} {a:Act} {Q:Exit→Act→World→Prop} {W:World} {N:Tmp} {cs:Array Value} {t:TypeId} (h:∀g,g=W.heap.size→∀w1,w1.heap[g]? =some (.cells cs t (0,0))→Below W.heap.size W w1→wpList P ops Q rest (a.put o.dst (.pointer (some ⟨g,0,none⟩))) w1)
    (hgd:o.guard=none:=by rfl) (hd:o.dst=some N:=by rfl) (hrun:(execOp a.eval o).run P W= .ok (.value (.pointer (some ⟨W.heap.size,0,none⟩))) (W.alloc (.cells cs t (0,0))):=by first|(go_simp;done)|(go_simp;rfl)):wpList P ops Q (o::rest) a W:=lY hgd hd hrun h
theorem oD {p:Prop} [Decidable p] (h:decide p=true:=by first|(with_reducible assumption)|assumption):p:=of_decide_eq_true h
theorem hW {w W:World} {a:Addr} {v:Value} (u:ae (Below w.heap.size w W)) (h:w.cell? a=some v):W.cell? a=some v:=(u.out.cell (World.block_lt_of_cell? w _ h)).trans h
theorem eS {p:Prop} (h:p:=by first|rfl|(simp;done)|(simp[*];done)):p:=h
end P
namespace P
set_option maxHeartbeats 8000000
set_option maxRecDepth 100000
open Go.RowKit WW.bc WW.bY WW.bZ
attribute [local go_sem] cP cT cS cW cR cV cQ cU
def ni.f (l0:List Int):Option (Bool):=some (decide ((l0.length:Int)>1048576))
theorem ni.c (A0:Option Addr) (c0:Nat) (l0:List Int) (r:Bool) (w:World) (u:Kd.C (Kd.int .u8) w A0 l0.length l0) (hc0:l0.length≤c0) (h:ni.f l0=some r):
  Calls Tryz.prog 6 #[.slice A0 l0.length c0] w fun e w'=>e= .returned (.bool r)∧bf w w':=by
 have D:=A_ u;have z:=A_ hc0;clear u hc0;have H:(some (decide ((l0.length:Int)>1048576)))=some r:=h;clear h;obtain rfl:=aA H;go_enter Tryz.func6,Tryz.ntmps6;go_wp2;go_ret;exact⟨eS,by repeat(first|exact bf.refl _|apply bf.step)⟩
def aX (w0 W:World) (g:Nat) (f0:List Int) (f1:Int) (f2:Int):Prop:=∃A0 c0,W.heap[g]? =some (.cells #[.slice A0 f0.length c0,.int .i64 f1,.int .i64 f2] 82 (0,0))∧w0.heap.size≤g∧Kd.C (Kd.int .u8) w0 A0 f0.length f0
theorem aX.grown {w0 W:World} {g:Nat} {f0:List Int} {f1:Int} {f2:Int} {W1:World} {row:Option Nat} (h:aX w0 W g f0 f1 f2) (hw:W.grownBy W1 row) (hne:some g≠row):aX w0 W1 g f0 f1 f2:=by
 obtain⟨A0,c0,hb,hg,u⟩:=h;exact⟨A0,c0,po hb hw hne,hg,u⟩
theorem aX.kept {w0 W:World} {g:Nat} {f0:List Int} {f1:Int} {f2:Int} {W1:World} {S:Nat→Prop} (h:aX w0 W g f0 f1 f2) (hk:Kept W W1 S) (hne:¬S g):aX w0 W1 g f0 f1 f2:=by
 obtain⟨A0,c0,hb,hg,u⟩:=h;exact⟨A0,c0,xG hb hk hne,hg,u⟩
theorem aX.below {w0 W:World} {g:Nat} {f0:List Int} {f1:Int} {f2:Int} {W1:World} (h:aX w0 W g f0 f1 f2) (hw:Below W.heap.size W W1):aX w0 W1 g f0 f1 f2:=h.grown (tG hw none) (by simp)
theorem aX.alloc {w0 W:World} {g:Nat} {f0:List Int} {f1:Int} {f2:Int} (h:aX w0 W g f0 f1 f2) (o:Obj):aX w0 (W.alloc o) g f0 f1 f2:=h.below (bM (Below.refl _ _) o)
theorem aX.drewN {w0 W:World} {g:Nat} {f0:List Int} {f1:Int} {f2:Int} (h:aX w0 W g f0 f1 f2) (m:Nat):aX w0 (W.drewN m) g f0 f1 f2:=h
theorem aX.drew {w0 W:World} {g:Nat} {f0:List Int} {f1:Int} {f2:Int} (h:aX w0 W g f0 f1 f2):aX w0 W.drew g f0 f1 f2:=h
theorem aX.at_ {w0 W:World} {g:Nat} {f0:List Int} {f1:Int} {f2:Int} {w':World} {m:Nat} (hq:W.drewN m=w') (h:aX w0 W g f0 f1 f2):aX w0 w' g f0 f1 f2:=by subst hq;exact aX.drewN h m
theorem aX.apart {w0 W:World} {g:Nat} {f0:List Int} {f1:Int} {f2:Int} {α:Type} {d:Kd α} {e:Nat} {base:Nat} {ok:Nat→Prop} {v:Value} {xs:List α} (h:aX w0 W g f0 f1 f2) (ho:d.R e W base ok v xs) (ht:∀q,q∈e::d.E→q≠82):d.R e W base (fun k=>ok k∧k≠g) v xs:=by
 obtain⟨A0,c0,hb,hg,u⟩:=h;exact Kd.lz ho hb ht
theorem aX.kX {w0 W:World} {g:Nat} {f0:List Int} {f1:Int} {f2:Int} {α:Type} {d:Kd α} {e:Nat} {base:Nat} {ok:Nat→Prop} {v:Value} {xs:List α} (h:aX w0 W g f0 f1 f2) (ho:d.R e W base ok v xs) (ht:e≠82):some g≠v.ownBlock:=by
 obtain⟨A0,c0,hb,hg,u⟩:=h;exact Kd.jY ho hb ht
theorem aX.lt {w0 W:World} {g:Nat} {f0:List Int} {f1:Int} {f2:Int} (h:aX w0 W g f0 f1 f2):g<W.heap.size:=by
 obtain⟨A0,c0,hb,hg,u⟩:=h;exact dU hb
theorem aX.ge {w0 W:World} {g:Nat} {f0:List Int} {f1:Int} {f2:Int} (h:aX w0 W g f0 f1 f2):w0.heap.size≤g:=by
 obtain⟨A0,c0,hb,hg,u⟩:=h;exact hg
theorem aX.uj {w0 W:World} {g:Nat} {f0:List Int} {f1:Int} {f2:Int} {a:Nat} {cs:Array Value} {t:TypeId} {fr:Nat×Nat} (h:aX w0 W g f0 f1 f2) (hb2:W.heap[a]? =some (.cells cs t fr)) (ht:t≠82):g≠a:=by
 obtain⟨A0,c0,hb,hg,u⟩:=h;rintro rfl;rw[hb]at hb2;injection hb2 with hb2;injection hb2 with _ ht2;exact ht ht2.symm
theorem aX.far {w0 W:World} {g:Nat} {f0:List Int} {f1:Int} {f2:Int} {p:Addr} (h:aX w0 W g f0 f1 f2) (hne:g≠p.block) (u:Value):aX w0 (W.setCell p u) g f0 f1 f2:=by
 obtain⟨A0,c0,hb,hg,z⟩:=h;exact⟨A0,c0,eO hb hne u,hg,z⟩
theorem s5 {W:World} {g:Nat} {A0:Option Addr} {c0:Nat} {f0:List Int} {f1:Int} {f2:Int} (h:W.heap[g]? =some (.cells #[.slice A0 f0.length c0,.int .i64 f1,.int .i64 f2] 82 (0,0))):W.cell? ⟨g,0,none⟩=some (.slice A0 f0.length c0):=(di h 0).trans rfl
theorem s6 {W:World} {g:Nat} {A0:Option Addr} {c0:Nat} {f0:List Int} {f1:Int} {f2:Int} (h:W.heap[g]? =some (.cells #[.slice A0 f0.length c0,.int .i64 f1,.int .i64 f2] 82 (0,0))):W.cell? ⟨g,1,none⟩=some (.int .i64 f1):=(di h 1).trans rfl
theorem aX.Bi {w0 W:World} {g:Nat} {f0:List Int} {f1:Int} {f2:Int} (h:aX w0 W g f0 f1 f2) (x:Int):aX w0 (W.setCell ⟨g,1,none⟩ (.int .i64 x)) g f0 x f2:=by
 obtain⟨A0,c0,hb,hg,u⟩:=h;exact⟨A0,c0,by simpa using nU hb 1 (.int .i64 x),hg,u⟩
theorem s7 {W:World} {g:Nat} {A0:Option Addr} {c0:Nat} {f0:List Int} {f1:Int} {f2:Int} (h:W.heap[g]? =some (.cells #[.slice A0 f0.length c0,.int .i64 f1,.int .i64 f2] 82 (0,0))):W.cell? ⟨g,2,none⟩=some (.int .i64 f2):=(di h 2).trans rfl
theorem aX.Bj {w0 W:World} {g:Nat} {f0:List Int} {f1:Int} {f2:Int} (h:aX w0 W g f0 f1 f2) (x:Int):aX w0 (W.setCell ⟨g,2,none⟩ (.int .i64 x)) g f0 f1 x:=by
 obtain⟨A0,c0,hb,hg,u⟩:=h;exact⟨A0,c0,by simpa using nU hb 2 (.int .i64 x),hg,u⟩
theorem bW {p q:Prop} (h:ae p) (k:p→q:=by intro h_;repeat(first|(with_reducible first|exact h_|apply aX.alloc|apply aX.drewN|apply aX.drew|apply aX.Bi|apply aX.Bj|refine aX.far ?_ (ae.out (self:=by assumption)) _)|exact h_)):q:=k h.out
theorem cH {p q:Prop} (h:ae p) (k:p→q:=by intro h_;repeat(first|(with_reducible first|exact h_|apply bM|apply dp|apply cv|refine dZ ?_ (ae.out (self:=by assumption))|refine dZ ?_ (by(try dsimp only);exact aX.ge (ae.out (self:=by assumption))))|exact h_)):q:=k h.out
def fG.l0:Nat→List Int→Int→Int→Option (List Int×Int×Int)
 |0,_,_,_=>none
 |k+1,x0,x3,u=>if u<(x0.length:Int)then(if u<4000 then(if 0≤u then(fG.l0 k x0 (Go.bits .and .i64 (wrap64 ((wrap64 ((wrap64 (x3*131))+(wrap64 (rd x0 u))))+7)) 1073741823) (wrap64 (u+1)))else(none))else(some (x0,0,x3)))else(some (x0,0,x3))
def fG.f (k:Nat) (l0:List Int):Option (List Int×Int×Int):=fG.l0 k l0 (wrap64 (98939+(l0.length:Int))) 0
theorem fG.c (k:Nat) (A0:Option Addr) (c0:Nat) (l0:List Int) (r1:List Int) (r2:Int) (r3:Int) (w0 w:World) (hB:Below w0.heap.size w0 w) (V:Kd.C (Kd.int .u8) w0 A0 l0.length l0) (hc0:l0.length≤c0) (h:fG.f k l0=some (r1,r2,r3)):
  Calls Tryz.prog 23 #[.slice A0 l0.length c0] w fun e w'=>∃U:Nat,e= .returned (.pointer (some ⟨U,0,none⟩))∧aX w0 w' U r1 r2 r3∧Below w0.heap.size w0 w'∧Below w.heap.size w w':=by
 have aq:=Tryz.underlying82;have I:=A_ V;have al:=A_ hc0;clear V hc0;have D:=A_ (Below.refl w.heap.size w);have am:=A_ hB.size;have z:=A_ hB;clear hB;have H:(fG.l0 k l0 (wrap64 (98939+(l0.length:Int))) 0)=some (r1,r2,r3):=h;clear h;have H':=A_ H;clear H;go_enter Tryz.func23,Tryz.ntmps23;go_wp2
 go_loopg [3,4] k (fun ad v3 v4 w'=>∃(F:Int) (u:Int),v3= .int .i64 F∧v4= .int .i64 u∧ae (fG.l0 ad l0 F u=some (r1,r2,r3))∧ae (ad≤k)∧ae (Below w0.heap.size w0 w')∧ae (Below w.heap.size w w'))
 case atStart=>exact⟨(wrap64 (98939+(l0.length:Int))),(0),eS,eS,H',⟨Nat.le_refl _⟩,⟨oB z⟩,⟨D.out⟩⟩
 case round=>
  clear H' z D;obtain⟨F,u,rfl,rfl,G,O,z,D⟩:=hrel;cases gk with
  |zero=>exact absurd G.out (by simp[fG.l0])
  |succ k1=>
   have H:=G.out;clear G;simp only[fG.l0]at H;by_cases c2:u<(l0.length:Int)
   ·rw[ai c2]at H;have af:decide (u<(l0.length:Int))=true:=ah c2;clear c2;by_cases c3:u<4000
    ·rw[ai c3]at H;have ag:decide (u<4000)=true:=ah c3;clear c3;by_cases c4:0≤u
     ·rw[ai c4]at H;have ap:decide (0≤u)=true:=ah c4;clear c4;have H':=A_ H;clear H;have J:0≤(u:Int):=oD;have K:u<(l0.length:Int):=oD;obtain⟨ao,ak,X⟩:=Kd.dY I.out u J K;cases ak;replace X:=oz z.out X;replace J:=aw J;replace K:=aw K;go_wp2
      go_roundg k1
      case measure=>have:=O.out;omega
      case rel=>exact⟨(Go.bits .and .i64 (wrap64 ((wrap64 ((wrap64 (F*131))+(wrap64 (rd l0 u))))+7)) 1073741823),(wrap64 (u+1)),eS,eS,H',⟨by have:=O.out;omega⟩,⟨oB z⟩,D⟩
     ·rw[aj c4]at H;exact absurd H (by simp)
    ·rw[aj c3]at H;have ag:decide (u<4000)=false:=ax c3;clear c3;simp only[Option.some.injEq,Prod.mk.injEq]at H;obtain⟨rfl,rfl,rfl⟩:=H;go_wp2;go_ret;exact⟨_,rfl,⟨_,_,by simpa using heap_alloc_new _ _,z.out.size,I.out⟩,bM z.out _,bM D.out _⟩
   ·rw[aj c2]at H;have af:decide (u<(l0.length:Int))=false:=ax c2;clear c2;simp only[Option.some.injEq,Prod.mk.injEq]at H;obtain⟨rfl,rfl,rfl⟩:=H;go_wp2;go_ret;exact⟨_,rfl,⟨_,_,by simpa using heap_alloc_new _ _,z.out.size,I.out⟩,bM z.out _,bM D.out _⟩
def jo.f (l0:List (ag)):Option ((List (ag))):=(some (([]:List (ag)):List (ag))).bind fun u=>(if u.length+l0.length<4398046511104 then(some (u++l0))else(none))
theorem jo.c (A0:Option Addr) (c0:Nat) (l0:List (ag)) (r:List (ag)) (w:World) (X:Kd.C aN w A0 l0.length l0) (hc0:l0.length≤c0) (h:jo.f l0=some r):
  Calls Tryz.prog 107 #[.slice A0 l0.length c0] w fun e w'=>∃ad:Value,e= .returned (ad)∧Kd.R aN 110 w' w.heap.size (fun _=>True) ad r∧Below w.heap.size w w':=by
 have ak:=A_ X;have ar:=A_ hc0;clear X hc0;have u:=A_ (Below.refl w.heap.size w);have H:((some (([]:List (ag)):List (ag))).bind fun z=>(if z.length+l0.length<4398046511104 then(some (z++l0))else(none)))=some r:=h;clear h;obtain⟨z,G⟩:∃O:List (ag),O=(([]:List (ag))):=⟨_,rfl⟩;replace H:(if z.length+l0.length<4398046511104 then(some (z++l0))else(none))=some r:=by first|(rw[G];with_reducible exact H)|(have D:=(az _ _).symm.trans H;rw[G];with_reducible exact D)|(have D:=(az _ _).symm.trans H;with_reducible exact D)|with_reducible exact H|(rw[G];exact H)|exact H
 have V:=A_ G;clear G;by_cases c2:z.length+l0.length<4398046511104
 ·rw[ai c2]at H;have al:=A_ c2;clear c2;obtain⟨aq,I⟩:∃O:List (ag),O=(z++l0):=⟨_,rfl⟩;replace H:(some aq)=some r:=by first|(rw[I];with_reducible exact H)|(have D:=(az _ _).symm.trans H;rw[I];with_reducible exact D)|(have D:=(az _ _).symm.trans H;with_reducible exact D)|with_reducible exact H|(rw[I];exact H)|exact H
  have am:=A_ I;clear I;obtain rfl:=aA H;go_enter Tryz.func107,Tryz.ntmps107
  go_wp2_with (first|((with_reducible refine aC (N:=3) rfl ?_);refine Kd.dR aN _ 110 ?hg (N:=3) ?hd (xs:=([]:List (ag))) (inner:=[]) (ok:=fun _=>True) (bD:=fun _=>True) ?hr ?hp (fun _ hk=>hk) trivial (Below.refl _ _) (Nat.le_refl _) (by simp) ?_;(case hd=>rfl);(case hg=>rfl);(case hr=>first|(go_simp;done)|(go_simp;rfl));(case hp=>exact(aI.none _ _));intro v105 w3 F hb ao ap;clear ao ap;(first|rw[←V.out]at F|(simp only[Int.reduceToNat]at F;rw[←V.out]at F));have J:=A_ (Kd.cD F (aZ (oB u)));have K:=A_ (aV (oB u) hb);clear u;have U:=J;have u:=K;clear J K hb F)|((with_reducible refine fI (b:= .append) (xs:= #[.tmp 3,.tmp 4]) rfl ?_);at_builtin;refine Kd.nM aN (w0:=w) w.heap.size rfl (.tmp 3) (.tmp 4) 24 110 (.agg #[(.int .i64 0),(.int .i64 0),(.int .i64 0),(.int .i64 0)]) 32 rfl Tryz.underlying24 om rfl (by decide) (by omega) v105 z l0 _ _ _ (fun _=>True) (fun _=>False) rfl rfl ?aO ?aR (fun _ _ h=>h) (fun _ h=>h.elim) ?aF ?aB ?aS ?aL ?_;(case aR=>exact bF ak.out);(case aB=>exact(oB u));(case aF=>exact(fun _ _=>trivial));(case aO=>exact(oR U));(case aS=>exact(aZ (oB u)));(case aL=>have:=al.out;omega);intro au av ho hb hg hat;rw[←am.out]at ho;have J:=A_ (hb);have K:=A_ (ho);clear u U;have u:=J;have af:=K;clear J K ho hb hg hat))
  go_ret;exact⟨_,eR,oR af,oB u⟩
 ·rw[aj c2]at H;exact absurd H (by simp)
def cA.f (a0:Int) (a1:Int) (a2:Int):Option (Bool):=if a0≥a1 then(some (decide (a0≤a2)))else(some false)
theorem cA.c (a0:Int) (a1:Int) (a2:Int) (r:Bool) (w:World) (h:cA.f a0 a1 a2=some r):
  Calls Tryz.prog 72 #[.int .i64 a0,.int .i64 a1,.int .i64 a2] w fun e w'=>e= .returned (.bool r)∧bf w w':=by
 have H:(if a0≥a1 then(some (decide (a0≤a2)))else(some false))=some r:=h;clear h;by_cases c4:a0≥a1
 ·rw[ai c4]at H;have u:decide (a1≤a0)=true:=ah c4;clear c4;obtain rfl:=aA H;go_enter Tryz.func72,Tryz.ntmps72;go_wp2;go_ret;exact⟨eS,by repeat(first|exact bf.refl _|apply bf.step)⟩
 ·rw[aj c4]at H;have u:decide (a1≤a0)=false:=ax c4;clear c4;obtain rfl:=aA H;go_enter Tryz.func72,Tryz.ntmps72;go_wp2;go_ret;exact⟨eS,by repeat(first|exact bf.refl _|apply bf.step)⟩
def kB (x:ag) (t:List Bool):Bool:=
  (decide (x.f2=1)||decide (x.f2=2))&&(decide (0≤x.f3∧x.f3≤5000)&&(decide (0≤x.f0∧x.f0≤11)&&(decide (0≤x.f1∧x.f1≤11)&&(decide (x.f1=(x.f0+1)%12)&&(t.getD x.f0.toNat false&& !t.getD x.f1.toNat false)))))
def kg:List ag→List Bool→Bool
  |[],_=>true
  |x::r,t=>kB x t&&kg r (t.set x.f1.toNat true)
def rG (l:List ag):Bool:=kg l (true::List.replicate 11 false)&&decide (l.length≤11)
theorem xU {t:List Bool} {k:Nat} (hk:k<t.length) (h:t.getD k false=false):(t.set k true).count true=t.count true+1:=by
  rw[List.count_set hk];simp[List.getD_eq_getElem?_getD,hk]at h;simp[h]
def jm.f (l0:List (ag)):Option (Bool):=some (rG l0)
theorem jm.c (A0:Option Addr) (c0:Nat) (l0:List (ag)) (r:Bool) (w:World) (aF:Kd.C aN w A0 l0.length l0) (hc0:l0.length≤c0) (h:jm.f l0=some r):
    Calls Tryz.prog 109 #[.slice A0 l0.length c0] w fun e w'=>e= .returned (.bool r)∧Below w.heap.size w w':=by
  have aP:=Tryz.underlying110;have H:=aA h;clear h;go_enter Tryz.func109,Tryz.ntmps109
  go_wp2_with (first|((with_reducible refine aC (N:=6) rfl ?_);refine Kd.sD Kd.bool _ 4 rfl (N:=6) rfl 143 _ _ rfl 12 rfl rfl Tryz.underlying143 (.bool false) 1 yH rfl (by decide) (by omega) false (ok:=fun _=>True) (bD:=fun _=>True) rfl (fun _ hk=>hk) trivial (by omega) (by omega) (Below.refl _ _) (Nat.le_refl _) ?_;intro v105 aW K hb aD aE;clear aD aE;have u:=A_ hb;obtain⟨J,ap,aq,V,au,ao,ak⟩:=Kd.kH K (by decide);subst aq;have HO:=A_ K;have GB:=A_ V;clear K au ao ak hb V;have aL:(0<(List.replicate (Int.toNat 12) false).length)=True:=aw (by decide);obtain⟨af,X⟩:=Kd.kG false HO.out (0:Int) (by omega) (by decide);simp only[Int.toNat_zero]at af X))
  go_loopg [4] (l0.length+1) (fun aG v4 w'=>∃(i:Nat) (tn:List Bool),v4= .int .i64 (i:Int)∧ae (i+aG=l0.length+1)∧ae (i≤l0.length)∧ae (tn.length=12)∧ae (tn.count true=i+1)∧ae (Kd.R Kd.bool 4 w' w.heap.size (fun _=>True) (.slice (some ⟨J,0,none⟩) 12 ap) tn)∧ae ((kg (l0.drop i) tn&&decide (l0.length≤11))=r)∧ae (Below w.heap.size w w'))
  case atStart=>
    exact⟨0,true::List.replicate 11 false,rfl,⟨by omega⟩,⟨by omega⟩,⟨rfl⟩,⟨by decide⟩,⟨(Kd.mO HO.out (0:Int) true).1⟩,⟨by rw[←H];rfl⟩,⟨dZ u.out GB.out⟩⟩
  case round=>
    obtain⟨i,tn,rfl,HK,aM,G,U,F,z,u⟩:=hrel;clear HO aL af X;by_cases hlt:i<l0.length;rotate_left
    · have hb3:decide ((i:Int)<(l0.length:Int))=false:=ax (by omega);have hb4:decide (i<l0.length)=false:=ax (by omega);have h1:=z.out;rw[List.drop_eq_nil_of_le (by omega)]at h1;by_cases h11:l0.length≤11
      · obtain rfl:true=r:=(by rw[←h1];simp[kg,h11]);have av:decide ((l0.length:Int)≤11)=true:=ah (by omega);have aB:decide (l0.length≤11)=true:=ah (by omega);clear h1;go_wp2;go_ret;exact⟨rfl,u.out⟩
      · obtain rfl:false=r:=(by rw[←h1];simp[kg,h11]);have av:decide ((l0.length:Int)≤11)=false:=ax (by omega);have aB:decide (l0.length≤11)=false:=ax (by omega);clear h1;go_wp2;go_ret;exact⟨rfl,u.out⟩
    · have hb3:decide ((i:Int)<(l0.length:Int))=true:=ah (by omega);have hb4:decide (i<l0.length)=true:=ah (by omega);obtain⟨ad,e,hx0,hx1,hx2,hx3⟩:=eN aF (i:Int) (by omega) (by omega);cases e;replace hx0:=hW u hx0;replace hx1:=hW u hx1;replace hx2:=hW u hx2;replace hx3:=hW u hx3;obtain⟨x,hx⟩:∃x,ar l0 (i:Int)=x:=⟨_,rfl⟩;rw[hx]at hx0 hx1 hx2 hx3;simp only[Int.toNat_natCast]at hx0 hx1 hx2 hx3
      have hd:(kg (l0.drop i) tn&&decide (l0.length≤11))=(kB x tn&&(kg (l0.drop (i+1)) (tn.set x.f1.toNat true)&&decide (l0.length≤11))):=by
        rw[List.drop_eq_getElem_cons hlt];have e0:l0[i]=x:=(by rw[←hx];simp[ar,List.getD_eq_getElem?_getD,hlt]);rw[e0];show(kB x tn&&kg _ _&&_)=_;rw[Bool.and_assoc]
      have aO:=A_ hx;clear hx;have HD:=A_ hd;clear hd
      have win:∀(a b c:Int) (d:Bool) (W:World),decide (b≤a∧a≤c)=d→Calls Tryz.prog 72 #[.int .i64 a,.int .i64 b,.int .i64 c] W fun e w'=>e= .returned (.bool d)∧bf W w':=fun a b c d W hd=>
        cA.c a b c d W (by rw[←hd];unfold cA.f;by_cases hh:b≤a<;>simp[hh])
      have tc:∀k,k<12→∀o:Obj,(wr.alloc o).cell? ⟨J,k,none⟩=some (.bool (tn.getD k false)):=fun k hk o=>by
        have h9:=(Kd.kG false (Kd.cC F.out o) (k:Int) (by omega) (by omega)).1;simpa[fT]using h9
      have tf:∀k,k<12→∀o:Obj,(wr.alloc o).frozen? ⟨J,k,none⟩=false:=fun k hk o=>by
        have h9:=(Kd.kG false (Kd.cC F.out o) (k:Int) (by omega) (by omega)).2;simpa using h9
      by_cases q0:x.f2=1∨x.f2=2;rotate_left
      · have W0:=A_ fun W=>win x.f2 1 2 false W (ax (by omega));have D:=A_ q0;clear q0 win tc tf
        go_wp2_with (first|(go_at_call 72;(with_reducible refine(W0.out _).mono ?_);rintro e w' ⟨rfl,⟨nd,rfl⟩⟩))
        all_goals
          obtain rfl:false=r:=by
            rw[←z.out,HD.out];have:=D.out;simp only[not_or]at this;simp[kB,this.1,this.2]
          go_ret;exact⟨rfl,by repeat(first|exact u.out|apply bM|apply dp|apply cv)⟩
      have W0:=A_ fun W=>win x.f2 1 2 true W (ah (by omega));have al:=A_ q0;clear q0;by_cases q1:0≤x.f3∧x.f3≤5000;rotate_left
      · have W1:=A_ fun W=>win x.f3 0 5000 false W (ax q1);have D:=A_ q1;clear q1 win tc tf
        go_wp2_with (first|(go_at_call 72;(with_reducible refine(W0.out _).mono ?_);rintro e w' ⟨rfl,⟨nd,rfl⟩⟩)|(go_at_call 72;(with_reducible refine(W1.out _).mono ?_);rintro e w' ⟨rfl,⟨nd,rfl⟩⟩))
        all_goals
          obtain rfl:false=r:=by
            rw[←z.out,HD.out];simp[kB,D.out]
          go_ret;exact⟨rfl,by repeat(first|exact u.out|apply bM|apply dp|apply cv)⟩
      have W1:=A_ fun W=>win x.f3 0 5000 true W (ah q1);by_cases q2:0≤x.f0∧x.f0≤11;rotate_left
      · have W2:=A_ fun W=>win x.f0 0 11 false W (ax q2);have D:=A_ q2;clear q1 q2 win tc tf
        go_wp2_with (first|(go_at_call 72;(with_reducible refine(W0.out _).mono ?_);rintro e w' ⟨rfl,⟨nd,rfl⟩⟩)|(go_at_call 72;(with_reducible refine(W1.out _).mono ?_);rintro e w' ⟨rfl,⟨nd,rfl⟩⟩)|(go_at_call 72;(with_reducible refine(W2.out _).mono ?_);rintro e w' ⟨rfl,⟨nd,rfl⟩⟩))
        all_goals
          obtain rfl:false=r:=by
            rw[←z.out,HD.out];simp[kB,D.out]
          go_ret;exact⟨rfl,by repeat(first|exact u.out|apply bM|apply dp|apply cv)⟩
      have W2:=A_ fun W=>win x.f0 0 11 true W (ah q2);clear win;obtain⟨aH,aQ⟩:=q2;have am:=A_ q1;clear q1;by_cases q4:x.f1=(x.f0+1)%12;rotate_left
      · have aJ:(x.f1==(x.f0+1)%12)=false:=beq_eq_false_iff_ne.mpr q4;have aK:(x.f1 != (x.f0+1)%12)=true:=bne_iff_ne.mpr q4;have I:=A_ q4;clear q4 tc tf
        go_wp2_with (first|(go_at_call 72;(with_reducible refine(W0.out _).mono ?_);rintro e w' ⟨rfl,⟨nd,rfl⟩⟩)|(go_at_call 72;(with_reducible refine(W1.out _).mono ?_);rintro e w' ⟨rfl,⟨nd,rfl⟩⟩)|(go_at_call 72;(with_reducible refine(W2.out _).mono ?_);rintro e w' ⟨rfl,⟨nd,rfl⟩⟩))
        all_goals
          obtain rfl:false=r:=by
            rw[←z.out,HD.out];simp[kB,I.out]
          go_ret;exact⟨rfl,by repeat(first|exact u.out|apply bM|apply dp|apply cv)⟩
      have aJ:(x.f1==(x.f0+1)%12)=true:=beq_iff_eq.mpr q4;have aK:(x.f1 != (x.f0+1)%12)=false:=bne_eq_false_iff_eq.mpr q4;have aI:0≤x.f1:=(by omega);have aR:x.f1≤11:=(by omega);have I:=A_ q4;clear q4;have hc0:=tc x.f0.toNat (by omega);have hc1:=tc x.f1.toNat (by omega);have hfz:=tf x.f1.toNat (by omega);clear tc tf;obtain⟨b0,hb0⟩:∃b,tn.getD x.f0.toNat false=b:=⟨_,rfl⟩;obtain⟨b1,hb1⟩:∃b,tn.getD x.f1.toNat false=b:=⟨_,rfl⟩;rw[hb0]at hc0;rw[hb1]at hc1;have O:=A_ hb0;have B1:=A_ hb1;clear hb0 hb1;have aS:=ah aH;have aT:decide (x.f0<12)=true:=ah (by omega);have aU:=ah aI;have aV:decide (x.f1<12)=true:=ah (by omega)
      go_wp2_with (first|(go_at_call 72;(with_reducible refine(W0.out _).mono ?_);rintro e w' ⟨rfl,⟨nd,rfl⟩⟩)|(go_at_call 72;(with_reducible refine(W1.out _).mono ?_);rintro e w' ⟨rfl,⟨nd,rfl⟩⟩)|(go_at_call 72;(with_reducible refine(W2.out _).mono ?_);rintro e w' ⟨rfl,⟨nd,rfl⟩⟩))
      all_goals first
        |(go_ret
          have e:false=r:=by
            have h3:=O.out;have h4:=B1.out;rw[←z.out,HD.out];unfold kB;rw[h3,h4];simp[*]
          subst e;exact⟨rfl,by repeat(first|exact u.out|apply bM|apply dp|apply cv)⟩)
        |(go_roundg (gk-1)
          case measure=>have:=HK.out;omega
          case rel=>
            have hi:i≤11:=(by have h1:=U.out;have h2:=G.out;have h3:=@List.count_le_length _ _ true tn;omega);have hn:(tn.set x.f1.toNat true).count true=i+1+1:=(by rw[xU (by have:=G.out;omega) (by rw[B1.out];first|assumption|simp[*]),U.out]);refine⟨i+1,tn.set x.f1.toNat true,by rw[show wrap64 ((i:Int)+1)=((i+1:Nat):Int)by unfold wrap64;omega],⟨by have:=HK.out;omega⟩,⟨by omega⟩,⟨by rw[List.length_set];exact G.out⟩,⟨hn⟩,⟨?_⟩,⟨?_⟩,⟨?_⟩⟩
            · refine(Kd.mO ?_ x.f1 true).1
              with_reducible repeat(first|apply Kd.cC|apply Kd.cM|apply Kd.cq)
              exact F.out
            · rw[←z.out,HD.out]
              have e:kB x tn=true:=by
                have h0:=al.out;have h1:=I.out;have h2:=am.out;have h3:=O.out;have h4:=B1.out;unfold kB;rw[h3,h4];simp[*];omega
              rw[e,Bool.true_and]
            · refine dZ ?_ GB.out
              repeat(first|exact u.out|apply bM|apply dp|apply cv))
def cL.f (a0:Int):Option (Bool):=(cA.f a0 1 10000000).bind fun t110=>(some t110)
theorem cL.c (a0:Int) (r:Bool) (w:World) (h:cL.f a0=some r):
  Calls Tryz.prog 111 #[.int .i64 a0] w fun e w'=>e= .returned (.bool r)∧bf w w':=by
 have H:((cA.f a0 1 10000000).bind fun t110=>(some t110))=some r:=h;clear h;replace H:=ay H;obtain⟨t110,u,H⟩:=H
 (try dsimp only at H)
 have A2:=A_ u;clear u;obtain rfl:=aA H;go_enter Tryz.func111,Tryz.ntmps111
 go_wp2_with (first|((with_reducible refine bp (f:=72) rfl ?_);refine gL (some 4) Tryz.func72 #[.int .i64 a0,.int .i64 1,.int .i64 10000000] ?_;(with_reducible refine(cA.c a0 1 10000000 t110 _ A2.out).mono ?_);rintro e w' ⟨rfl,⟨nd,rfl⟩⟩;refine⟨_,rfl,?_⟩))
 go_ret;exact⟨eS,by repeat(first|exact bf.refl _|apply bf.step)⟩
mutual
def cy.j0:Nat→Int→Int→Int→Bool→Option (Int)
 |0,_,_,_,_=>none
 |k+1,x0,x1,x2,u=>if u=true then(some 0)else(if x1=1 then((cL.f (wrap64 (Int.tdiv (mx 0 (wrap64 ((wrap64 (3*x0))-x2))) 2))).bind fun t113=>(if t113=true then(some (wrap64 (Int.tdiv (mx 0 (wrap64 ((wrap64 (3*x0))-x2))) 2)))else(some 0)))else(if x1=2 then((cL.f (wrap64 (Int.tdiv (mx 0 (wrap64 ((wrap64 (3*x0))-x2))) 4))).bind fun t114=>(if t114=true then(some (wrap64 (Int.tdiv (mx 0 (wrap64 ((wrap64 (3*x0))-x2))) 4)))else(some 0)))else(if x1=3 then(cy.j1 k x0 x1 x2 0 (x2==0))else(cy.j1 k x0 x1 x2 0 false))))
def cy.j1:Nat→Int→Int→Int→Int→Bool→Option (Int)
 |0,_,_,_,_,_=>none
 |k+1,x0,x1,x2,u,z=>if z=true then((cL.f (wrap64 (2*x0))).bind fun t115=>(if t115=true then(some (wrap64 (2*x0)))else(some 0)))else(if x1=4 then(cy.j2 k x0 u (x2==0))else(cy.j2 k x0 u false))
def cy.j2:Nat→Int→Int→Bool→Option (Int)
 |0,_,_,_=>none
 |k+1,x0,u,z=>if z=true then((cL.f (wrap64 (Int.tdiv x0 2))).bind fun t116=>(if t116=true then(some (wrap64 (Int.tdiv x0 2)))else(some 0)))else((cL.f u).bind fun t117=>(if t117=true then(some u)else(some 0)))
end
def cy.f (k:Nat) (a0:Int) (a1:Int) (a2:Int):Option (Int):=(cL.f a0).bind fun t111=>(if t111=true then((cA.f a2 0 100000).bind fun t112=>(cy.j0 k a0 a1 a2 (!t112)))else(cy.j0 k a0 a1 a2 true))
theorem cy.c (k:Nat) (a0:Int) (a1:Int) (a2:Int) (r:Int) (w:World) (h:cy.f k a0 a1 a2=some r):
  Calls Tryz.prog 134 #[.int .i64 a0,.int .i64 a1,.int .i64 a2] w fun e w'=>e= .returned (.int .i64 r)∧Below w.heap.size w w':=by
 have u:=A_ (Below.refl w.heap.size w);have H:((cL.f a0).bind fun t111=>(if t111=true then((cA.f a2 0 100000).bind fun t112=>(cy.j0 k a0 a1 a2 (!t112)))else(cy.j0 k a0 a1 a2 true)))=some r:=h;clear h;have aq:=A_ H;clear H;go_enter Tryz.func134,Tryz.ntmps134
 go_upto_region 1 with (fail)
 go_cut [15] (fun v15 wc=>∃(z:Nat) (ak:Bool),v15= .bool ak∧ae (cy.j0 z a0 a1 a2 ak=some r)∧ae (z≤k)∧ae (Below w.heap.size w wc))
 case first=>
  have H:=aq.out;clear aq;replace H:=ay H;obtain⟨t111,aP,H⟩:=H
  (try dsimp only at H)
  have aO:=A_ aP;clear aP;by_cases c6:t111=true
  ·subst c6;rw[ai rfl]at H;replace H:=ay H;obtain⟨t112,aQ,H⟩:=H
   (try dsimp only at H)
   have aU:=A_ aQ;clear aQ;have H':=A_ H;clear H
   go_wp2_with (first|((with_reducible refine bp (f:=111) rfl ?_);refine gL (some 9) Tryz.func111 #[.int .i64 a0] ?_;(with_reducible refine(cL.c a0 true _ aO.out).mono ?_);rintro e w' ⟨rfl,⟨nd,rfl⟩⟩;refine⟨_,rfl,?_⟩)|(go_at_call 72;(with_reducible refine(cA.c a2 0 100000 t112 _ aU.out).mono ?_);rintro e w' ⟨rfl,⟨nd,rfl⟩⟩))
   go_meet
   case rel=>exact⟨_,(!t112),eS,H',⟨by first|omega|exact Nat.le_refl _⟩,⟨oB u⟩⟩
  ·replace c6:=Bool.eq_false_iff.mpr c6;subst c6;rw[aj (show¬(false=true)by decide)]at H;have H':=A_ H;clear H
   go_wp2_with (first|((with_reducible refine bp (f:=111) rfl ?_);refine gL (some 9) Tryz.func111 #[.int .i64 a0] ?_;(with_reducible refine(cL.c a0 false _ aO.out).mono ?_);rintro e w' ⟨rfl,⟨nd,rfl⟩⟩;refine⟨_,rfl,?_⟩))
   go_meet
   case rel=>exact⟨_,(true),eS,H',⟨by first|omega|exact Nat.le_refl _⟩,⟨oB u⟩⟩
 case rest=>
  clear aq
  try clear c1
  try clear p2
  try clear c6
  obtain⟨z,ak,rfl,D,X,u⟩:=hcut;cases z with
  |zero=>exact absurd D.out (by simp[cy.j0])
  |succ aW=>
   have H:=D.out;clear D;simp only[cy.j0]at H;by_cases c8:ak=true
   ·subst c8;rw[ai rfl]at H;obtain rfl:=aA H;go_wp2;go_ret;exact⟨eR,oB u⟩
   ·replace c8:=Bool.eq_false_iff.mpr c8;subst c8;rw[aj (show¬(false=true)by decide)]at H;by_cases c9:a1=1
    ·rw[ai c9]at H;have aB:(a1==1)=true:=beq_iff_eq.mpr c9;have aC:(a1 != 1)=false:=bne_eq_false_iff_eq.mpr c9;clear c9;obtain⟨K,I⟩:∃aD:Int,(mx 0 (wrap64 ((wrap64 (3*a0))-a2)))=aD:=⟨_,rfl⟩;replace H:((cL.f (wrap64 (Int.tdiv (K) 2))).bind fun t113=>(if t113=true then(some (wrap64 (Int.tdiv (K) 2)))else(some 0)))=some r:=by first|(rw[I]at H;exact H)|(simp only[I]at H ⊢;exact H)
     have aZ:(if 0<(wrap64 ((wrap64 (3*a0))-a2))then(wrap64 ((wrap64 (3*a0))-a2))else 0)=K:=I;replace H:=ay H;obtain⟨t113,aF,H⟩:=H
     (try dsimp only at H)
     have aE:=A_ aF;clear aF;by_cases c12:t113=true
     ·subst c12;rw[ai rfl]at H;obtain rfl:=aA H
      go_wp2_with (first|((with_reducible refine bp (f:=111) rfl ?_);refine kP (some 53) rfl rfl Tryz.func111 (by kernel_rfl) rfl #[.int .i64 (wrap64 (Int.tdiv (K) 2))] rfl (by(try simp only[List.map_toArray,List.map_cons,List.map_nil]);first|done|(simp only[I];rfl)|rfl|(simp only[List.length_drop,List.length_take];rfl)) ?_;(with_reducible refine(cL.c (wrap64 (Int.tdiv (K) 2)) true _ aE.out).mono ?_);rintro e w' ⟨rfl,⟨nd,rfl⟩⟩;refine⟨_,rfl,?_⟩))
      go_ret;exact⟨by first|rfl|(simp[eh,ek]<;>rfl)|(simp only[←I];first|rfl|(simp[eh,ek]<;>rfl))|(simp[*,eh,ek]<;>rfl),oB u⟩
     ·replace c12:=Bool.eq_false_iff.mpr c12;subst c12;rw[aj (show¬(false=true)by decide)]at H;obtain rfl:=aA H
      go_wp2_with (first|((with_reducible refine bp (f:=111) rfl ?_);refine kP (some 53) rfl rfl Tryz.func111 (by kernel_rfl) rfl #[.int .i64 (wrap64 (Int.tdiv (K) 2))] rfl (by(try simp only[List.map_toArray,List.map_cons,List.map_nil]);first|done|(simp only[I];rfl)|rfl|(simp only[List.length_drop,List.length_take];rfl)) ?_;(with_reducible refine(cL.c (wrap64 (Int.tdiv (K) 2)) false _ aE.out).mono ?_);rintro e w' ⟨rfl,⟨nd,rfl⟩⟩;refine⟨_,rfl,?_⟩))
      go_ret;exact⟨by first|rfl|(simp[eh,ek]<;>rfl)|(simp only[←I];first|rfl|(simp[eh,ek]<;>rfl))|(simp[*,eh,ek]<;>rfl),oB u⟩
    ·rw[aj c9]at H;have aB:(a1==1)=false:=beq_eq_false_iff_ne.mpr c9;have aC:(a1 != 1)=true:=bne_iff_ne.mpr c9;by_cases c13:a1=2
     ·rw[ai c13]at H;have ar:(a1==2)=true:=beq_iff_eq.mpr c13;have au:(a1 != 2)=false:=bne_eq_false_iff_eq.mpr c13;clear c13;obtain⟨O,J⟩:∃aD:Int,(mx 0 (wrap64 ((wrap64 (3*a0))-a2)))=aD:=⟨_,rfl⟩;replace H:((cL.f (wrap64 (Int.tdiv (O) 4))).bind fun t114=>(if t114=true then(some (wrap64 (Int.tdiv (O) 4)))else(some 0)))=some r:=by first|(rw[J]at H;exact H)|(simp only[J]at H ⊢;exact H)
      have a3:(if 0<(wrap64 ((wrap64 (3*a0))-a2))then(wrap64 ((wrap64 (3*a0))-a2))else 0)=O:=J;replace H:=ay H;obtain⟨t114,aH,H⟩:=H
      (try dsimp only at H)
      have aG:=A_ aH;clear aH;by_cases c16:t114=true
      ·subst c16;rw[ai rfl]at H;obtain rfl:=aA H
       go_wp2_with (first|((with_reducible refine bp (f:=111) rfl ?_);refine kP (some 53) rfl rfl Tryz.func111 (by kernel_rfl) rfl #[.int .i64 (wrap64 (Int.tdiv (O) 4))] rfl (by(try simp only[List.map_toArray,List.map_cons,List.map_nil]);first|done|(simp only[J];rfl)|rfl|(simp only[List.length_drop,List.length_take];rfl)) ?_;(with_reducible refine(cL.c (wrap64 (Int.tdiv (O) 4)) true _ aG.out).mono ?_);rintro e w' ⟨rfl,⟨nd,rfl⟩⟩;refine⟨_,rfl,?_⟩))
       go_ret;exact⟨by first|rfl|(simp[eh,ek]<;>rfl)|(simp only[←J];first|rfl|(simp[eh,ek]<;>rfl))|(simp[*,eh,ek]<;>rfl),oB u⟩
      ·replace c16:=Bool.eq_false_iff.mpr c16;subst c16;rw[aj (show¬(false=true)by decide)]at H;obtain rfl:=aA H
       go_wp2_with (first|((with_reducible refine bp (f:=111) rfl ?_);refine kP (some 53) rfl rfl Tryz.func111 (by kernel_rfl) rfl #[.int .i64 (wrap64 (Int.tdiv (O) 4))] rfl (by(try simp only[List.map_toArray,List.map_cons,List.map_nil]);first|done|(simp only[J];rfl)|rfl|(simp only[List.length_drop,List.length_take];rfl)) ?_;(with_reducible refine(cL.c (wrap64 (Int.tdiv (O) 4)) false _ aG.out).mono ?_);rintro e w' ⟨rfl,⟨nd,rfl⟩⟩;refine⟨_,rfl,?_⟩))
       go_ret;exact⟨by first|rfl|(simp[eh,ek]<;>rfl)|(simp only[←J];first|rfl|(simp[eh,ek]<;>rfl))|(simp[*,eh,ek]<;>rfl),oB u⟩
     ·rw[aj c13]at H;have ar:(a1==2)=false:=beq_eq_false_iff_ne.mpr c13;have au:(a1 != 2)=true:=bne_iff_ne.mpr c13;have ao:=A_ H;clear H
      go_upto_region 8 with (fail)
      go_cut [34] (fun v34 wc=>∃(z:Nat) (al:Bool),v34= .bool al∧ae (cy.j1 z a0 a1 a2 0 al=some r)∧ae (z≤aW)∧ae (Below w.heap.size w wc))
      case first=>
       have H:=ao.out;clear ao;by_cases c18:a1=3
       ·rw[ai c18]at H;have G:(a1==3)=true:=beq_iff_eq.mpr c18;have av:(a1 != 3)=false:=bne_eq_false_iff_eq.mpr c18;clear c18
        (first|rw[G]|(simp only[bJ,cu];rw[G])|skip)
        have H':=A_ H;clear H;go_wp2
        go_meet
        case rel=>exact⟨_,((a2==0)),eS,H',⟨by have:=X.out;first|omega|exact Nat.le_refl _⟩,⟨oB u⟩⟩
       ·rw[aj c18]at H;have G:(a1==3)=false:=beq_eq_false_iff_ne.mpr c18;have av:(a1 != 3)=true:=bne_iff_ne.mpr c18
        (first|rw[G]|(simp only[bJ,cu];rw[G])|skip)
        have H':=A_ H;clear H;go_wp2
        go_meet
        case rel=>exact⟨_,(false),eS,H',⟨by have:=X.out;first|omega|exact Nat.le_refl _⟩,⟨oB u⟩⟩
      case rest=>
       clear ao
       try clear c1
       try clear p2
       try clear c6
       try clear aT
       try clear c8
       try clear c9
       try clear aB
       try clear aC
       try clear c11
       try clear c12
       try clear c13
       try clear ar
       try clear au
       try clear c16
       try clear c18
       try clear G
       try clear av
       try clear p2
       obtain⟨z,al,rfl,D,aR,u⟩:=hcut;cases z with
       |zero=>exact absurd D.out (by simp[cy.j1])
       |succ aV=>
        have H:=D.out;clear D;simp only[cy.j1]at H;by_cases c19:al=true
        ·subst c19;rw[ai rfl]at H;replace H:=ay H;obtain⟨t115,aJ,H⟩:=H
         (try dsimp only at H)
         have aI:=A_ aJ;clear aJ;by_cases V:t115=true
         ·subst V;rw[ai rfl]at H;obtain rfl:=aA H
          go_wp2_with (first|((with_reducible refine bp (f:=111) rfl ?_);refine gL (some 53) Tryz.func111 #[.int .i64 (wrap64 (2*a0))] ?_;(with_reducible refine(cL.c (wrap64 (2*a0)) true _ aI.out).mono ?_);rintro e w' ⟨rfl,⟨nd,rfl⟩⟩;refine⟨_,rfl,?_⟩))
          go_ret;exact⟨eR,oB u⟩
         ·replace V:=Bool.eq_false_iff.mpr V;subst V;rw[aj (show¬(false=true)by decide)]at H;obtain rfl:=aA H
          go_wp2_with (first|((with_reducible refine bp (f:=111) rfl ?_);refine gL (some 53) Tryz.func111 #[.int .i64 (wrap64 (2*a0))] ?_;(with_reducible refine(cL.c (wrap64 (2*a0)) false _ aI.out).mono ?_);rintro e w' ⟨rfl,⟨nd,rfl⟩⟩;refine⟨_,rfl,?_⟩))
          go_ret;exact⟨eR,oB u⟩
        ·replace c19:=Bool.eq_false_iff.mpr c19;subst c19;rw[aj (show¬(false=true)by decide)]at H;have ap:=A_ H;clear H
         go_upto_region 10 with (fail)
         go_cut [43] (fun v43 wc=>∃(z:Nat) (am:Bool),v43= .bool am∧ae (cy.j2 z a0 0 am=some r)∧ae (z≤aV)∧ae (Below w.heap.size w wc))
         case first=>
          have H:=ap.out;clear ap;by_cases F:a1=4
          ·rw[ai F]at H;have U:(a1==4)=true:=beq_iff_eq.mpr F;have aS:(a1 != 4)=false:=bne_eq_false_iff_eq.mpr F;clear F
           (first|rw[U]|(simp only[bJ,cu];rw[U])|skip)
           have H':=A_ H;clear H;go_wp2
           go_meet
           case rel=>exact⟨_,((a2==0)),eS,H',⟨by have:=X.out;have:=aR.out;first|omega|exact Nat.le_refl _⟩,⟨oB u⟩⟩
          ·rw[aj F]at H;have U:(a1==4)=false:=beq_eq_false_iff_ne.mpr F;have aS:(a1 != 4)=true:=bne_iff_ne.mpr F
           (first|rw[U]|(simp only[bJ,cu];rw[U])|skip)
           have H':=A_ H;clear H;go_wp2
           go_meet
           case rel=>exact⟨_,(false),eS,H',⟨by have:=X.out;have:=aR.out;first|omega|exact Nat.le_refl _⟩,⟨oB u⟩⟩
         case rest=>
          clear ap
          try clear c1
          try clear c2
          try clear p2
          try clear c6
          try clear aT
          try clear c8
          try clear c9
          try clear aB
          try clear aC
          try clear c11
          try clear c12
          try clear c13
          try clear ar
          try clear au
          try clear c16
          try clear c18
          try clear G
          try clear av
          try clear c19
          try clear V
          try clear F
          try clear U
          try clear aS
          try clear p2
          try clear aT
          obtain⟨z,am,rfl,D,aY,u⟩:=hcut;cases z with
          |zero=>exact absurd D.out (by simp[cy.j2])
          |succ a4=>
           have H:=D.out;clear D;simp only[cy.j2]at H;by_cases ad:am=true
           ·subst ad;rw[ai rfl]at H;replace H:=ay H;obtain⟨t116,aL,H⟩:=H
            (try dsimp only at H)
            have aK:=A_ aL;clear aL;by_cases af:t116=true
            ·subst af;rw[ai rfl]at H;obtain rfl:=aA H
             go_wp2_with (first|((with_reducible refine bp (f:=111) rfl ?_);refine gL (some 53) Tryz.func111 #[.int .i64 (wrap64 (Int.tdiv a0 2))] ?_;(with_reducible refine(cL.c (wrap64 (Int.tdiv a0 2)) true _ aK.out).mono ?_);rintro e w' ⟨rfl,⟨nd,rfl⟩⟩;refine⟨_,rfl,?_⟩))
             go_ret;exact⟨eR,oB u⟩
            ·replace af:=Bool.eq_false_iff.mpr af;subst af;rw[aj (show¬(false=true)by decide)]at H;obtain rfl:=aA H
             go_wp2_with (first|((with_reducible refine bp (f:=111) rfl ?_);refine gL (some 53) Tryz.func111 #[.int .i64 (wrap64 (Int.tdiv a0 2))] ?_;(with_reducible refine(cL.c (wrap64 (Int.tdiv a0 2)) false _ aK.out).mono ?_);rintro e w' ⟨rfl,⟨nd,rfl⟩⟩;refine⟨_,rfl,?_⟩))
             go_ret;exact⟨eR,oB u⟩
           ·replace ad:=Bool.eq_false_iff.mpr ad;subst ad;rw[aj (show¬(false=true)by decide)]at H;replace H:=ay H;obtain⟨t117,aN,H⟩:=H
            (try dsimp only at H)
            have aM:=A_ aN;clear aN;by_cases ag:t117=true
            ·subst ag;rw[ai rfl]at H;obtain rfl:=aA H
             go_wp2_with (first|((with_reducible refine bp (f:=111) rfl ?_);refine gL (some 53) Tryz.func111 #[.int .i64 0] ?_;(with_reducible refine(cL.c 0 true _ aM.out).mono ?_);rintro e w' ⟨rfl,⟨nd,rfl⟩⟩;refine⟨_,rfl,?_⟩))
             go_ret;exact⟨eR,oB u⟩
            ·replace ag:=Bool.eq_false_iff.mpr ag;subst ag;rw[aj (show¬(false=true)by decide)]at H;obtain rfl:=aA H
             go_wp2_with (first|((with_reducible refine bp (f:=111) rfl ?_);refine gL (some 53) Tryz.func111 #[.int .i64 0] ?_;(with_reducible refine(cL.c 0 false _ aM.out).mono ?_);rintro e w' ⟨rfl,⟨nd,rfl⟩⟩;refine⟨_,rfl,?_⟩))
             go_ret;exact⟨eR,oB u⟩
mutual
def cK.j0:Nat→Int→List (ag)→Bool→Option (List Int×Bool)
 |0,_,_,_=>none
 |k+1,x0,x1,z=>if z=true then(some ((([]:List Int)),false))else(if 12≤35184372088832 then((some (List.replicate 12 0:List Int)).bind fun u=>(if 0<(u.length:Int)then(cK.l0 k x1 (u.set (0:Int).toNat x0) 0)else(none)))else(none))
def cK.l0:Nat→List (ag)→List Int→Int→Option (List Int×Bool)
 |0,_,_,_=>none
 |k+1,x1,z,u=>if u<(x1.length:Int)then(if 0≤u then(if 0≤((ar x1 u).f0)then(if((ar x1 u).f0)<(z.length:Int)then((cy.f k (rd z ((ar x1 u).f0)) ((ar x1 u).f2) ((ar x1 u).f3)).bind fun t131=>(if t131=0 then(some ((([]:List Int)),false))else(if 0≤((ar x1 u).f1)then(if((ar x1 u).f1)<(z.length:Int)then(cK.l0 k x1 (z.set (((ar x1 u).f1):Int).toNat t131) (wrap64 (u+1)))else(none))else(none))))else(none))else(none))else(none))else(some (z,true))
end
def cK.f (k:Nat) (a0:Int) (l1:List (ag)):Option (List Int×Bool):=(jm.f l1).bind fun t118=>(if t118=true then((cL.f a0).bind fun t119=>(cK.j0 k a0 l1 (!t119)))else(cK.j0 k a0 l1 true))
def cK.T8:Bool×List (List Nat×List Nat):=(true,[([],[]),([],[]),([],[]),([1,2],[1,2]),([3],[3]),([4],[4]),([0,5],[0,5]),([6],[6]),([],[]),([],[]),([8,9],[8,9]),([10],[10]),([11],[11]),([],[]),([],[]),([13,14],[13,14]),([15],[15]),([16],[16]),([7,12,17],[7,12,17]),([18,18,0,1,2,3,4,5,6,7,8,9,10,11,12,13,14,15,16,17,18],[18])])
def cK.B8:List Nat:=[0,0,0,6,14,30,63,127,0,0,768,1792,3840,0,0,24576,57344,122880,262143,524287]
theorem cK.ju:aW .any (opsOf Tryz.f151 8)=cK.T8:=by kernel_rfl
theorem cK.iT:bL cK.T8.2 cK.B8=true:=by kernel_rfl
theorem cK.c (k:Nat) (a0:Int) (A1:Option Addr) (c1:Nat) (l1:List (ag)) (r1:List Int) (r2:Bool) (w:World) (hr1:Kd.C aN w A1 l1.length l1) (hc1:l1.length≤c1) (h:cK.f k a0 l1=some (r1,r2)):
  Calls Tryz.prog 151 #[.int .i64 a0,.slice A1 l1.length c1] w fun e w'=>∃ct:Value,e= .returned (.tuple #[ct,.bool r2])∧Kd.R (Kd.int .i64) 3 w' w.heap.size (fun _=>True) ct r1∧Below w.heap.size w w':=by
 have af:=A_ hr1;have b_:=A_ hc1;clear hr1 hc1;have z:=A_ (Below.refl w.heap.size w);have H:((jm.f l1).bind fun t118=>(if t118=true then((cL.f a0).bind fun t119=>(cK.j0 k a0 l1 (!t119)))else(cK.j0 k a0 l1 true)))=some (r1,r2):=h;clear h;have bG:=A_ H;clear H;go_enter Tryz.func151,Tryz.ntmps151
 go_upto_region 1 with (fail)
 go_cut [16] (fun v16 wc=>∃(aM:Nat) (bE:Bool),v16= .bool bE∧ae (cK.j0 aM a0 l1 bE=some (r1,r2))∧ae (aM≤k)∧ae (Below w.heap.size w wc))
 case first=>
  have H:=bG.out;clear bG;replace H:=ay H;obtain⟨t118,b7,H⟩:=H
  (try dsimp only at H)
  have b5:=A_ b7;clear b7;by_cases c5:t118=true
  ·subst c5;rw[ai rfl]at H;replace H:=ay H;obtain⟨t119,b8,H⟩:=H
   (try dsimp only at H)
   have cz:=A_ b8;clear b8;have H':=A_ H;clear H
   go_wp2_with (first|((with_reducible refine bp (f:=109) rfl ?_);refine gL (some 10) Tryz.func109 #[.slice A1 l1.length c1] ?_;(with_reducible refine(jm.c _ _ l1 true _ ?aT ?aU b5.out).mono ?_);(case aT=>exact bF af.out);(case aU=>exact b_.out);rintro e w7 ⟨rfl,hb⟩;refine⟨_,rfl,?_⟩;have G:=A_ (aV (oB z) hb);clear z;have z:=G;clear G;(try clear hb);(try clear hb2);(try clear hk);(try clear hi))|(go_at_call 111;(with_reducible refine(cL.c a0 t119 _ cz.out).mono ?_);rintro e w' ⟨rfl,⟨nd,rfl⟩⟩))
   go_meet
   case rel=>exact⟨_,(!t119),eS,H',⟨by first|omega|exact Nat.le_refl _⟩,⟨oB z⟩⟩
  ·replace c5:=Bool.eq_false_iff.mpr c5;subst c5;rw[aj (show¬(false=true)by decide)]at H;have H':=A_ H;clear H
   go_wp2_with (first|((with_reducible refine bp (f:=109) rfl ?_);refine gL (some 10) Tryz.func109 #[.slice A1 l1.length c1] ?_;(with_reducible refine(jm.c _ _ l1 false _ ?aT ?aU b5.out).mono ?_);(case aT=>exact bF af.out);(case aU=>exact b_.out);rintro e dm ⟨rfl,hb⟩;refine⟨_,rfl,?_⟩;have G:=A_ (aV (oB z) hb);clear z;have z:=G;clear G;(try clear hb);(try clear hb2);(try clear hk);(try clear hi)))
   go_meet
   case rel=>exact⟨_,(true),eS,H',⟨by first|omega|exact Nat.le_refl _⟩,⟨oB z⟩⟩
 case rest=>
  clear bG
  try clear c1
  try clear p2
  try clear c5
  obtain⟨aM,bE,rfl,aJ,ca,z⟩:=hcut;cases aM with
  |zero=>exact absurd aJ.out (by simp[cK.j0])
  |succ bC=>
   have H:=aJ.out;clear aJ;simp only[cK.j0]at H;by_cases c9:bE=true
   ·subst c9;rw[ai rfl]at H;obtain⟨cX,bn⟩:∃aH:List Int,aH=(([]:List Int)):=⟨_,rfl⟩;replace H:(some (cX,false))=some (r1,r2):=by first|(rw[bn];with_reducible exact H)|(have O:=(az _ _).symm.trans H;rw[bn];with_reducible exact O)|(have O:=(az _ _).symm.trans H;with_reducible exact O)|with_reducible exact H|(rw[bn];exact H)|exact H
    have cc:=A_ bn;clear bn;simp only[Option.some.injEq,Prod.mk.injEq]at H;obtain⟨rfl,rfl⟩:=H
    go_wp2_with (first|((with_reducible refine aC (N:=17) rfl ?_);refine Kd.dR (Kd.int .i64) _ 3 ?hg (N:=17) ?hd (xs:=([]:List Int)) (inner:=[]) (ok:=fun _=>True) (bD:=fun _=>True) ?hr ?hp (fun _ hk=>hk) trivial (Below.refl _ _) (Nat.le_refl _) (by simp) ?_;(case hd=>rfl);(case hg=>rfl);(case hr=>first|(go_simp;done)|(go_simp;rfl));(case hp=>exact(aI.none _ _));intro df dh a5 hb a3 a4;clear a3 a4;(first|rw[←cc.out]at a5|(simp only[Int.reduceToNat]at a5;rw[←cc.out]at a5));have G:=A_ (Kd.cD a5 (aZ (oB z)));have J:=A_ (aV (oB z) hb);clear z;have cA:=G;have z:=J;clear G J hb a5))
    go_ret2;exact⟨_,eR,oR cA,oB z⟩
   ·replace c9:=Bool.eq_false_iff.mpr c9;subst c9;rw[aj (show¬(false=true)by decide)]at H;by_cases c12:12≤35184372088832
    ·rw[ai c12]at H;have cI:=aw c12;have cJ:decide (12≤35184372088832)=true:=ah c12;clear c12;obtain⟨ad,bo⟩:∃aH:List Int,aH=(List.replicate 12 0):=⟨_,rfl⟩;replace H:(if 0<(ad.length:Int)then(cK.l0 bC l1 (ad.set (0:Int).toNat a0) 0)else(none))=some (r1,r2):=by first|(rw[bo];with_reducible exact H)|(have O:=(az _ _).symm.trans H;rw[bo];with_reducible exact O)|(have O:=(az _ _).symm.trans H;with_reducible exact O)|with_reducible exact H|(rw[bo];exact H)|exact H
     have cd:=A_ bo;clear bo;by_cases c13:0<(ad.length:Int)
     ·rw[ai c13]at H;have cN:decide (0<(ad.length:Int))=true:=ah c13;have cO:decide (0<ad.length)=true:=ah (by omega);clear c13;obtain⟨b1,bq⟩:∃aH:List Int,aH=(ad.set (0:Int).toNat a0):=⟨_,rfl⟩;replace H:(cK.l0 bC l1 b1 0)=some (r1,r2):=by first|(rw[bq];with_reducible exact H)|(have O:=(az _ _).symm.trans H;rw[bq];with_reducible exact O)|(have O:=(az _ _).symm.trans H;with_reducible exact O)|with_reducible exact H|(rw[bq];exact H)|exact H
      have cE:=A_ bq;clear bq;have H':=A_ H;clear H
      go_wp2_with (first|((with_reducible refine aC (N:=18) rfl ?_);refine Kd.sD (Kd.int .i64) _ 3 rfl (N:=18) rfl 25 _ _ rfl 12 rfl rfl Tryz.underlying25 (.int .i64 0) 8 info3 rfl (by decide) (by omega) 0 (ok:=fun _=>True) (bD:=fun _=>True) rfl (fun _ hk=>hk) trivial (by omega) (by omega) (Below.refl _ _) (Nat.le_refl _) ?_;intro v124 cw a6 hb a3 a4;clear a3 a4;(first|rw[←cd.out]at a6|(simp only[Int.reduceToNat]at a6;rw[←cd.out]at a6));have G:=A_ (Kd.cD a6 (aZ (oB z)));have J:=A_ (aV (oB z) hb);clear z;have aK:=G;have z:=J;clear G J hb a6;have bt:0≤(0:Int):=(by omega);have bu:(0:Int)<((ad.length:Int):Int):=oD;have cW:(0<ad.length)=True:=aw (by omega);obtain⟨V,bP,cf,cg,cV,c8,b'⟩:=Kd.kH aK.out (by omega);(first|cases cf|(injection cf with bA cU cT;(first|subst bA|(injection bA with bA;subst bA));subst cT;clear cU));have b9:=A_ cg;have cZ:=A_ b';clear cg cV b';obtain⟨bU,ch⟩:=Kd.kG 0 aK.out (0:Int) bt bu;(try rw[show((0:Int)).toNat=0 from rfl]at bU);(try simp only[Nat.reduceMul,Nat.zero_mul,Nat.zero_add,Nat.reduceAdd]at bU);(try rw[show((0:Int)).toNat=0 from rfl]at ch);(try simp only[Nat.reduceMul,Nat.zero_mul,Nat.zero_add,Nat.reduceAdd]at ch);replace bt:=aw bt;replace bu:=aw bu;obtain⟨cn,co⟩:=Kd.kG 0 aK.out (0:Int) (by omega) (oD);(try simp only[Int.reduceToNat,Int.toNat_zero,Int.toNat_ofNat,Nat.reduceMul,Nat.zero_mul,Nat.zero_add]at cn co);(try rw[show((0:Int)).toNat=0 from rfl]at cn);(try rw[show((0:Int)).toNat=0 from rfl]at co);have bH:=Kd.mO aK.out (0:Int) a0)|((with_reducible refine lC (t:=3) (p:=21) rfl ?_);refine lN (t:=3) (p:=21) (v:= ?CG) (w1:=(cw.setCell ⟨V,(0:Int).toNat,none⟩ (.int .i64 a0))) ?hg ?ho ?hn ?hr ?_;(case ho=>rfl);(case hg=>rfl);(case hn=>rfl);(case hr=>first|(go_simp;done)|(go_simp;rfl));intro bZ hw;have hg:cw.grownBy bZ (some V):=(by rw[hw];exact bH.2);have a7:Kd.R (Kd.int .i64) 3 bZ w.heap.size (fun _=>True) (.slice (some ⟨V,0,none⟩) ad.length bP) b1:=(by rw[hw,cE.out];exact bH.1);clear bH;have G:=A_ (a7);have J:=A_ ((by rw[hw];exact dZ (z.out) b9.out:Below w.heap.size w bZ));clear aK z;have aK:=G;have z:=J;clear G J hg hw a7))
      go_loopg [7] bC (fun aM v7 w'=>∃(U:List Int) (u:Int),v7= .int .i64 u∧ae (cK.l0 aM l1 U u=some (r1,r2))∧ae (aM≤bC)∧ae (Kd.R (Kd.int .i64) 3 w' w.heap.size (fun _=>True) (.slice (some ⟨V,0,none⟩) ad.length bP) U)∧ae (Below w.heap.size w w'))
      case atStart=>exact⟨(b1),(0),eS,H',⟨Nat.le_refl _⟩,⟨oR aK⟩,⟨oB z⟩⟩
      case round=>
       clear H'
       try clear c1
       try clear p1
       try clear q1
       try clear hx1
       try clear de
       try clear p2
       try clear c5
       try clear c9
       try clear c10
       try clear c12
       try clear cI
       try clear cJ
       try clear c13
       try clear cN
       try clear cO
       try clear bt
       try clear bu
       try clear da
       try clear cW
       try clear c_
       try clear c15
       try clear bU
       try clear bt
       try clear p2
       try clear bu
       obtain⟨U,u,rfl,aJ,cb,I,z⟩:=hrel;have bB:=(Kd.cr I.out).1;rw[bB]at I
       (try simp only[bB])
       cases gk with
       |zero=>exact absurd aJ.out (by simp[cK.l0])
       |succ k2=>
        have H:=aJ.out;clear aJ;simp only[cK.l0]at H;by_cases c19:u<(l1.length:Int)
        ·rw[ai c19]at H;have cP:decide (u<(l1.length:Int))=true:=ah c19;clear c19;by_cases c20:0≤u
         ·rw[ai c20]at H;have c0:decide (0≤u)=true:=ah c20;clear c20;by_cases bv:0≤((ar l1 u).f0)
          ·rw[ai bv]at H;have c3:decide (0≤((ar l1 u).f0))=true:=ah bv;clear bv;by_cases bw:((ar l1 u).f0)<(U.length:Int)
           ·rw[ai bw]at H;have c4:decide (((ar l1 u).f0)<(U.length:Int))=true:=ah bw;clear bw;replace H:=ay H;obtain⟨t131,b4,H⟩:=H
            (try dsimp only at H)
            have b3:=A_ b4;clear b4;by_cases aL:t131=0
            ·rw[ai aL]at H;have cQ:(t131==0)=true:=beq_iff_eq.mpr aL;have cR:(t131 != 0)=false:=bne_eq_false_iff_eq.mpr aL;clear aL;obtain⟨cY,br⟩:∃aH:List Int,aH=(([]:List Int)):=⟨_,rfl⟩;replace H:(some (cY,false))=some (r1,r2):=by first|(rw[br];with_reducible exact H)|(have O:=(az _ _).symm.trans H;rw[br];with_reducible exact O)|(have O:=(az _ _).symm.trans H;with_reducible exact O)|with_reducible exact H|(rw[br];exact H)|exact H
             have ce:=A_ br;clear br;simp only[Option.some.injEq,Prod.mk.injEq]at H;obtain⟨rfl,rfl⟩:=H
             try go_wp2
             have G:=A_ (Kd.cq I.out);have J:=A_ (cv z.out);clear I z;have I:=G;have z:=J;clear G J;have aO:0≤(u:Int):=oD;have aS:u<(l1.length:Int):=oD;obtain⟨D,bQ,al,am,ao,ap⟩:=eN af.out u aO aS;have bc:=ap;have bb:=ao;have a_:=am;have a9:=al;cases bQ;replace al:=hW z al;replace am:=hW z am;replace ao:=hW z ao;replace ap:=hW z ap;replace aO:=aw aO;replace aS:=aw aS;have aP:0≤(((ar l1 u).f0):Int):=oD;have aW:((ar l1 u).f0)<(U.length:Int):=oD;obtain⟨bL,bR,X⟩:=Kd.dY (Kd.cr I.out).2.2 ((ar l1 u).f0) aP aW;obtain rfl:(⟨V,0,none⟩:Addr)=bL:=(by injection bR)
             (first|simp only[add_plain]at X|simp only[sR]at X|simp only[Addr.add,Nat.zero_add]at X|skip)
             replace aP:=aw aP;replace aW:=aw aW;have aQ:0≤(u:Int):=oD;have aY:u<(l1.length:Int):=oD;obtain⟨bN,bS,aq,au,av,aB⟩:=eN af.out u aQ aY;have bg:=aB;have bf:=av;have be:=au;have bd:=aq;obtain rfl:D=bN:=(by injection bS);replace aq:=hW z aq;replace au:=hW z au;replace av:=hW z av;replace aB:=hW z aB;replace aQ:=aw aQ;replace aY:=aw aY;have aR:0≤(u:Int):=oD;have a1:u<(l1.length:Int):=oD;obtain⟨bO,bT,aD,aE,aF,aG⟩:=eN af.out u aR a1;have bm:=aG;have bl:=aF;have bk:=aE;have bj:=aD;obtain rfl:D=bO:=(by injection bT);replace aD:=hW z aD;replace aE:=hW z aE;replace aF:=hW z aF;replace aG:=hW z aG;replace aR:=aw aR;replace a1:=aw a1;refine fX (n:=20) (S:=fun w'=>w'.cell? (D.add ((u).toNat*4))=some (.int .i64 ((ar l1 u).f0))∧w'.cell? ⟨(D.add ((u).toNat*4)).block,(D.add ((u).toNat*4)).off+1,none⟩=some (.int .i64 ((ar l1 u).f1))∧w'.cell? ⟨(D.add ((u).toNat*4)).block,(D.add ((u).toNat*4)).off+2,none⟩=some (.int .i64 ((ar l1 u).f2))∧w'.cell? ⟨(D.add ((u).toNat*4)).block,(D.add ((u).toNat*4)).off+3,none⟩=some (.int .i64 ((ar l1 u).f3))∧w'.cell? ⟨V,(((ar l1 u).f0)).toNat,none⟩=some (.int .i64 (rd U ((ar l1 u).f0)))∧w'.cell? (D.add ((u).toNat*4))=some (.int .i64 ((ar l1 u).f0))∧w'.cell? ⟨(D.add ((u).toNat*4)).block,(D.add ((u).toNat*4)).off+1,none⟩=some (.int .i64 ((ar l1 u).f1))∧w'.cell? ⟨(D.add ((u).toNat*4)).block,(D.add ((u).toNat*4)).off+2,none⟩=some (.int .i64 ((ar l1 u).f2))∧w'.cell? ⟨(D.add ((u).toNat*4)).block,(D.add ((u).toNat*4)).off+3,none⟩=some (.int .i64 ((ar l1 u).f3))∧w'.cell? (D.add ((u).toNat*4))=some (.int .i64 ((ar l1 u).f0))∧w'.cell? ⟨(D.add ((u).toNat*4)).block,(D.add ((u).toNat*4)).off+1,none⟩=some (.int .i64 ((ar l1 u).f1))∧w'.cell? ⟨(D.add ((u).toNat*4)).block,(D.add ((u).toNat*4)).off+2,none⟩=some (.int .i64 ((ar l1 u).f2))∧w'.cell? ⟨(D.add ((u).toNat*4)).block,(D.add ((u).toNat*4)).off+3,none⟩=some (.int .i64 ((ar l1 u).f3))) (ds:=[]) #[false,false,false,false,false,false,false,false,false,false,false,false,false,false,false,false,false,false,false,false] (by kernel_rfl) rfl rfl ⟨(hW z a9),(hW z a_),(hW z bb),(hW z bc),X,(hW z bd),(hW z be),(hW z bf),(hW z bg),(hW z bj),(hW z bk),(hW z bl),(hW z bm)⟩ (fun hHeld=> ?_);refine gQ cK.ju cK.iT (fun F ak=> ?_);generalize wr.drew=di at I z al am ao ap X aq au av aB aD aE aF aG hHeld ⊢;refine pA 0 (some 28) F.out ?_;refine pA 1 (some 29) F.out ?_;refine pA 2 (some 30) F.out ?_;refine pA 3 (some 31) F.out ?_;refine pA 4 (some 32) F.out ?_;refine pA 8 (some 36) F.out ?_;refine pA 9 (some 37) F.out ?_;refine pA 10 (some 38) F.out ?_;refine pA 11 (some 39) F.out ?_;refine pA 13 (some 41) F.out ?_;refine pA 14 (some 42) F.out ?_;refine pA 15 (some 43) F.out ?_;refine pA 16 (some 44) F.out ?_;refine pT 5 (some 33) F.out ak.out hHeld ?_;refine pA 6 (some 34) F.out ?_;refine pT 7 (some 35) F.out ak.out hHeld ?_;refine pT 12 (some 40) F.out ak.out hHeld ?_;refine pT 17 (some 45) F.out ak.out hHeld ?_;refine dN (i:=18) (N:=some 46) #[true,true,true,true,true,true,true,true,true,true,true,true,true,true,true,true,true,true,true,false] rfl rfl (dF F.out (by kernel_rfl)) (by decide) (fun K hK=> ?_);refine cG Tryz.func134 (by kernel_rfl) rfl #[.int .i64 (rd U ((ar l1 u).f0)),.int .i64 ((ar l1 u).f2),.int .i64 ((ar l1 u).f3)] (by rfl) rfl rfl (by(try simp only[List.map_toArray,List.map_cons,List.map_nil]);first|done|rfl|(simp only[List.length_drop,List.length_take];rfl)) ?_
             with_reducible refine(cy.c k2 (rd U ((ar l1 u).f0)) ((ar l1 u).f2) ((ar l1 u).f3) t131 _ b3.out).mono ?_
             rintro e dj ⟨rfl,hb⟩;have bK:=(hb.cell (World.block_lt_of_cell? _ _ (hHeld.2.2.2.2.1))).trans (hHeld.2.2.2.2.1);refine⟨_,rfl,?_⟩;have G:=A_ (Kd.b6 (oR I) hb);have J:=A_ (aV (oB z) hb);clear I z;have I:=G;have z:=J;clear G J
             (try clear hb)
             (try clear hb2)
             (try clear hk)
             (try clear hi)
             refine hK.out _ _ ⟨(hW z a9),(hW z a_),(hW z bb),(hW z bc),bK,(hW z bd),(hW z be),(hW z bf),(hW z bg),(hW z bj),(hW z bk),(hW z bl),(hW z bm)⟩ (fun hHeld=> ?_);clear hK K;refine dS (a':= ?_) ?_ ?_;rotate_left
             ·show Act.put _ (some 46) _=_;simp only[Act.put,List.setIfInBounds_toArray,List.set_cons_zero,List.set_cons_succ,bJ,cu];rfl
             refine pA 19 (some 8) F.out ?_;refine fH (gb F.out (by kernel_rfl)) ?_
             try go_wp2_with (first|((with_reducible refine aC (N:=49) rfl ?_);refine Kd.dR (Kd.int .i64) _ 3 ?hg (N:=49) ?hd (xs:=([]:List Int)) (inner:=[]) (ok:=fun _=>True) (bD:=fun _=>True) ?hr ?hp (fun _ hk=>hk) trivial (Below.refl _ _) (Nat.le_refl _) (by simp) ?_;(case hd=>rfl);(case hg=>rfl);(case hr=>first|(go_simp;done)|(go_simp;rfl));(case hp=>exact(aI.none _ _));intro dg dk a2 hb a3 a4;clear a3 a4;(first|rw[←ce.out]at a2|(simp only[Int.reduceToNat]at a2;rw[←ce.out]at a2));have G:=A_ (Kd.iE (oR I) (Kd.ik a2) hb);have J:=A_ (Kd.cD (Kd.wW a2 (Kd.o8 (oR I))) (aZ (oB z)));have cp:=A_ (aV (oB z) hb);clear I z;have I:=G;have cB:=J;have z:=cp;clear G J cp hb a2))
             go_ret2;exact⟨_,eR,by(with_reducible repeat(first|apply Kd.cC|apply Kd.cM|apply Kd.cq));exact Kd.cm cB.out (fun _ hk=>trivial),oB z⟩
            ·rw[aj aL]at H;have cQ:(t131==0)=false:=beq_eq_false_iff_ne.mpr aL;have cR:(t131 != 0)=true:=bne_iff_ne.mpr aL;by_cases bx:0≤((ar l1 u).f1)
             ·rw[ai bx]at H;have c6:decide (0≤((ar l1 u).f1))=true:=ah bx;clear bx;by_cases bz:((ar l1 u).f1)<(U.length:Int)
              ·rw[ai bz]at H;have c7:decide (((ar l1 u).f1)<(U.length:Int))=true:=ah bz;clear bz;obtain⟨b2,bs⟩:∃aH:List Int,aH=(U.set (((ar l1 u).f1):Int).toNat t131):=⟨_,rfl⟩;replace H:(cK.l0 k2 l1 b2 (wrap64 (u+1)))=some (r1,r2):=by first|(rw[bs];with_reducible exact H)|(have O:=(az _ _).symm.trans H;rw[bs];with_reducible exact O)|(have O:=(az _ _).symm.trans H;with_reducible exact O)|with_reducible exact H|(rw[bs];exact H)|exact H
               have cF:=A_ bs;clear bs;have H':=A_ H;clear H
               try go_wp2
               have G:=A_ (Kd.cq I.out);have J:=A_ (cv z.out);clear I z;have I:=G;have z:=J;clear G J;have aO:0≤(u:Int):=oD;have aS:u<(l1.length:Int):=oD;obtain⟨D,bQ,al,am,ao,ap⟩:=eN af.out u aO aS;have bc:=ap;have bb:=ao;have a_:=am;have a9:=al;cases bQ;replace al:=hW z al;replace am:=hW z am;replace ao:=hW z ao;replace ap:=hW z ap;replace aO:=aw aO;replace aS:=aw aS;have aP:0≤(((ar l1 u).f0):Int):=oD;have aW:((ar l1 u).f0)<(U.length:Int):=oD;obtain⟨bL,bR,X⟩:=Kd.dY (Kd.cr I.out).2.2 ((ar l1 u).f0) aP aW;obtain rfl:(⟨V,0,none⟩:Addr)=bL:=(by injection bR)
               (first|simp only[add_plain]at X|simp only[sR]at X|simp only[Addr.add,Nat.zero_add]at X|skip)
               replace aP:=aw aP;replace aW:=aw aW;have aQ:0≤(u:Int):=oD;have aY:u<(l1.length:Int):=oD;obtain⟨bN,bS,aq,au,av,aB⟩:=eN af.out u aQ aY;have bg:=aB;have bf:=av;have be:=au;have bd:=aq;obtain rfl:D=bN:=(by injection bS);replace aq:=hW z aq;replace au:=hW z au;replace av:=hW z av;replace aB:=hW z aB;replace aQ:=aw aQ;replace aY:=aw aY;have aR:0≤(u:Int):=oD;have a1:u<(l1.length:Int):=oD;obtain⟨bO,bT,aD,aE,aF,aG⟩:=eN af.out u aR a1;have bm:=aG;have bl:=aF;have bk:=aE;have bj:=aD;obtain rfl:D=bO:=(by injection bT);replace aD:=hW z aD;replace aE:=hW z aE;replace aF:=hW z aF;replace aG:=hW z aG;replace aR:=aw aR;replace a1:=aw a1;refine fX (n:=20) (S:=fun w'=>w'.cell? (D.add ((u).toNat*4))=some (.int .i64 ((ar l1 u).f0))∧w'.cell? ⟨(D.add ((u).toNat*4)).block,(D.add ((u).toNat*4)).off+1,none⟩=some (.int .i64 ((ar l1 u).f1))∧w'.cell? ⟨(D.add ((u).toNat*4)).block,(D.add ((u).toNat*4)).off+2,none⟩=some (.int .i64 ((ar l1 u).f2))∧w'.cell? ⟨(D.add ((u).toNat*4)).block,(D.add ((u).toNat*4)).off+3,none⟩=some (.int .i64 ((ar l1 u).f3))∧w'.cell? ⟨V,(((ar l1 u).f0)).toNat,none⟩=some (.int .i64 (rd U ((ar l1 u).f0)))∧w'.cell? (D.add ((u).toNat*4))=some (.int .i64 ((ar l1 u).f0))∧w'.cell? ⟨(D.add ((u).toNat*4)).block,(D.add ((u).toNat*4)).off+1,none⟩=some (.int .i64 ((ar l1 u).f1))∧w'.cell? ⟨(D.add ((u).toNat*4)).block,(D.add ((u).toNat*4)).off+2,none⟩=some (.int .i64 ((ar l1 u).f2))∧w'.cell? ⟨(D.add ((u).toNat*4)).block,(D.add ((u).toNat*4)).off+3,none⟩=some (.int .i64 ((ar l1 u).f3))∧w'.cell? (D.add ((u).toNat*4))=some (.int .i64 ((ar l1 u).f0))∧w'.cell? ⟨(D.add ((u).toNat*4)).block,(D.add ((u).toNat*4)).off+1,none⟩=some (.int .i64 ((ar l1 u).f1))∧w'.cell? ⟨(D.add ((u).toNat*4)).block,(D.add ((u).toNat*4)).off+2,none⟩=some (.int .i64 ((ar l1 u).f2))∧w'.cell? ⟨(D.add ((u).toNat*4)).block,(D.add ((u).toNat*4)).off+3,none⟩=some (.int .i64 ((ar l1 u).f3))) (ds:=[]) #[false,false,false,false,false,false,false,false,false,false,false,false,false,false,false,false,false,false,false,false] (by kernel_rfl) rfl rfl ⟨(hW z a9),(hW z a_),(hW z bb),(hW z bc),X,(hW z bd),(hW z be),(hW z bf),(hW z bg),(hW z bj),(hW z bk),(hW z bl),(hW z bm)⟩ (fun hHeld=> ?_);refine gQ cK.ju cK.iT (fun F ak=> ?_);generalize wr.drew=dl at I z al am ao ap X aq au av aB aD aE aF aG hHeld ⊢;refine pA 0 (some 28) F.out ?_;refine pA 1 (some 29) F.out ?_;refine pA 2 (some 30) F.out ?_;refine pA 3 (some 31) F.out ?_;refine pA 4 (some 32) F.out ?_;refine pA 8 (some 36) F.out ?_;refine pA 9 (some 37) F.out ?_;refine pA 10 (some 38) F.out ?_;refine pA 11 (some 39) F.out ?_;refine pA 13 (some 41) F.out ?_;refine pA 14 (some 42) F.out ?_;refine pA 15 (some 43) F.out ?_;refine pA 16 (some 44) F.out ?_;refine pT 5 (some 33) F.out ak.out hHeld ?_;refine pA 6 (some 34) F.out ?_;refine pT 7 (some 35) F.out ak.out hHeld ?_;refine pT 12 (some 40) F.out ak.out hHeld ?_;refine pT 17 (some 45) F.out ak.out hHeld ?_;refine dN (i:=18) (N:=some 46) #[true,true,true,true,true,true,true,true,true,true,true,true,true,true,true,true,true,true,true,false] rfl rfl (dF F.out (by kernel_rfl)) (by decide) (fun K hK=> ?_);refine cG Tryz.func134 (by kernel_rfl) rfl #[.int .i64 (rd U ((ar l1 u).f0)),.int .i64 ((ar l1 u).f2),.int .i64 ((ar l1 u).f3)] (by rfl) rfl rfl (by(try simp only[List.map_toArray,List.map_cons,List.map_nil]);first|done|rfl|(simp only[List.length_drop,List.length_take];rfl)) ?_
               with_reducible refine(cy.c k2 (rd U ((ar l1 u).f0)) ((ar l1 u).f2) ((ar l1 u).f3) t131 _ b3.out).mono ?_
               rintro e cx ⟨rfl,hb⟩;have bK:=(hb.cell (World.block_lt_of_cell? _ _ (hHeld.2.2.2.2.1))).trans (hHeld.2.2.2.2.1);refine⟨_,rfl,?_⟩;have G:=A_ (Kd.b6 (oR I) hb);have J:=A_ (aV (oB z) hb);clear I z;have I:=G;have z:=J;clear G J
               (try clear hb)
               (try clear hb2)
               (try clear hk)
               (try clear hi)
               refine hK.out _ _ ⟨(hW z a9),(hW z a_),(hW z bb),(hW z bc),bK,(hW z bd),(hW z be),(hW z bf),(hW z bg),(hW z bj),(hW z bk),(hW z bl),(hW z bm)⟩ (fun hHeld=> ?_);clear hK K;refine dS (a':= ?_) ?_ ?_;rotate_left
               ·show Act.put _ (some 46) _=_;simp only[Act.put,List.setIfInBounds_toArray,List.set_cons_zero,List.set_cons_succ,bJ,cu];rfl
               refine pA 19 (some 8) F.out ?_;refine fH (gb F.out (by kernel_rfl)) ?_;have bV:0≤(u:Int):=oD;have bX:u<(l1.length:Int):=oD;obtain⟨cH,cS,ci,cj,ck,cl⟩:=eN af.out u bV bX;obtain rfl:D=cH:=(by injection cS);replace ci:=hW z ci;replace cj:=hW z cj;replace ck:=hW z ck;replace cl:=hW z cl;replace bV:=aw bV;replace bX:=aw bX;have bW:0≤(((ar l1 u).f1):Int):=oD;have bY:(((ar l1 u).f1):Int)<((U.length:Int):Int):=oD;obtain⟨db,c'⟩:=Kd.kG 0 I.out (((ar l1 u).f1):Int) bW bY;replace bW:=aw bW;replace bY:=aw bY;obtain⟨dc,dd⟩:=Kd.kG 0 I.out (((ar l1 u).f1):Int) (oD) (oD);have bI:=Kd.mO I.out (((ar l1 u).f1):Int) t131
               try go_wp2_with (first|((with_reducible refine lC (t:=3) (p:=57) rfl ?_);refine lN (t:=3) (p:=57) (v:= ?CI) (w1:=(cx.setCell ⟨V,(((ar l1 u).f1):Int).toNat,none⟩ (.int .i64 t131))) ?hg ?ho ?hn ?hr ?_;(case ho=>rfl);(case hg=>rfl);(case hn=>rfl);(case hr=>first|(go_simp;done)|(go_simp;rfl));intro b0 hw;have hg:cx.grownBy b0 (some V):=(by rw[hw];exact bI.2);have a7:Kd.R (Kd.int .i64) 3 b0 w.heap.size (fun _=>True) (.slice (some ⟨V,0,none⟩) U.length bP) b2:=(by rw[hw,cF.out];exact bI.1);clear bI;have G:=A_ (a7);have J:=A_ ((by rw[hw];exact dZ (z.out) b9.out:Below w.heap.size w b0));clear I z;have I:=G;have z:=J;clear G J hg hw a7))
               (try simp only[←bB])
               go_roundg k2
               case measure=>have:=ca.out;have:=cb.out;omega
               case rel=>exact⟨(b2),(wrap64 (u+1)),eS,H',⟨by have:=ca.out;have:=cb.out;omega⟩,⟨by(try simp only[bB]);(with_reducible repeat(first|apply Kd.cC|apply Kd.cM|apply Kd.cq));exact I.out⟩,⟨oB z⟩⟩
              ·rw[aj bz]at H;exact absurd H (by simp)
             ·rw[aj bx]at H;exact absurd H (by simp)
           ·rw[aj bw]at H;exact absurd H (by simp)
          ·rw[aj bv]at H;exact absurd H (by simp)
         ·rw[aj c20]at H;exact absurd H (by simp)
        ·rw[aj c19]at H;have cP:decide (u<(l1.length:Int))=false:=ax c19;clear c19;simp only[Option.some.injEq,Prod.mk.injEq]at H;obtain⟨rfl,rfl⟩:=H;go_wp2;go_ret2;exact⟨_,eR,oR I,oB z⟩
     ·rw[aj c13]at H;exact absurd H (by simp)
    ·rw[aj c12]at H;exact absurd H (by simp)
def eW.l0:Nat→Int→List (ag)→Int→Option ((List (ag)))
 |0,_,_,_=>none
 |k+1,x0,x3,u=>if u<11 then((cA.f x0 0 5000).bind fun t163=>(if t163=true then((some (([1,2,1,2,1,2,2,1,2,1,2]:List Int):List Int)).bind fun z=>(if 0≤u then(if u<(z.length:Int)then(if x3.length<4398046511104 then(eW.l0 k x0 (x3++[(⟨u,wrap64 (u+1),rd z u,x0⟩:ag)]) (wrap64 (u+1)))else(none))else(none))else(none)))else(some x3)))else(some x3)
def eW.f (k:Nat) (a0:Int):Option ((List (ag))):=eW.l0 k a0 (([]:List (ag))) 0
theorem eW.c (k:Nat) (a0:Int) (r:List (ag)) (w:World) (h:eW.f k a0=some r):
  Calls Tryz.prog 92 #[.int .i64 a0] w fun e w'=>∃aJ:Value,e= .returned (aJ)∧Kd.R aN 110 w' w.heap.size (fun _=>True) aJ r∧Below w.heap.size w w':=by
 have a7:=Tryz.underlying110;have z:=A_ (Below.refl w.heap.size w);have H:(eW.l0 k a0 (([]:List (ag))) 0)=some r:=h;clear h;obtain⟨aK,X⟩:∃al:List (ag),al=(([]:List (ag))):=⟨_,rfl⟩;replace H:(eW.l0 k a0 aK 0)=some r:=by first|(rw[X];with_reducible exact H)|(have D:=(az _ _).symm.trans H;rw[X];with_reducible exact D)|(have D:=(az _ _).symm.trans H;with_reducible exact D)|with_reducible exact H|(rw[X];exact H)|exact H
 have aE:=A_ X;clear X;have H':=A_ H;clear H;go_enter Tryz.func92,Tryz.ntmps92
 go_wp2_with (first|((with_reducible refine aC (N:=6) rfl ?_);refine Kd.dR aN _ 110 ?hg (N:=6) ?hd (xs:=([]:List (ag))) (inner:=[]) (ok:=fun _=>True) (bD:=fun _=>True) ?hr ?hp (fun _ hk=>hk) trivial (Below.refl _ _) (Nat.le_refl _) (by simp) ?_;(case hd=>rfl);(case hg=>rfl);(case hr=>first|(go_simp;done)|(go_simp;rfl));(case hp=>exact(aI.none _ _));intro a_ w2 V hb ao ap;clear ao ap;(first|rw[←aE.out]at V|(simp only[Int.reduceToNat]at V;rw[←aE.out]at V));have I:=A_ (Kd.cD V (aZ (oB z)));have J:=A_ (aV (oB z) hb);clear z;have aQ:=I;have z:=J;clear I J hb V))
 go_loopg [3,4] k (fun aH v3 v4 w'=>∃(K:List (ag)) (u:Int),v4= .int .i64 u∧ae (eW.l0 aH a0 K u=some r)∧ae (aH≤k)∧ae (Kd.R aN 110 w' w.heap.size (fun _=>True) v3 K)∧ae (Below w.heap.size w w'))
 case atStart=>exact⟨(aK),(0),eS,H',⟨Nat.le_refl _⟩,⟨oR aQ⟩,⟨oB z⟩⟩
 case round=>
  clear H'
  try clear p2
  obtain⟨K,u,rfl,am,aD,G,z⟩:=hrel;cases gk with
  |zero=>exact absurd am.out (by simp[eW.l0])
  |succ k1=>
   have H:=am.out;clear am;simp only[eW.l0]at H;by_cases c4:u<11
   ·rw[ai c4]at H;have aW:decide (u<11)=true:=ah c4;clear c4;replace H:=ay H;obtain⟨t163,av,H⟩:=H
    (try dsimp only at H)
    have au:=A_ av;clear av;by_cases c6:t163=true
    ·subst c6;rw[ai rfl]at H;obtain⟨F,ad⟩:∃al:List Int,al=(([1,2,1,2,1,2,2,1,2,1,2]:List Int)):=⟨_,rfl⟩;replace H:(if 0≤u then(if u<(F.length:Int)then(if K.length<4398046511104 then(eW.l0 k1 a0 (K++[(⟨u,wrap64 (u+1),rd F u,a0⟩:ag)]) (wrap64 (u+1)))else(none))else(none))else(none))=some r:=by first|(rw[ad];with_reducible exact H)|(have D:=(az _ _).symm.trans H;rw[ad];with_reducible exact D)|(have D:=(az _ _).symm.trans H;with_reducible exact D)|with_reducible exact H|(rw[ad];exact H)|exact H
     have aG:=A_ ad;clear ad;by_cases c7:0≤u
     ·rw[ai c7]at H;have a4:decide (0≤u)=true:=ah c7;clear c7;by_cases c8:u<(F.length:Int)
      ·rw[ai c8]at H;have a5:decide (u<(F.length:Int))=true:=ah c8;clear c8;by_cases c9:K.length<4398046511104
       ·rw[ai c9]at H;have aT:=A_ c9;clear c9;obtain⟨aM,af⟩:∃al:List (ag),al=(K++[(⟨u,wrap64 (u+1),rd F u,a0⟩:ag)]):=⟨_,rfl⟩;replace H:(eW.l0 k1 a0 aM (wrap64 (u+1)))=some r:=by first|(rw[af];with_reducible exact H)|(have D:=(az _ _).symm.trans H;rw[af];with_reducible exact D)|(have D:=(az _ _).symm.trans H;with_reducible exact D)|with_reducible exact H|(rw[af];exact H)|exact H
        have aU:=A_ af;clear af;have H':=A_ H;clear H
        go_wp2_with (first|(go_at_call 72;(with_reducible refine(cA.c a0 0 5000 true _ au.out).mono ?_);rintro e w' ⟨rfl,⟨nd,rfl⟩⟩)|((with_reducible refine aC (N:=15) rfl ?_);refine Kd.dR (Kd.int .i64) _ 3 ?hg (N:=15) ?hd (xs:=([1,2,1,2,1,2,2,1,2,1,2]:List Int)) (inner:=[.int .i64 1,.int .i64 2,.int .i64 1,.int .i64 2,.int .i64 1,.int .i64 2,.int .i64 2,.int .i64 1,.int .i64 2,.int .i64 1,.int .i64 2]) (ok:=fun _=>True) (bD:=fun _=>True) ?hr ?hp (fun _ hk=>hk) trivial (Below.refl _ _) (Nat.le_refl _) (by simp) ?_;(case hd=>rfl);(case hg=>rfl);(case hr=>first|(go_simp;done)|(go_simp;rfl));(case hp=>exact(aI.one (show Kd.M (Kd.int .i64) _ _ _ 1 [.int .i64 1]from rfl) (aI.one (show Kd.M (Kd.int .i64) _ _ _ 2 [.int .i64 2]from rfl) (aI.one (show Kd.M (Kd.int .i64) _ _ _ 1 [.int .i64 1]from rfl) (aI.one (show Kd.M (Kd.int .i64) _ _ _ 2 [.int .i64 2]from rfl) (aI.one (show Kd.M (Kd.int .i64) _ _ _ 1 [.int .i64 1]from rfl) (aI.one (show Kd.M (Kd.int .i64) _ _ _ 2 [.int .i64 2]from rfl) (aI.one (show Kd.M (Kd.int .i64) _ _ _ 2 [.int .i64 2]from rfl) (aI.one (show Kd.M (Kd.int .i64) _ _ _ 1 [.int .i64 1]from rfl) (aI.one (show Kd.M (Kd.int .i64) _ _ _ 2 [.int .i64 2]from rfl) (aI.one (show Kd.M (Kd.int .i64) _ _ _ 1 [.int .i64 1]from rfl) (aI.one (show Kd.M (Kd.int .i64) _ _ _ 2 [.int .i64 2]from rfl) (aI.none _ _)))))))))))));intro bb bd U hb ao ap;clear ao ap;(first|rw[←aG.out]at U|(simp only[Int.reduceToNat]at U;rw[←aG.out]at U));have I:=A_ (Kd.b6 (oR G) hb);have J:=A_ (Kd.cD U (aZ (oB z)));have ak:=A_ (aV (oB z) hb);clear G z;have G:=I;have O:=J;have z:=ak;clear I J ak hb U;obtain⟨a2,a6,a1⟩:=Kd.cJ O.out;subst a1;have aq:0≤(u:Int):=oD;have ar:u<(F.length:Int):=oD;obtain⟨a3,aY,a9⟩:=Kd.dY (Kd.cr O.out).2.2 u aq ar;cases aY;replace aq:=aw aq;replace ar:=aw ar)|((with_reducible refine fI (b:= .append) (xs:= #[.tmp 19,.tmp 26]) rfl ?_);at_builtin;refine Kd.gS aN (w0:=w) w.heap.size rfl (.tmp 19) (.tmp 26) 24 110 (.agg #[(.int .i64 0),(.int .i64 0),(.int .i64 0),(.int .i64 0)]) 32 rfl Tryz.underlying24 om rfl (by decide) (by omega) u3 K (⟨u,wrap64 (u+1),rd F u,a0⟩:ag) [.int .i64 u,.int .i64 (wrap64 (u+1)),.int .i64 (rd F u),.int .i64 a0] (fun _=>True) (fun _=>False) rfl rfl ?aP (fun _ hk=>hk.elim) ?aF ?aO ?aB ?aS ?aL ?_;(case aP=>exact pK _ _ _ (⟨u,wrap64 (u+1),rd F u,a0⟩:ag));(case aB=>exact(oB z));(case aF=>exact(fun _ _=>trivial));(case aO=>exact(oR G));(case aS=>exact(aZ (oB z)));(case aL=>have:=aT.out;omega);intro bc be ho hb hg hat;rw[←aU.out]at ho;have I:=A_ (Kd.mN (oR O) (Kd.mR (oR G)) (by decide) hg);have J:=A_ (hb);have ak:=A_ (ho);clear O z G;have O:=I;have z:=J;have aR:=ak;clear I J ak ho hb hg hat))
        go_roundg k1
        case measure=>have:=aD.out;omega
        case rel=>exact⟨(aM),(wrap64 (u+1)),eS,H',⟨by have:=aD.out;omega⟩,⟨oR aR⟩,⟨oB z⟩⟩
       ·rw[aj c9]at H;exact absurd H (by simp)
      ·rw[aj c8]at H;exact absurd H (by simp)
     ·rw[aj c7]at H;exact absurd H (by simp)
    ·replace c6:=Bool.eq_false_iff.mpr c6;subst c6;rw[aj (show¬(false=true)by decide)]at H;obtain rfl:=aA H
     go_wp2_with (first|(go_at_call 72;(with_reducible refine(cA.c a0 0 5000 false _ au.out).mono ?_);rintro e w' ⟨rfl,⟨nd,rfl⟩⟩))
     go_ret;exact⟨_,eR,oR G,oB z⟩
   ·rw[aj c4]at H;have aW:decide (u<11)=false:=ax c4;clear c4;obtain rfl:=aA H;go_wp2;go_ret;exact⟨_,eR,oR G,oB z⟩
def fM.f (D:List Int) (z:Int) (u:Int):Option (Int×Int×Int):=if z<(D.length:Int)then(if 0≤z then(some (Go.bits .and .i64 (wrap64 ((Go.bits .and .i64 (Go.bits .xor .i64 ((wrap64 ((wrap64 (u*6364136223846793005))+1442695040888963407))/8589934592) ((wrap64 ((wrap64 (u*6364136223846793005))+1442695040888963407))/35184372088832)) 255)+(wrap64 (rd D z)))) 255,wrap64 (z+1),wrap64 ((wrap64 (u*6364136223846793005))+1442695040888963407)))else(none))else(some (Go.bits .and .i64 (Go.bits .xor .i64 ((wrap64 ((wrap64 (u*6364136223846793005))+1442695040888963407))/8589934592) ((wrap64 ((wrap64 (u*6364136223846793005))+1442695040888963407))/35184372088832)) 255,z,wrap64 ((wrap64 (u*6364136223846793005))+1442695040888963407)))
theorem fM.c (g:Nat) (D:List Int) (u:Int) (z:Int) (r1:Int) (r2:Int) (r3:Int) (w0 w:World) (hI:aX w0 w g D u z) (hB:Below w0.heap.size w0 w) (h:fM.f D u z=some (r1,r2,r3)):
  Calls Tryz.prog 52 #[.pointer (some ⟨g,0,none⟩)] w fun e w'=>e= .returned (.int .i64 r1)∧aX w0 w' g D r2 r3∧Below w0.heap.size w0 w'∧bh w w' g none:=by
 have J:=A_ hI;have HK:=A_ (bh.refl w g none);have ap:=A_ hB.size;clear hI;have ar:=A_ hB.size;have O:=A_ hB;clear hB;have H:(if u<(D.length:Int)then(if 0≤u then(some (Go.bits .and .i64 (wrap64 ((Go.bits .and .i64 (Go.bits .xor .i64 ((wrap64 ((wrap64 (z*6364136223846793005))+1442695040888963407))/8589934592) ((wrap64 ((wrap64 (z*6364136223846793005))+1442695040888963407))/35184372088832)) 255)+(wrap64 (rd D u)))) 255,wrap64 (u+1),wrap64 ((wrap64 (z*6364136223846793005))+1442695040888963407)))else(none))else(some (Go.bits .and .i64 (Go.bits .xor .i64 ((wrap64 ((wrap64 (z*6364136223846793005))+1442695040888963407))/8589934592) ((wrap64 ((wrap64 (z*6364136223846793005))+1442695040888963407))/35184372088832)) 255,u,wrap64 ((wrap64 (z*6364136223846793005))+1442695040888963407))))=some (r1,r2,r3):=h;clear h;by_cases c2:u<(D.length:Int)
 ·rw[ai c2]at H;have af:decide (u<(D.length:Int))=true:=ah c2;clear c2;by_cases c3:0≤u
  ·rw[ai c3]at H;have au:decide (0≤u)=true:=ah c3;clear c3;simp only[Option.some.injEq,Prod.mk.injEq]at H;obtain⟨rfl,rfl,rfl⟩:=H;obtain⟨am,av,F,ak,X⟩:=J.out;have aC:=s5 F;have aE:=s6 F;have aF:=s7 F;have aJ:=aD F 1;have aK:=aD F 2;clear F ak;have U:0≤(u:Int):=oD;have V:u<(D.length:Int):=oD;obtain⟨ad,ag,I⟩:=Kd.dY X u U V;cases ag;have K:ad.block≠g:=Nat.ne_of_lt (Nat.lt_of_lt_of_le (by have:=World.block_lt_of_cell? _ _ I;first|rwa [add_block]at this|exact this) (aX.ge J.out));replace I:=oz O.out I;replace I:=(cell_far (p:=⟨g,2,none⟩) (by first|(rw[add_block];exact K)|(show(Addr.add _ _).block≠_;rw[add_block];exact K)|exact K) (.int .i64 (wrap64 ((wrap64 (z*6364136223846793005))+1442695040888963407)))).trans I
   (try have aN:=fun(n_:Nat)=>(show(((w.drewN n_).setCell ⟨g,2,none⟩ (.int .i64 (wrap64 ((wrap64 (z*6364136223846793005))+1442695040888963407))))).cell? _=some _ from I))
   clear K;replace U:=aw U;replace V:=aw V;go_enter Tryz.func52,Tryz.ntmps52;go_wp2
   repeat(go_quiet (fail);try go_wp2)
   go_ret;exact⟨eR,bW J,cH O,cY HK⟩
  ·rw[aj c3]at H;exact absurd H (by simp)
 ·rw[aj c2]at H;have af:decide (u<(D.length:Int))=false:=ax c2;clear c2;simp only[Option.some.injEq,Prod.mk.injEq]at H;obtain⟨rfl,rfl,rfl⟩:=H;obtain⟨ao,aB,G,al,aq⟩:=J.out;have aG:=s5 G;have aH:=s6 G;have aI:=s7 G;have aL:=aD G 1;have aM:=aD G 2;clear G al;go_enter Tryz.func52,Tryz.ntmps52;go_wp2
  repeat(go_quiet (fail);try go_wp2)
  go_ret;exact⟨eR,bW J,cH O,cY HK⟩
def ct.f (u:List Int) (I:Int) (J:Int) (a1:Int):Option (Int×Int×Int):=if a1≤0 then(some (0,I,J))else(if a1≤256 then((fM.f u I J).bind fun z=>(if a1=0 then(none)else(some (Int.tmod z.1 a1,z.2.1,z.2.2))))else((fM.f u I J).bind fun D=>((fM.f u D.2.1 D.2.2).bind fun F=>((fM.f u F.2.1 F.2.2).bind fun G=>((fM.f u G.2.1 G.2.2).bind fun H=>(if a1=0 then(none)else(some (Int.tmod (wrap64 ((wrap64 ((wrap64 ((wrap64 (D.1*16777216))+(wrap64 (F.1*65536))))+(wrap64 (G.1*256))))+H.1)) a1,H.2.1,H.2.2))))))))
theorem ct.c (g:Nat) (I:List Int) (J:Int) (K:Int) (a1:Int) (r1:Int) (r2:Int) (r3:Int) (w0 w:World) (hI:aX w0 w g I J K) (hB:Below w0.heap.size w0 w) (h:ct.f I J K a1=some (r1,r2,r3)):
  Calls Tryz.prog 26 #[.pointer (some ⟨g,0,none⟩),.int .i64 a1] w fun e w'=>e= .returned (.int .i64 r1)∧aX w0 w' g I r2 r3∧Below w0.heap.size w0 w'∧bh w w' g none:=by
 have z:=A_ hI;have HK:=A_ (bh.refl w g none);have aC:=A_ hB.size;clear hI;have aD:=A_ hB.size;have u:=A_ hB;clear hB;have H:(if a1≤0 then(some (0,J,K))else(if a1≤256 then((fM.f I J K).bind fun O=>(if a1=0 then(none)else(some (Int.tmod O.1 a1,O.2.1,O.2.2))))else((fM.f I J K).bind fun U=>((fM.f I U.2.1 U.2.2).bind fun V=>((fM.f I V.2.1 V.2.2).bind fun X=>((fM.f I X.2.1 X.2.2).bind fun ad=>(if a1=0 then(none)else(some (Int.tmod (wrap64 ((wrap64 ((wrap64 ((wrap64 (U.1*16777216))+(wrap64 (V.1*65536))))+(wrap64 (X.1*256))))+ad.1)) a1,ad.2.1,ad.2.2)))))))))=some (r1,r2,r3):=h;clear h;by_cases c3:a1≤0
 ·rw[ai c3]at H;have av:decide (a1≤0)=true:=ah c3;clear c3;simp only[Option.some.injEq,Prod.mk.injEq]at H;obtain⟨rfl,rfl,rfl⟩:=H;go_enter Tryz.func26,Tryz.ntmps26;go_wp2;go_ret;exact⟨eR,bW z,cH u,cY HK⟩
 ·rw[aj c3]at H;have av:decide (a1≤0)=false:=ax c3;clear c3;by_cases c4:a1≤256
  ·rw[ai c4]at H;have aB:decide (a1≤256)=true:=ah c4;clear c4;replace H:=ay H;obtain⟨⟨t190,t191,t192⟩,ak,H⟩:=H
   (try dsimp only at H)
   have aq:=A_ ak;clear ak;by_cases c6:a1=0
   ·rw[ai c6]at H;exact absurd H (by simp)
   ·rw[aj c6]at H;have aG:(a1==0)=false:=beq_eq_false_iff_ne.mpr c6;have aH:(a1 != 0)=true:=bne_iff_ne.mpr c6;simp only[Option.some.injEq,Prod.mk.injEq]at H;obtain⟨rfl,rfl,rfl⟩:=H;go_enter Tryz.func26,Tryz.ntmps26
    go_wp2_with (first|((with_reducible refine bp (f:=52) rfl ?_);refine gL (some 14) Tryz.func52 #[.pointer (some ⟨g,0,none⟩)] ?_;(with_reducible refine(fM.c g I J K t190 t191 t192 w0 _ ?aT ?aU aq.out).mono ?_);(case aT=>exact bW z);(case aU=>exact cH u);rintro e w7 ⟨rfl,hi,hb,hk⟩;refine⟨_,rfl,?_⟩;have D:=A_ (bh.trans (cY HK) hk (.inl rfl));have F:=A_ (hb);have G:=A_ (hi);clear HK u z;have HK:=D;have u:=F;have z:=G;clear D F G;(try clear hb);(try clear hb2);(try clear hk);(try clear hi)))
    go_ret;exact⟨eR,bW z,cH u,cY HK⟩
  ·rw[aj c4]at H;have aB:decide (a1≤256)=false:=ax c4;clear c4;replace H:=ay H;obtain⟨⟨t193,t194,t195⟩,al,H⟩:=H
   (try dsimp only at H)
   have ar:=A_ al;clear al;replace H:=ay H;obtain⟨⟨t196,t197,t198⟩,am,H⟩:=H
   (try dsimp only at H)
   have au:=A_ am;clear am;replace H:=ay H;obtain⟨⟨t199,t200,t201⟩,af,H⟩:=H
   (try dsimp only at H)
   have ao:=A_ af;clear af;replace H:=ay H;obtain⟨⟨t202,t203,t204⟩,ag,H⟩:=H
   (try dsimp only at H)
   have ap:=A_ ag;clear ag;by_cases c12:a1=0
   ·rw[ai c12]at H;exact absurd H (by simp)
   ·rw[aj c12]at H;have aE:(a1==0)=false:=beq_eq_false_iff_ne.mpr c12;have aF:(a1 != 0)=true:=bne_iff_ne.mpr c12;simp only[Option.some.injEq,Prod.mk.injEq]at H;obtain⟨rfl,rfl,rfl⟩:=H;go_enter Tryz.func26,Tryz.ntmps26
    go_wp2_with (first|((with_reducible refine bp (f:=52) rfl ?_);refine gL (some 18) Tryz.func52 #[.pointer (some ⟨g,0,none⟩)] ?_;(with_reducible refine(fM.c g I J K t193 t194 t195 w0 _ ?aT ?aU ar.out).mono ?_);(case aT=>exact bW z);(case aU=>exact cH u);rintro e aI ⟨rfl,hi,hb,hk⟩;refine⟨_,rfl,?_⟩;have D:=A_ (bh.trans (cY HK) hk (.inl rfl));have F:=A_ (hb);have G:=A_ (hi);clear HK u z;have HK:=D;have u:=F;have z:=G;clear D F G;(try clear hb);(try clear hb2);(try clear hk);(try clear hi))|((with_reducible refine bp (f:=52) rfl ?_);refine gL (some 20) Tryz.func52 #[.pointer (some ⟨g,0,none⟩)] ?_;(with_reducible refine(fM.c g I t194 t195 t196 t197 t198 w0 _ ?aT ?aU au.out).mono ?_);(case aT=>exact bW z);(case aU=>exact cH u);rintro e aJ ⟨rfl,hi,hb,hk⟩;refine⟨_,rfl,?_⟩;have D:=A_ (bh.trans (cY HK) hk (.inl rfl));have F:=A_ (hb);have G:=A_ (hi);clear HK u z;have HK:=D;have u:=F;have z:=G;clear D F G;(try clear hb);(try clear hb2);(try clear hk);(try clear hi))|((with_reducible refine bp (f:=52) rfl ?_);refine gL (some 22) Tryz.func52 #[.pointer (some ⟨g,0,none⟩)] ?_;(with_reducible refine(fM.c g I t197 t198 t199 t200 t201 w0 _ ?aT ?aU ao.out).mono ?_);(case aT=>exact bW z);(case aU=>exact cH u);rintro e aK ⟨rfl,hi,hb,hk⟩;refine⟨_,rfl,?_⟩;have D:=A_ (bh.trans (cY HK) hk (.inl rfl));have F:=A_ (hb);have G:=A_ (hi);clear HK u z;have HK:=D;have u:=F;have z:=G;clear D F G;(try clear hb);(try clear hb2);(try clear hk);(try clear hi))|((with_reducible refine bp (f:=52) rfl ?_);refine gL (some 24) Tryz.func52 #[.pointer (some ⟨g,0,none⟩)] ?_;(with_reducible refine(fM.c g I t200 t201 t202 t203 t204 w0 _ ?aT ?aU ap.out).mono ?_);(case aT=>exact bW z);(case aU=>exact cH u);rintro e aL ⟨rfl,hi,hb,hk⟩;refine⟨_,rfl,?_⟩;have D:=A_ (bh.trans (cY HK) hk (.inl rfl));have F:=A_ (hb);have G:=A_ (hi);clear HK u z;have HK:=D;have u:=F;have z:=G;clear D F G;(try clear hb);(try clear hb2);(try clear hk);(try clear hi)))
    go_ret;exact⟨eR,bW z,cH u,cY HK⟩
def kz.f (z:List Int) (D:Int) (F:Int) (a1:Int):Option (Bool×Int×Int):=(ct.f z D F a1).bind fun u=>(some ((u.1==0),u.2.1,u.2.2))
theorem kz.c (g:Nat) (u:List Int) (F:Int) (G:Int) (a1:Int) (r1:Bool) (r2:Int) (r3:Int) (w0 w:World) (hI:aX w0 w g u F G) (hB:Below w0.heap.size w0 w) (h:kz.f u F G a1=some (r1,r2,r3)):
  Calls Tryz.prog 49 #[.pointer (some ⟨g,0,none⟩),.int .i64 a1] w fun e w'=>e= .returned (.bool r1)∧aX w0 w' g u r2 r3∧Below w0.heap.size w0 w'∧bh w w' g none:=by
 have D:=A_ hI;have HK:=A_ (bh.refl w g none);have X:=A_ hB.size;clear hI;have ad:=A_ hB.size;have z:=A_ hB;clear hB;have H:((ct.f u F G a1).bind fun I=>(some ((I.1==0),I.2.1,I.2.2)))=some (r1,r2,r3):=h;clear h;replace H:=ay H;obtain⟨⟨t205,t206,t207⟩,J,H⟩:=H
 (try dsimp only at H)
 have V:=A_ J;clear J;simp only[Option.some.injEq,Prod.mk.injEq]at H;obtain⟨rfl,rfl,rfl⟩:=H;go_enter Tryz.func49,Tryz.ntmps49
 go_wp2_with (first|((with_reducible refine bp (f:=26) rfl ?_);refine gL (some 7) Tryz.func26 #[.pointer (some ⟨g,0,none⟩),.int .i64 a1] ?_;(with_reducible refine(ct.c g u F G a1 t205 t206 t207 w0 _ ?aT ?aU V.out).mono ?_);(case aT=>exact bW D);(case aU=>exact cH z);rintro e w4 ⟨rfl,hi,hb,hk⟩;refine⟨_,rfl,?_⟩;have K:=A_ (bh.trans (cY HK) hk (.inl rfl));have O:=A_ (hb);have U:=A_ (hi);clear HK z D;have HK:=K;have z:=O;have D:=U;clear K O U;(try clear hb);(try clear hb2);(try clear hk);(try clear hi)))
 go_ret;exact⟨eR,bW D,cH z,cY HK⟩
def nA.f (l0:List Int):Option (List Int):=(some (([]:List Int):List Int)).bind fun u=>(if u.length+l0.length<17592186044416 then(some (u++l0))else(none))
theorem nA.c (A0:Option Addr) (c0:Nat) (l0:List Int) (r:List Int) (w:World) (X:Kd.C (Kd.int .i64) w A0 l0.length l0) (hc0:l0.length≤c0) (h:nA.f l0=some r):
  Calls Tryz.prog 108 #[.slice A0 l0.length c0] w fun e w'=>∃ad:Value,e= .returned (ad)∧Kd.R (Kd.int .i64) 3 w' w.heap.size (fun _=>True) ad r∧Below w.heap.size w w':=by
 have ag:=A_ X;have ar:=A_ hc0;clear X hc0;have u:=A_ (Below.refl w.heap.size w);have H:((some (([]:List Int):List Int)).bind fun z=>(if z.length+l0.length<17592186044416 then(some (z++l0))else(none)))=some r:=h;clear h;obtain⟨z,G⟩:∃O:List Int,O=(([]:List Int)):=⟨_,rfl⟩;replace H:(if z.length+l0.length<17592186044416 then(some (z++l0))else(none))=some r:=by first|(rw[G];with_reducible exact H)|(have D:=(az _ _).symm.trans H;rw[G];with_reducible exact D)|(have D:=(az _ _).symm.trans H;with_reducible exact D)|with_reducible exact H|(rw[G];exact H)|exact H
 have V:=A_ G;clear G;by_cases c2:z.length+l0.length<17592186044416
 ·rw[ai c2]at H;have ak:=A_ c2;clear c2;obtain⟨aq,I⟩:∃O:List Int,O=(z++l0):=⟨_,rfl⟩;replace H:(some aq)=some r:=by first|(rw[I];with_reducible exact H)|(have D:=(az _ _).symm.trans H;rw[I];with_reducible exact D)|(have D:=(az _ _).symm.trans H;with_reducible exact D)|with_reducible exact H|(rw[I];exact H)|exact H
  have al:=A_ I;clear I;obtain rfl:=aA H;go_enter Tryz.func108,Tryz.ntmps108
  go_wp2_with (first|((with_reducible refine aC (N:=3) rfl ?_);refine Kd.dR (Kd.int .i64) _ 3 ?hg (N:=3) ?hd (xs:=([]:List Int)) (inner:=[]) (ok:=fun _=>True) (bD:=fun _=>True) ?hr ?hp (fun _ hk=>hk) trivial (Below.refl _ _) (Nat.le_refl _) (by simp) ?_;(case hd=>rfl);(case hg=>rfl);(case hr=>first|(go_simp;done)|(go_simp;rfl));(case hp=>exact(aI.none _ _));intro ap w3 F hb am ao;clear am ao;(first|rw[←V.out]at F|(simp only[Int.reduceToNat]at F;rw[←V.out]at F));have J:=A_ (Kd.cD F (aZ (oB u)));have K:=A_ (aV (oB u) hb);clear u;have U:=J;have u:=K;clear J K hb F)|((with_reducible refine fI (b:= .append) (xs:= #[.tmp 3,.tmp 4]) rfl ?_);at_builtin;refine Kd.nM (Kd.int .i64) (w0:=w) w.heap.size rfl (.tmp 3) (.tmp 4) 25 3 (.int .i64 0) 8 rfl Tryz.underlying25 info3 rfl (by decide) (by omega) ap z l0 _ _ _ (fun _=>True) (fun _=>False) rfl rfl ?aO ?aR (fun _ _ h=>h) (fun _ h=>h.elim) ?aF ?aB ?aS ?aL ?_;(case aR=>exact bF ag.out);(case aB=>exact(oB u));(case aF=>exact(fun _ _=>trivial));(case aO=>exact(oR U));(case aS=>exact(aZ (oB u)));(case aL=>have:=ak.out;omega);intro v212 au ho hb hg hat;rw[←al.out]at ho;have J:=A_ (hb);have K:=A_ (ho);clear u U;have u:=J;have af:=K;clear J K ho hb hg hat))
  go_ret;exact⟨_,eR,oR af,oB u⟩
 ·rw[aj c2]at H;exact absurd H (by simp)
def iz.f (l0:List (S64)):Option ((List (S64))):=(some (([]:List (S64)):List (S64))).bind fun u=>(if u.length+l0.length<4398046511104 then(some (u++l0))else(none))
theorem iz.c (A0:Option Addr) (c0:Nat) (l0:List (S64)) (r:List (S64)) (w:World) (X:Kd.C aK w A0 l0.length l0) (hc0:l0.length≤c0) (h:iz.f l0=some r):
  Calls Tryz.prog 69 #[.slice A0 l0.length c0] w fun e w'=>∃ad:Value,e= .returned (ad)∧Kd.R aK 64 w' w.heap.size (fun _=>True) ad r∧Below w.heap.size w w':=by
 have ag:=A_ X;have ar:=A_ hc0;clear X hc0;have u:=A_ (Below.refl w.heap.size w);have H:((some (([]:List (S64)):List (S64))).bind fun z=>(if z.length+l0.length<4398046511104 then(some (z++l0))else(none)))=some r:=h;clear h;obtain⟨z,G⟩:∃O:List (S64),O=(([]:List (S64))):=⟨_,rfl⟩;replace H:(if z.length+l0.length<4398046511104 then(some (z++l0))else(none))=some r:=by first|(rw[G];with_reducible exact H)|(have D:=(az _ _).symm.trans H;rw[G];with_reducible exact D)|(have D:=(az _ _).symm.trans H;with_reducible exact D)|with_reducible exact H|(rw[G];exact H)|exact H
 have V:=A_ G;clear G;by_cases c2:z.length+l0.length<4398046511104
 ·rw[ai c2]at H;have ak:=A_ c2;clear c2;obtain⟨aq,I⟩:∃O:List (S64),O=(z++l0):=⟨_,rfl⟩;replace H:(some aq)=some r:=by first|(rw[I];with_reducible exact H)|(have D:=(az _ _).symm.trans H;rw[I];with_reducible exact D)|(have D:=(az _ _).symm.trans H;with_reducible exact D)|with_reducible exact H|(rw[I];exact H)|exact H
  have al:=A_ I;clear I;obtain rfl:=aA H;go_enter Tryz.func69,Tryz.ntmps69
  go_wp2_with (first|((with_reducible refine aC (N:=3) rfl ?_);refine Kd.dR aK _ 64 ?hg (N:=3) ?hd (xs:=([]:List (S64))) (inner:=[]) (ok:=fun _=>True) (bD:=fun _=>True) ?hr ?hp (fun _ hk=>hk) trivial (Below.refl _ _) (Nat.le_refl _) (by simp) ?_;(case hd=>rfl);(case hg=>rfl);(case hr=>first|(go_simp;done)|(go_simp;rfl));(case hp=>exact(aI.none _ _));intro ap w3 F hb am ao;clear am ao;(first|rw[←V.out]at F|(simp only[Int.reduceToNat]at F;rw[←V.out]at F));have J:=A_ (Kd.cD F (aZ (oB u)));have K:=A_ (aV (oB u) hb);clear u;have U:=J;have u:=K;clear J K hb F)|((with_reducible refine fI (b:= .append) (xs:= #[.tmp 3,.tmp 4]) rfl ?_);at_builtin;refine Kd.nM aK (w0:=w) w.heap.size rfl (.tmp 3) (.tmp 4) 28 64 (.agg #[(.int .i64 0),(.int .i64 0),(.int .i64 0),(.int .i64 0)]) 32 rfl Tryz.underlying28 m_ rfl (by decide) (by omega) ap z l0 _ _ _ (fun _=>True) (fun _=>False) rfl rfl ?aO ?aR (fun _ _ h=>h) (fun _ h=>h.elim) ?aF ?aB ?aS ?aL ?_;(case aR=>exact bF ag.out);(case aB=>exact(oB u));(case aF=>exact(fun _ _=>trivial));(case aO=>exact(oR U));(case aS=>exact(aZ (oB u)));(case aL=>have:=ak.out;omega);intro v226 au ho hb hg hat;rw[←al.out]at ho;have J:=A_ (hb);have K:=A_ (ho);clear u U;have u:=J;have af:=K;clear J K ho hb hg hat))
  go_ret;exact⟨_,eR,oR af,oB u⟩
 ·rw[aj c2]at H;exact absurd H (by simp)
def cx.f (a0:Int) (a1:Int) (a2:Int):Option (Bool):=if a1≤a0 then(some (decide (a0≤a2)))else(some false)
theorem cx.c (a0:Int) (a1:Int) (a2:Int) (r:Bool) (w:World) (h:cx.f a0 a1 a2=some r):
  Calls Tryz.prog 58 #[.int .i64 a0,.int .i64 a1,.int .i64 a2] w fun e w'=>e= .returned (.bool r)∧bf w w':=by
 have H:(if a1≤a0 then(some (decide (a0≤a2)))else(some false))=some r:=h;clear h;by_cases c4:a1≤a0
 ·rw[ai c4]at H;have u:decide (a1≤a0)=true:=ah c4;clear c4;obtain rfl:=aA H;go_enter Tryz.func58,Tryz.ntmps58;go_wp2;go_ret;exact⟨eS,by repeat(first|exact bf.refl _|apply bf.step)⟩
 ·rw[aj c4]at H;have u:decide (a1≤a0)=false:=ax c4;clear c4;obtain rfl:=aA H;go_enter Tryz.func58,Tryz.ntmps58;go_wp2;go_ret;exact⟨eS,by repeat(first|exact bf.refl _|apply bf.step)⟩
def dn.f (a0:Int):Option (Bool):=(cx.f a0 1 10000000).bind fun u=>(some u)
theorem dn.c (a0:Int) (r:Bool) (w:World) (h:dn.f a0=some r):
  Calls Tryz.prog 98 #[.int .i64 a0] w fun e w'=>e= .returned (.bool r)∧bf w w':=by
 have H:((cx.f a0 1 10000000).bind fun u=>(some u))=some r:=h;clear h;replace H:=ay H;obtain⟨u,z,H⟩:=H
 (try dsimp only at H)
 have A2:=A_ z;clear z;obtain rfl:=aA H;go_enter Tryz.func98,Tryz.ntmps98
 go_wp2_with (first|((with_reducible refine bp (f:=58) rfl ?_);refine gL (some 4) Tryz.func58 #[.int .i64 a0,.int .i64 1,.int .i64 10000000] ?_;(with_reducible refine(cx.c a0 1 10000000 u _ A2.out).mono ?_);rintro e w' ⟨rfl,⟨nd,rfl⟩⟩;refine⟨_,rfl,?_⟩))
 go_ret;exact⟨eS,by repeat(first|exact bf.refl _|apply bf.step)⟩
def fh.l0:Nat→List (ag)→Int→Int→Option (Int)
 |0,_,_,_=>none
 |k+1,x0,x1,u=>if u<(x0.length:Int)then(if 0≤u then(if((ar x0 u).f1)=x1 then(some u)else(fh.l0 k x0 x1 (wrap64 (u+1))))else(none))else(some (-1))
def fh.f (k:Nat) (l0:List (ag)) (a1:Int):Option (Int):=fh.l0 k l0 a1 0
theorem fh.c (k:Nat) (A0:Option Addr) (c0:Nat) (l0:List (ag)) (a1:Int) (r:Int) (w:World) (K:Kd.C aN w A0 l0.length l0) (hc0:l0.length≤c0) (h:fh.f k l0 a1=some r):
  Calls Tryz.prog 110 #[.slice A0 l0.length c0,.int .i64 a1] w fun e w'=>e= .returned (.int .i64 r)∧bf w w':=by
 have J:=A_ K;have ao:=A_ hc0;clear K hc0;have H:(fh.l0 k l0 a1 0)=some r:=h;clear h;have H':=A_ H;clear H;go_enter Tryz.func110,Tryz.ntmps110;go_wp2
 go_loopg [5] k (fun O v5 w'=>∃(u:Int),v5= .int .i64 u∧ae (fh.l0 O l0 a1 u=some r)∧ae (O≤k)∧bf w w')
 case atStart=>exact⟨(0),eS,H',⟨Nat.le_refl _⟩,by repeat(first|exact bf.refl _|apply bf.step)⟩
 case round=>
  clear H'
  try clear c1
  try clear p2
  obtain⟨u,rfl,F,I,⟨m1,rfl⟩⟩:=hrel;cases gk with
  |zero=>exact absurd F.out (by simp[fh.l0])
  |succ k1=>
   have H:=F.out;clear F;simp only[fh.l0]at H;by_cases c3:u<(l0.length:Int)
   ·rw[ai c3]at H;have V:decide (u<(l0.length:Int))=true:=ah c3;clear c3;by_cases c4:0≤u
    ·rw[ai c4]at H;have ap:decide (0≤u)=true:=ah c4;clear c4;by_cases c5:((ar l0 u).f1)=a1
     ·rw[ai c5]at H;have X:(((ar l0 u).f1)==a1)=true:=beq_iff_eq.mpr c5;have ad:(((ar l0 u).f1) != a1)=false:=bne_eq_false_iff_eq.mpr c5;clear c5;obtain rfl:=aA H;have z:0≤(u:Int):=oD;have D:u<(l0.length:Int):=oD;obtain⟨U,G,af,ak,al,am⟩:=eN J.out u z D;cases G;replace z:=aw z;replace D:=aw D;go_wp2;go_ret;exact⟨eS,by repeat(first|exact bf.refl _|apply bf.step)⟩
     ·rw[aj c5]at H;have X:(((ar l0 u).f1)==a1)=false:=beq_eq_false_iff_ne.mpr c5;have ad:(((ar l0 u).f1) != a1)=true:=bne_iff_ne.mpr c5;have H':=A_ H;clear H;have z:0≤(u:Int):=oD;have D:u<(l0.length:Int):=oD;obtain⟨U,G,af,ak,al,am⟩:=eN J.out u z D;cases G;replace z:=aw z;replace D:=aw D;go_wp2
      go_roundg k1
      case measure=>have:=I.out;omega
      case rel=>exact⟨(wrap64 (u+1)),eS,H',⟨by have:=I.out;omega⟩,by repeat(first|exact bf.refl _|apply bf.step)⟩
    ·rw[aj c4]at H;exact absurd H (by simp)
   ·rw[aj c3]at H;have V:decide (u<(l0.length:Int))=false:=ax c3;clear c3;obtain rfl:=aA H;go_wp2;go_ret;exact⟨eS,by repeat(first|exact bf.refl _|apply bf.step)⟩
mutual
def cI.j0:Nat→Bool→List (ag)→Int→List Int→Option (Bool)
 |0,_,_,_,_=>none
 |k+1,u,z,D,F=>if u=true then(some false)else(cI.l0 k 0 z D F)
def cI.l0:Nat→Int→List (ag)→Int→List Int→Option (Bool)
 |0,_,_,_,_=>none
 |k+1,x3,z,D,u=>if x3<12 then((fh.f k z x3).bind fun t244=>(if x3=0 then(if 0≤x3 then(if x3<(u.length:Int)then((cL.f (rd u x3)).bind fun t246=>(if t246=true then(cI.l0 k (wrap64 (x3+1)) z D u)else(some false)))else(none))else(none))else(if t244≥0 then(if t244<D then(if 0≤x3 then(if x3<(u.length:Int)then((cL.f (rd u x3)).bind fun t248=>(if t248=true then(cI.l0 k (wrap64 (x3+1)) z D u)else(some false)))else(none))else(none))else(if 0≤x3 then(if x3<(u.length:Int)then(if(rd u x3)=0 then(cI.l0 k (wrap64 (x3+1)) z D u)else(some false))else(none))else(none)))else(if 0≤x3 then(if x3<(u.length:Int)then(if(rd u x3)=0 then(cI.l0 k (wrap64 (x3+1)) z D u)else(some false))else(none))else(none)))))else(some true)
end
def cI.f (k:Nat) (u:List (ag)) (z:Int) (D:List Int):Option (Bool):=(jm.f u).bind fun t242=>(if t242=true then((cA.f z 0 (u.length:Int)).bind fun t243=>(if t243=true then(cI.j0 k ((D.length:Int) != 12) u z D)else(cI.j0 k true u z D)))else(cI.j0 k true u z D))
theorem cI.c (k:Nat) (I:Option Addr) (K:Nat) (F:List (ag)) (J:Int) (aK:Option Addr) (aL:Nat) (D:List Int) (r:Bool) (w:World) (b2:Kd.C aN w I F.length F) (br:F.length≤K) (b3:Kd.C (Kd.int .i64) w aK D.length D) (bs:D.length≤aL) (h:cI.f k F J D=some r):
  Calls Tryz.prog 70 #[.agg #[.slice I F.length K,.int .i64 J,.slice aK D.length aL]] w fun e w'=>e= .returned (.bool r)∧Below w.heap.size w w':=by
 have dq:=Tryz.underlying27;have U:=A_ b2;have O:=A_ br;clear b2 br;have al:=A_ b3;have ck:=A_ bs;clear b3 bs;have G:=A_ (Below.refl w.heap.size w);have H:((jm.f F).bind fun t242=>(if t242=true then((cA.f J 0 (F.length:Int)).bind fun t243=>(if t243=true then(cI.j0 k ((D.length:Int) != 12) F J D)else(cI.j0 k true F J D)))else(cI.j0 k true F J D)))=some r:=h;clear h;have a9:=A_ H;clear H;go_enter Tryz.func70,Tryz.ntmps70
 go_upto_region 1 with (first|((with_reducible refine aC (N:=1) rfl ?_);(try(refine iY (by rfl) ?_;dsimp only));refine bX (N:=1) (cs:= #[.slice I F.length K,.int .i64 J,.slice aK D.length aL]) (t:=27) ?_;intro a5 hg w3 bq hb;have V:=A_ (aV (oB G) hb);have X:=A_ (bq);have b5:=A_ ((by rw[hg];exact(aZ (oB G)):w.heap.size≤a5));have b6:=A_ ((by rw[hg];exact(aZ (oB G)):w.heap.size≤a5));clear G;have G:=V;have u:=X;have cj:=b5;have ci:=b6;clear V X b5 b6 hb bq hg))
 (try simp only[Act.put,List.setIfInBounds_toArray,List.set_cons_zero,List.set_cons_succ])
 go_cut [24] (fun v24 wc=>∃(aq:Nat) (a6:Bool),v24= .bool a6∧ae (cI.j0 aq a6 F J D=some r)∧ae (aq≤k)∧ae (wc.heap[a5]? =some (.cells #[(.slice I F.length K),.int .i64 J,(.slice aK D.length aL)] 27 (0,0)))∧ae (Below w.heap.size w wc))
 case first=>
  have H:=a9.out;clear a9;replace H:=ay H;obtain⟨t242,bm,H⟩:=H
  (try dsimp only at H)
  have a7:=A_ bm;clear bm;by_cases c5:t242=true
  ·subst c5;rw[ai rfl]at H;replace H:=ay H;obtain⟨t243,bo,H⟩:=H
   (try dsimp only at H)
   have bn:=A_ bo;clear bo;by_cases c7:t243=true
   ·subst c7;rw[ai rfl]at H;have H':=A_ H;clear H;have bH:=cz u 0;have bI:=cz u 1;have bK:=cz u 2;have bZ:=aD u.out 0;have b0:=aD u.out 1;have b1:=aD u.out 2
    go_wp2_with (first|((with_reducible refine bp (f:=109) rfl ?_);refine gL (some 8) Tryz.func109 #[.slice I F.length K] ?_;(with_reducible refine(jm.c _ _ F true _ ?aT ?aU a7.out).mono ?_);(case aT=>exact bF U.out);(case aU=>exact O.out);rintro e dv ⟨rfl,hb⟩;refine⟨_,rfl,?_⟩;have V:=A_ (bb u hb);have X:=A_ (aV (oB G) hb);clear u G;have u:=V;have G:=X;clear V X;(try clear hb);(try clear hb2);(try clear hk);(try clear hi);have bt:=cz u 0;have bu:=cz u 1;have bv:=cz u 2;have bL:=aD u.out 0;have bN:=aD u.out 1;have bO:=aD u.out 2)|(go_at_call 72;(with_reducible refine(cA.c J 0 (F.length:Int) true _ bn.out).mono ?_);rintro e w' ⟨rfl,⟨nd,rfl⟩⟩))
    go_meet
    case rel=>exact⟨_,(((D.length:Int) != 12)),eS,H',⟨by first|omega|exact Nat.le_refl _⟩,⟨oK u⟩,⟨oB G⟩⟩
   ·replace c7:=Bool.eq_false_iff.mpr c7;subst c7;rw[aj (show¬(false=true)by decide)]at H;have H':=A_ H;clear H;have bw:=cz u 0;have bx:=cz u 1;have bz:=cz u 2;have bP:=aD u.out 0;have bQ:=aD u.out 1;have bR:=aD u.out 2
    go_wp2_with (first|((with_reducible refine bp (f:=109) rfl ?_);refine gL (some 8) Tryz.func109 #[.slice I F.length K] ?_;(with_reducible refine(jm.c _ _ F true _ ?aT ?aU a7.out).mono ?_);(case aT=>exact bF U.out);(case aU=>exact O.out);rintro e dt ⟨rfl,hb⟩;refine⟨_,rfl,?_⟩;have V:=A_ (bb u hb);have X:=A_ (aV (oB G) hb);clear u G;have u:=V;have G:=X;clear V X;(try clear hb);(try clear hb2);(try clear hk);(try clear hi);have bA:=cz u 0;have bB:=cz u 1;have bC:=cz u 2;have bS:=aD u.out 0;have bT:=aD u.out 1;have bU:=aD u.out 2)|(go_at_call 72;(with_reducible refine(cA.c J 0 (F.length:Int) false _ bn.out).mono ?_);rintro e w' ⟨rfl,⟨nd,rfl⟩⟩))
    go_meet
    case rel=>exact⟨_,(true),eS,H',⟨by first|omega|exact Nat.le_refl _⟩,⟨oK u⟩,⟨oB G⟩⟩
  ·replace c5:=Bool.eq_false_iff.mpr c5;subst c5;rw[aj (show¬(false=true)by decide)]at H;have H':=A_ H;clear H;have bD:=cz u 0;have bE:=cz u 1;have bG:=cz u 2;have bV:=aD u.out 0;have bW:=aD u.out 1;have bY:=aD u.out 2
   go_wp2_with (first|((with_reducible refine bp (f:=109) rfl ?_);refine gL (some 8) Tryz.func109 #[.slice I F.length K] ?_;(with_reducible refine(jm.c _ _ F false _ ?aT ?aU a7.out).mono ?_);(case aT=>exact bF U.out);(case aU=>exact O.out);rintro e du ⟨rfl,hb⟩;refine⟨_,rfl,?_⟩;have V:=A_ (bb u hb);have X:=A_ (aV (oB G) hb);clear u G;have u:=V;have G:=X;clear V X;(try clear hb);(try clear hb2);(try clear hk);(try clear hi)))
   go_meet
   case rel=>exact⟨_,(true),eS,H',⟨by first|omega|exact Nat.le_refl _⟩,⟨oK u⟩,⟨oB G⟩⟩
 case rest=>
  clear a9
  try clear c1
  try clear p2
  try clear c5
  try clear c7
  try clear c10
  try clear bt
  try clear bu
  try clear bv
  try clear bw
  try clear bx
  try clear bz
  try clear bA
  try clear bB
  try clear bC
  try clear bD
  try clear bE
  try clear bG
  try clear bH
  try clear bI
  try clear bK
  try clear bL
  try clear bN
  try clear bO
  try clear bP
  try clear bQ
  try clear bR
  try clear bS
  try clear bT
  try clear bU
  try clear bV
  try clear bW
  try clear bY
  try clear bZ
  try clear b0
  try clear b1
  obtain⟨aq,a6,rfl,am,af,u,G⟩:=hcut;cases aq with
  |zero=>exact absurd am.out (by simp[cI.j0])
  |succ b4=>
   have H:=am.out;clear am;simp only[cI.j0]at H;by_cases c16:a6=true
   ·subst c16;rw[ai rfl]at H;obtain rfl:=aA H;go_wp2;go_ret;exact⟨eR,oB G⟩
   ·replace c16:=Bool.eq_false_iff.mpr c16;subst c16;rw[aj (show¬(false=true)by decide)]at H;have H':=A_ H;clear H;go_wp2
    go_loopg [3] b4 (fun aq v3 w'=>∃(z:Int),v3= .int .i64 z∧ae (cI.l0 aq z F J D=some r)∧ae (aq≤b4)∧ae (w'.heap[a5]? =some (.cells #[(.slice I F.length K),.int .i64 J,(.slice aK D.length aL)] 27 (0,0)))∧ae (Below w.heap.size w w'))
    case atStart=>exact⟨(0),eS,H',⟨Nat.le_refl _⟩,⟨oK u⟩,⟨oB G⟩⟩
    case round=>
     clear H'
     try clear c1
     try clear p2
     try clear c5
     try clear c7
     try clear c10
     try clear c16
     try clear bt
     try clear bu
     try clear bv
     try clear bw
     try clear bx
     try clear bz
     try clear bA
     try clear bB
     try clear bC
     try clear bD
     try clear bE
     try clear bG
     try clear bH
     try clear bI
     try clear bK
     try clear bL
     try clear bN
     try clear bO
     try clear bP
     try clear bQ
     try clear bR
     try clear bS
     try clear bT
     try clear bU
     try clear bV
     try clear bW
     try clear bY
     try clear bZ
     try clear b0
     try clear b1
     try clear p2
     obtain⟨z,rfl,am,ak,u,G⟩:=hrel;cases gk with
     |zero=>exact absurd am.out (by simp[cI.l0])
     |succ k2=>
      have H:=am.out;clear am;simp only[cI.l0]at H;by_cases c17:z<12
      ·rw[ai c17]at H;have b':decide (z<12)=true:=ah c17;clear c17;replace H:=ay H;obtain⟨t244,bf,H⟩:=H
       (try dsimp only at H)
       have ad:=A_ bf;clear bf;by_cases c19:z=0
       ·rw[ai c19]at H;have ca:(z==0)=true:=beq_iff_eq.mpr c19;have cb:(z != 0)=false:=bne_eq_false_iff_eq.mpr c19;clear c19;by_cases c20:0≤z
        ·rw[ai c20]at H;have cl:decide (0≤z)=true:=ah c20;clear c20;by_cases aR:z<(D.length:Int)
         ·rw[ai aR]at H;have cm:decide (z<(D.length:Int))=true:=ah aR;clear aR;replace H:=ay H;obtain⟨t246,bj,H⟩:=H
          (try dsimp only at H)
          have bg:=A_ bj;clear bj;by_cases aS:t246=true
          ·subst aS;rw[ai rfl]at H;have H':=A_ H;clear H;have cw:=cz u 0;have cx:=cz u 1;have cy:=cz u 2;have cY:=aD u.out 0;have cZ:=aD u.out 1;have c0:=aD u.out 2
           go_wp2_with (first|((with_reducible refine bp (f:=110) rfl ?_);refine gL (some 32) Tryz.func110 #[.slice I F.length K,.int .i64 z] ?_;(with_reducible refine(fh.c k2 _ _ F z t244 _ ?aT ?aU ad.out).mono ?_);(case aT=>exact bF U.out);(case aU=>exact O.out);rintro e w' ⟨rfl,⟨nd,rfl⟩⟩;refine⟨_,rfl,?_⟩;have ar:0≤(z:Int):=oD;have aE:z<(D.length:Int):=oD;obtain⟨b7,a_,aM⟩:=Kd.dY al.out z ar aE;cases a_;replace aM:=hW G aM;replace ar:=aw ar;replace aE:=aw aE)|(go_at_call 111;(with_reducible refine(cL.c (rd D z) true _ bg.out).mono ?_);rintro e w' ⟨rfl,⟨nd,rfl⟩⟩))
           go_roundg k2
           case measure=>have:=af.out;have:=ak.out;omega
           case rel=>exact⟨(wrap64 (z+1)),eS,H',⟨by have:=af.out;have:=ak.out;omega⟩,⟨oK u⟩,⟨oB G⟩⟩
          ·replace aS:=Bool.eq_false_iff.mpr aS;subst aS;rw[aj (show¬(false=true)by decide)]at H;obtain rfl:=aA H;have cB:=cz u 0;have cC:=cz u 1;have cD:=cz u 2;have c3:=aD u.out 0;have c4:=aD u.out 1;have c6:=aD u.out 2
           go_wp2_with (first|((with_reducible refine bp (f:=110) rfl ?_);refine gL (some 32) Tryz.func110 #[.slice I F.length K,.int .i64 z] ?_;(with_reducible refine(fh.c k2 _ _ F z t244 _ ?aT ?aU ad.out).mono ?_);(case aT=>exact bF U.out);(case aU=>exact O.out);rintro e w' ⟨rfl,⟨nd,rfl⟩⟩;refine⟨_,rfl,?_⟩;have ar:0≤(z:Int):=oD;have aE:z<(D.length:Int):=oD;obtain⟨b7,a_,aM⟩:=Kd.dY al.out z ar aE;cases a_;replace aM:=hW G aM;replace ar:=aw ar;replace aE:=aw aE)|(go_at_call 111;(with_reducible refine(cL.c (rd D z) false _ bg.out).mono ?_);rintro e w' ⟨rfl,⟨nd,rfl⟩⟩))
           go_ret;exact⟨eR,oB G⟩
         ·rw[aj aR]at H;exact absurd H (by simp)
        ·rw[aj c20]at H;exact absurd H (by simp)
       ·rw[aj c19]at H;have ca:(z==0)=false:=beq_eq_false_iff_ne.mpr c19;have cb:(z != 0)=true:=bne_iff_ne.mpr c19;by_cases aI:t244≥0
        ·rw[ai aI]at H;have cc:decide (0≤t244)=true:=ah aI;clear aI;by_cases aJ:t244<J
         ·rw[ai aJ]at H;have cd:decide (t244<J)=true:=ah aJ;clear aJ;by_cases aW:0≤z
          ·rw[ai aW]at H;have cn:decide (0≤z)=true:=ah aW;clear aW;by_cases aY:z<(D.length:Int)
           ·rw[ai aY]at H;have co:decide (z<(D.length:Int))=true:=ah aY;clear aY;replace H:=ay H;obtain⟨t248,bl,H⟩:=H
            (try dsimp only at H)
            have bk:=A_ bl;clear bl;by_cases a0:t248=true
            ·subst a0;rw[ai rfl]at H;have H':=A_ H;clear H;have cE:=cz u 0;have cF:=cz u 1;have cG:=cz u 2;have c8:=aD u.out 0;have c9:=aD u.out 1;have c_:=aD u.out 2
             go_wp2_with (first|((with_reducible refine bp (f:=110) rfl ?_);refine gL (some 32) Tryz.func110 #[.slice I F.length K,.int .i64 z] ?_;(with_reducible refine(fh.c k2 _ _ F z t244 _ ?aT ?aU ad.out).mono ?_);(case aT=>exact bF U.out);(case aU=>exact O.out);rintro e w' ⟨rfl,⟨nd,rfl⟩⟩;refine⟨_,rfl,?_⟩;have au:0≤(z:Int):=oD;have aF:z<(D.length:Int):=oD;obtain⟨b8,bc,aO⟩:=Kd.dY al.out z au aF;cases bc;replace aO:=hW G aO;replace au:=aw au;replace aF:=aw aF)|(go_at_call 111;(with_reducible refine(cL.c (rd D z) true _ bk.out).mono ?_);rintro e w' ⟨rfl,⟨nd,rfl⟩⟩))
             go_roundg k2
             case measure=>have:=af.out;have:=ak.out;omega
             case rel=>exact⟨(wrap64 (z+1)),eS,H',⟨by have:=af.out;have:=ak.out;omega⟩,⟨oK u⟩,⟨oB G⟩⟩
            ·replace a0:=Bool.eq_false_iff.mpr a0;subst a0;rw[aj (show¬(false=true)by decide)]at H;obtain rfl:=aA H;have cH:=cz u 0;have cJ:=cz u 1;have cK:=cz u 2;have c':=aD u.out 0;have da:=aD u.out 1;have db:=aD u.out 2
             go_wp2_with (first|((with_reducible refine bp (f:=110) rfl ?_);refine gL (some 32) Tryz.func110 #[.slice I F.length K,.int .i64 z] ?_;(with_reducible refine(fh.c k2 _ _ F z t244 _ ?aT ?aU ad.out).mono ?_);(case aT=>exact bF U.out);(case aU=>exact O.out);rintro e w' ⟨rfl,⟨nd,rfl⟩⟩;refine⟨_,rfl,?_⟩;have au:0≤(z:Int):=oD;have aF:z<(D.length:Int):=oD;obtain⟨b8,bc,aO⟩:=Kd.dY al.out z au aF;cases bc;replace aO:=hW G aO;replace au:=aw au;replace aF:=aw aF)|(go_at_call 111;(with_reducible refine(cL.c (rd D z) false _ bk.out).mono ?_);rintro e w' ⟨rfl,⟨nd,rfl⟩⟩))
             go_ret;exact⟨eR,oB G⟩
           ·rw[aj aY]at H;exact absurd H (by simp)
          ·rw[aj aW]at H;exact absurd H (by simp)
         ·rw[aj aJ]at H;have cd:decide (t244<J)=false:=ax aJ;clear aJ;by_cases a1:0≤z
          ·rw[ai a1]at H;have cp:decide (0≤z)=true:=ah a1;clear a1;by_cases a2:z<(D.length:Int)
           ·rw[ai a2]at H;have cq:decide (z<(D.length:Int))=true:=ah a2;clear a2;by_cases ao:(rd D z)=0
            ·rw[ai ao]at H;have ce:((rd D z)==0)=true:=beq_iff_eq.mpr ao;have cf:((rd D z) != 0)=false:=bne_eq_false_iff_eq.mpr ao;clear ao;have H':=A_ H;clear H;have cM:=cz u 0;have cN:=cz u 1;have cO:=cz u 2;have dc:=aD u.out 0;have dd:=aD u.out 1;have de:=aD u.out 2
             go_wp2_with (first|((with_reducible refine bp (f:=110) rfl ?_);refine gL (some 32) Tryz.func110 #[.slice I F.length K,.int .i64 z] ?_;(with_reducible refine(fh.c k2 _ _ F z t244 _ ?aT ?aU ad.out).mono ?_);(case aT=>exact bF U.out);(case aU=>exact O.out);rintro e w' ⟨rfl,⟨nd,rfl⟩⟩;refine⟨_,rfl,?_⟩;have av:0≤(z:Int):=oD;have aG:z<(D.length:Int):=oD;obtain⟨b9,bd,aP⟩:=Kd.dY al.out z av aG;cases bd;replace aP:=hW G aP;replace av:=aw av;replace aG:=aw aG))
             go_roundg k2
             case measure=>have:=af.out;have:=ak.out;omega
             case rel=>exact⟨(wrap64 (z+1)),eS,H',⟨by have:=af.out;have:=ak.out;omega⟩,⟨oK u⟩,⟨oB G⟩⟩
            ·rw[aj ao]at H;have ce:((rd D z)==0)=false:=beq_eq_false_iff_ne.mpr ao;have cf:((rd D z) != 0)=true:=bne_iff_ne.mpr ao;obtain rfl:=aA H;have cP:=cz u 0;have cQ:=cz u 1;have cR:=cz u 2;have df:=aD u.out 0;have dg:=aD u.out 1;have dh:=aD u.out 2
             go_wp2_with (first|((with_reducible refine bp (f:=110) rfl ?_);refine gL (some 32) Tryz.func110 #[.slice I F.length K,.int .i64 z] ?_;(with_reducible refine(fh.c k2 _ _ F z t244 _ ?aT ?aU ad.out).mono ?_);(case aT=>exact bF U.out);(case aU=>exact O.out);rintro e w' ⟨rfl,⟨nd,rfl⟩⟩;refine⟨_,rfl,?_⟩;have av:0≤(z:Int):=oD;have aG:z<(D.length:Int):=oD;obtain⟨b9,bd,aP⟩:=Kd.dY al.out z av aG;cases bd;replace aP:=hW G aP;replace av:=aw av;replace aG:=aw aG))
             go_ret;exact⟨eR,oB G⟩
           ·rw[aj a2]at H;exact absurd H (by simp)
          ·rw[aj a1]at H;exact absurd H (by simp)
        ·rw[aj aI]at H;have cc:decide (0≤t244)=false:=ax aI;clear aI;by_cases a3:0≤z
         ·rw[ai a3]at H;have cr:decide (0≤z)=true:=ah a3;clear a3;by_cases a4:z<(D.length:Int)
          ·rw[ai a4]at H;have ct:decide (z<(D.length:Int))=true:=ah a4;clear a4;by_cases ap:(rd D z)=0
           ·rw[ai ap]at H;have cg:((rd D z)==0)=true:=beq_iff_eq.mpr ap;have ch:((rd D z) != 0)=false:=bne_eq_false_iff_eq.mpr ap;clear ap;have H':=A_ H;clear H;have cS:=cz u 0;have cT:=cz u 1;have cU:=cz u 2;have di:=aD u.out 0;have dj:=aD u.out 1;have dk:=aD u.out 2
            go_wp2_with (first|((with_reducible refine bp (f:=110) rfl ?_);refine gL (some 32) Tryz.func110 #[.slice I F.length K,.int .i64 z] ?_;(with_reducible refine(fh.c k2 _ _ F z t244 _ ?aT ?aU ad.out).mono ?_);(case aT=>exact bF U.out);(case aU=>exact O.out);rintro e w' ⟨rfl,⟨nd,rfl⟩⟩;refine⟨_,rfl,?_⟩;have aB:0≤(z:Int):=oD;have aH:z<(D.length:Int):=oD;obtain⟨b_,be,aQ⟩:=Kd.dY al.out z aB aH;cases be;replace aQ:=hW G aQ;replace aB:=aw aB;replace aH:=aw aH))
            go_roundg k2
            case measure=>have:=af.out;have:=ak.out;omega
            case rel=>exact⟨(wrap64 (z+1)),eS,H',⟨by have:=af.out;have:=ak.out;omega⟩,⟨oK u⟩,⟨oB G⟩⟩
           ·rw[aj ap]at H;have cg:((rd D z)==0)=false:=beq_eq_false_iff_ne.mpr ap;have ch:((rd D z) != 0)=true:=bne_iff_ne.mpr ap;obtain rfl:=aA H;have cV:=cz u 0;have cW:=cz u 1;have cX:=cz u 2;have dl:=aD u.out 0;have dm:=aD u.out 1;have dn:=aD u.out 2
            go_wp2_with (first|((with_reducible refine bp (f:=110) rfl ?_);refine gL (some 32) Tryz.func110 #[.slice I F.length K,.int .i64 z] ?_;(with_reducible refine(fh.c k2 _ _ F z t244 _ ?aT ?aU ad.out).mono ?_);(case aT=>exact bF U.out);(case aU=>exact O.out);rintro e w' ⟨rfl,⟨nd,rfl⟩⟩;refine⟨_,rfl,?_⟩;have aB:0≤(z:Int):=oD;have aH:z<(D.length:Int):=oD;obtain⟨b_,be,aQ⟩:=Kd.dY al.out z aB aH;cases be;replace aQ:=hW G aQ;replace aB:=aw aB;replace aH:=aw aH))
            go_ret;exact⟨eR,oB G⟩
          ·rw[aj a4]at H;exact absurd H (by simp)
         ·rw[aj a3]at H;exact absurd H (by simp)
      ·rw[aj c17]at H;have b':decide (z<12)=false:=ax c17;clear c17;obtain rfl:=aA H;go_wp2;go_ret;exact⟨eR,oB G⟩
def lh.f (z:List Int) (D:Int) (F:Int) (l1:List Int):Option (Int×Int×Int):=(ct.f z D F (l1.length:Int)).bind fun u=>(if 0≤u.1 then(if u.1<(l1.length:Int)then(some (rd l1 u.1,u.2.1,u.2.2))else(none))else(none))
theorem lh.c (g:Nat) (D:List Int) (I:Int) (J:Int) (A1:Option Addr) (c1:Nat) (l1:List Int) (r1:Int) (r2:Int) (r3:Int) (w0 w:World) (hI:aX w0 w g D I J) (hB:Below w0.heap.size w0 w) (hr1:Kd.C (Kd.int .i64) w A1 l1.length l1) (hc1:l1.length≤c1) (K:∀ad,A1=some ad→0<l1.length→ad.block≠g) (h:lh.f D I J l1=some (r1,r2,r3)):
  Calls Tryz.prog 95 #[.pointer (some ⟨g,0,none⟩),.slice A1 l1.length c1] w fun e w'=>e= .returned (.int .i64 r1)∧aX w0 w' g D r2 r3∧Below w0.heap.size w0 w'∧bh w w' g none:=by
 have am:=A_ hr1;have au:=A_ hc1;clear hr1 hc1;have G:=A_ hI;have HK:=A_ (bh.refl w g none);have av:=A_ hB.size;clear hI;have aB:=A_ hB.size;have F:=A_ hB;clear hB;have H:((ct.f D I J (l1.length:Int)).bind fun z=>(if 0≤z.1 then(if z.1<(l1.length:Int)then(some (rd l1 z.1,z.2.1,z.2.2))else(none))else(none)))=some (r1,r2,r3):=h;clear h;replace H:=ay H;obtain⟨⟨u,aq,ar⟩,V,H⟩:=H
 (try dsimp only at H)
 have al:=A_ V;clear V;by_cases c4:0≤u
 ·rw[ai c4]at H;have aC:decide (0≤u)=true:=ah c4;clear c4;by_cases c5:u<(l1.length:Int)
  ·rw[ai c5]at H;have aD:decide (u<(l1.length:Int))=true:=ah c5;clear c5;simp only[Option.some.injEq,Prod.mk.injEq]at H;obtain⟨rfl,rfl,rfl⟩:=H;go_enter Tryz.func95,Tryz.ntmps95
   go_wp2_with (first|((with_reducible refine bp (f:=26) rfl ?_);refine gL (some 9) Tryz.func26 #[.pointer (some ⟨g,0,none⟩),.int .i64 (l1.length:Int)] ?_;(with_reducible refine(ct.c g D I J (l1.length:Int) u aq ar w0 _ ?aT ?aU al.out).mono ?_);(case aT=>exact bW G);(case aU=>exact cH F);rintro e aE ⟨rfl,hi,hb,hk⟩;refine⟨_,rfl,?_⟩;have af:=A_ (bh.trans (cY HK) hk (.inl rfl));have ag:=A_ (hb);have ak:=A_ (hi);clear HK F G;have HK:=af;have F:=ag;have G:=ak;clear af ag ak;(try clear hb);(try clear hb2);(try clear hk);(try clear hi);have O:0≤(u:Int):=oD;have U:u<(l1.length:Int):=oD;obtain⟨ao,ap,X⟩:=Kd.dY am.out u O U;cases ap;replace X:=yZ HK.out X (by first|(rw[add_block];exact K _ rfl (by omega))|exact K _ rfl (by omega)|exact K ao rfl (by omega));replace O:=aw O;replace U:=aw U))
   go_ret;exact⟨eR,bW G,cH F,cY HK⟩
  ·rw[aj c5]at H;exact absurd H (by simp)
 ·rw[aj c4]at H;exact absurd H (by simp)
def e5.l0:Nat→List (ag)→Int→List Int→Int→Int→Option ((List (ag))×Int×Int)
 |0,_,_,_,_,_=>none
 |k+1,x3,u,z,J,K=>if u<(x3.length:Int)then((ct.f z J K 1500).bind fun I=>(if 0≤u then((some (x3.set (u:Int).toNat (⟨(ar x3 u).f0,(ar x3 u).f1,(ar x3 u).f2,I.1⟩:ag):List (ag))).bind fun G=>((kz.f z I.2.1 I.2.2 5).bind fun F=>(if F.1=true then(e5.l0 k (G.set (u:Int).toNat (⟨(ar G u).f0,(ar G u).f1,2,(ar G u).f3⟩:ag)) (wrap64 (u+1)) z F.2.1 F.2.2)else(e5.l0 k G (wrap64 (u+1)) z F.2.1 F.2.2))))else(none)))else((ct.f z J K 12).bind fun H=>((lh.f z H.2.1 H.2.2 (([11,11,11,H.1]:List Int))).bind fun D=>(if 0≤D.1 then(if D.1≤(x3.length:Int)then(some ((x3.take (D.1:Int).toNat),D.2.1,D.2.2))else(none))else(none))))
def e5.f (k:Nat) (u:List Int) (z:Int) (D:Int):Option ((List (ag))×Int×Int):=(eW.f k 0).bind fun F=>(e5.l0 k F 0 u z D)
theorem e5.c (k:Nat) (g:Nat) (V:List Int) (bg:Int) (bj:Int) (r1:List (ag)) (r2:Int) (r3:Int) (w0 w:World) (hI:aX w0 w g V bg bj) (hB:Below w0.heap.size w0 w) (h:e5.f k V bg bj=some (r1,r2,r3)):
  Calls Tryz.prog 93 #[.pointer (some ⟨g,0,none⟩)] w fun e w'=>∃ce:Value,e= .returned (ce)∧Kd.R aN 110 w' w.heap.size (fun _=>True) ce r1∧aX w0 w' g V r2 r3∧Below w0.heap.size w0 w'∧bh w w' g none:=by
 have F:=A_ hI;have HK:=A_ (bh.refl w g none);have bm:=A_ hB.size;clear hI;have c8:=A_ hB.size;have G:=A_ hB;clear hB;have H:((eW.f k 0).bind fun bk=>(e5.l0 k bk 0 V bg bj))=some (r1,r2,r3):=h;clear h;replace H:=ay H;obtain⟨bk,bI,H⟩:=H
 (try dsimp only at H)
 have A2:=A_ bI;clear bI;have H':=A_ H;clear H;go_enter Tryz.func93,Tryz.ntmps93
 go_wp2_with (first|((with_reducible refine bp (f:=92) rfl ?_);refine gL (some 5) Tryz.func92 #[.int .i64 0] ?_;(with_reducible refine(eW.c k 0 bk _ A2.out).mono ?_);rintro e w3 ⟨c3,rfl,b',hb⟩;refine⟨_,rfl,?_⟩;have J:=A_ (Kd.cD b' (ng (w:=w) (g:=g) (row:=none) (by repeat(first|(with_reducible first|exact HK.out|apply bh.lJ|apply mi|apply mh|apply lF)|exact HK.out))));have K:=A_ (aX.below (bW F) hb);have O:=A_ (bh.trans (cY HK) (bh.lH hb g none) (.inl rfl));have U:=A_ (aV (cH G) hb);clear F HK G;have cl:=J;have F:=K;have HK:=O;have G:=U;clear J K O U;(try clear hb);(try clear hb2);(try clear hk);(try clear hi);(try clear b')))
 go_loopg [4] k (fun cb v4 w'=>∃(D:List (ag)) (u:Int) (av:Int) (aB:Int),v4= .int .i64 u∧ae (e5.l0 cb D u V av aB=some (r1,r2,r3))∧ae (cb≤k)∧ae (Kd.R aN 110 w' w.heap.size (fun _=>True) c3 D)∧ae (aX w0 w' g V av aB)∧ae (bh w w' g none)∧ae (Below w0.heap.size w0 w'))
 case atStart=>exact⟨(bk),(0),(bg),(bj),eS,H',⟨Nat.le_refl _⟩,⟨oR cl⟩,⟨bW F⟩,⟨cY HK⟩,⟨cH G⟩⟩
 case round=>
  clear H'
  try clear p2
  obtain⟨D,u,av,aB,rfl,bl,bd,z,F,HK,G⟩:=hrel;cases gk with
  |zero=>exact absurd bl.out (by simp[e5.l0])
  |succ k1=>
   have H:=bl.out;clear bl;simp only[e5.l0]at H;by_cases c4:u<(D.length:Int)
   ·rw[ai c4]at H;have cp:decide (u<(D.length:Int))=true:=ah c4;clear c4;replace H:=ay H;obtain⟨⟨al,aH,aJ⟩,bO,H⟩:=H
    (try dsimp only at H)
    have bN:=A_ bO;clear bO;by_cases c6:0≤u
    ·rw[ai c6]at H;have dc:decide (0≤u)=true:=ah c6;clear c6;obtain⟨X,a4⟩:∃aK:List (ag),aK=(D.set (u:Int).toNat (⟨(ar D u).f0,(ar D u).f1,(ar D u).f2,al⟩:ag)):=⟨_,rfl⟩;replace H:((kz.f V aH aJ 5).bind fun aP=>(if aP.1=true then(e5.l0 k1 (X.set (u:Int).toNat (⟨(ar X u).f0,(ar X u).f1,2,(ar X u).f3⟩:ag)) (wrap64 (u+1)) V aP.2.1 aP.2.2)else(e5.l0 k1 X (wrap64 (u+1)) V aP.2.1 aP.2.2)))=some (r1,r2,r3):=by first|(rw[a4];with_reducible exact H)|(have ad:=(az _ _).symm.trans H;rw[a4];with_reducible exact ad)|(have ad:=(az _ _).symm.trans H;with_reducible exact ad)|with_reducible exact H|(rw[a4];exact H)|exact H
     have bX:=A_ a4;clear a4;replace H:=ay H;obtain⟨⟨c1,a_,bb⟩,bQ,H⟩:=H
     (try dsimp only at H)
     have bP:=A_ bQ;clear bQ;by_cases c9:c1=true
     ·subst c9;rw[ai rfl]at H;obtain⟨bH,a5⟩:∃aK:List (ag),aK=(X.set (u:Int).toNat (⟨(ar X u).f0,(ar X u).f1,2,(ar X u).f3⟩:ag)):=⟨_,rfl⟩;replace H:(e5.l0 k1 bH (wrap64 (u+1)) V a_ bb)=some (r1,r2,r3):=by first|(rw[a5];with_reducible exact H)|(have ad:=(az _ _).symm.trans H;rw[a5];with_reducible exact ad)|(have ad:=(az _ _).symm.trans H;with_reducible exact ad)|with_reducible exact H|(rw[a5];exact H)|exact H
      have co:=A_ a5;clear a5;have H':=A_ H;clear H;obtain⟨c5,be,cA⟩:=Kd.cJ z.out;subst cA
      go_wp2_with (first|((with_reducible refine bp (f:=26) rfl ?_);refine gL (some 15) Tryz.func26 #[.pointer (some ⟨g,0,none⟩),.int .i64 1500] ?_;(with_reducible refine(ct.c g V av aB 1500 al aH aJ w0 _ ?aT ?aU bN.out).mono ?_);(case aT=>exact bW F);(case aU=>exact cH G);rintro e am ⟨rfl,hi,hb,hk⟩;refine⟨_,rfl,?_⟩;have J:=A_ (Kd.cm (Kd.jW (aX.apart (show aX w0 _ g V av aB from bW F) (oR z) (by decide)) hk (fun _ h=>h.2)) (fun _ h=>h.1));have K:=A_ (bh.trans (cY HK) hk (.inl rfl));have O:=A_ (hb);have U:=A_ (hi);clear z HK G F;have z:=J;have HK:=K;have G:=O;have F:=U;clear J K O U;(try clear hb);(try clear hb2);(try clear hk);(try clear hi);have aF:0≤(u:Int):=oD;have aG:(u:Int)<((D.length:Int):Int):=oD;obtain⟨I,cz,aS,aW,bt,cw,aM⟩:=Kd.kH z.out (by omega);(first|cases aS|(injection aS with au bs br;(first|subst au|(injection au with au;subst au));subst br;clear bs));have bc:=A_ aW;have ck:=A_ aM;clear aW bt aM;obtain⟨cq,bx,aY,af,ak⟩:=Kd.iR z.out df (u:Int) aF aG;obtain rfl:=na aY;have cW:am.cell? ⟨I,(u:Int).toNat*4,none⟩=some (.int .i64 ((ar D u).f0)):=af 0 _ rfl;have cX:am.cell? ⟨I,(u:Int).toNat*4+1,none⟩=some (.int .i64 ((ar D u).f1)):=af 1 _ rfl;have cZ:am.cell? ⟨I,(u:Int).toNat*4+2,none⟩=some (.int .i64 ((ar D u).f2)):=af 2 _ rfl;have c0:am.cell? ⟨I,(u:Int).toNat*4+3,none⟩=some (.int .i64 ((ar D u).f3)):=af 3 _ rfl;have cM:am.frozen? ⟨I,(u:Int).toNat*4,none⟩=false:=ak 0;have cN:am.frozen? ⟨I,(u:Int).toNat*4+1,none⟩=false:=ak 1;have cO:am.frozen? ⟨I,(u:Int).toNat*4+2,none⟩=false:=ak 2;have cP:am.frozen? ⟨I,(u:Int).toNat*4+3,none⟩=false:=ak 3;clear bx af ak aY;replace aF:=aw aF;replace aG:=aw aG;have bR:=A_ (show Kd.R aN 110 am w.heap.size (fun _=>True) (.slice (some ⟨I,0,none⟩) D.length be) D from(oR z));obtain⟨de,b3,b0,bu,b7⟩:=Kd.iR bR.out df (u:Int) (oD) (by have h_:(u:Int)<((D.length:Int):Int):=oD;first|exact h_|(have e_:=(Kd.cr z.out).1;omega)|simpa using h_);obtain rfl:=na b0;have bn:=Kd.mP bR.out (u:Int) (oD) (by have h_:(u:Int)<((D.length:Int):Int):=oD;first|exact h_|(have e_:=(Kd.cr z.out).1;omega)|simpa using h_) (seg:=[.int .i64 al]) (j:=3) b3 bu (show 4≤4 from by decide) (x':=(⟨(ar D u).f0,(ar D u).f1,(ar D u).f2,al⟩:ag)) (pK _ _ _ (⟨(ar D u).f0,(ar D u).f1,(ar D u).f2,al⟩:ag)) (fun _ hk=>hk);have cT:=bu 3 _ rfl;(try simp only[show(aN).sz=4 from rfl,Nat.mul_one,Nat.add_zero]at cT);have cI:=b7 3;(try simp only[show(aN).sz=4 from rfl,Nat.mul_one,Nat.add_zero]at cI);clear b3 bu b7 b0)|((with_reducible refine lC (t:=3) (p:=17) rfl ?_);refine lN (t:=3) (p:=17) (v:= ?CE) (w1:=(am.setCell ⟨I,(u:Int).toNat*4+3,none⟩ (.int .i64 al))) ?hg ?ho ?hn ?hr ?_;(case ho=>rfl);(case hg=>rfl);(case hn=>rfl);(case hr=>first|(go_simp;done)|(go_simp;rfl));intro bC hw;have hg:am.grownBy bC (some I):=(by rw[hw];exact bn.2);have aD:Kd.R aN 110 bC w.heap.size (fun _=>True) (.slice (some ⟨I,0,none⟩) D.length be) X:=(by rw[hw,bX.out];exact bn.1);clear bn;have J:=A_ (aD);have K:=A_ (aX.grown (bW F) hg (aX.kX F.out z.out (by decide)));have O:=A_ ((by rw[hw];exact dZ (G.out) (Nat.le_trans bm.out bc.out):Below w0.heap.size w0 bC));have U:=A_ (bh.trans (cY HK) (bh.nk hg g) (Kd.o7 z.out));clear z F G HK;have z:=J;have F:=K;have G:=O;have HK:=U;clear J K O U hg hw aD)|((with_reducible refine bp (f:=49) rfl ?_);refine gL (some 19) Tryz.func49 #[.pointer (some ⟨g,0,none⟩),.int .i64 5] ?_;(with_reducible refine(kz.c g V aH aJ 5 true a_ bb w0 _ ?aT ?aU bP.out).mono ?_);(case aT=>exact bW F);(case aU=>exact cH G);rintro e ao ⟨rfl,hi,hb,hk⟩;refine⟨_,rfl,?_⟩;have J:=A_ (Kd.cm (Kd.jW (aX.apart (show aX w0 _ g V aH aJ from bW F) (oR z) (by decide)) hk (fun _ h=>h.2)) (fun _ h=>h.1));have K:=A_ (bh.trans (cY HK) hk (.inl rfl));have O:=A_ (hb);have U:=A_ (hi);clear z HK G F;have z:=J;have HK:=K;have G:=O;have F:=U;clear J K O U;(try clear hb);(try clear hb2);(try clear hk);(try clear hi);have bz:0≤(u:Int):=oD;have bA:(u:Int)<((D.length:Int):Int):=oD;obtain⟨dd,cF,bZ,aZ,a0⟩:=Kd.iR z.out df (u:Int) bz bA;obtain rfl:=na bZ;have dm:ao.cell? ⟨I,(u:Int).toNat*4,none⟩=some (.int .i64 ((ar X u).f0)):=aZ 0 _ rfl;have dn:ao.cell? ⟨I,(u:Int).toNat*4+1,none⟩=some (.int .i64 ((ar X u).f1)):=aZ 1 _ rfl;have dq:ao.cell? ⟨I,(u:Int).toNat*4+2,none⟩=some (.int .i64 ((ar X u).f2)):=aZ 2 _ rfl;have dt:ao.cell? ⟨I,(u:Int).toNat*4+3,none⟩=some (.int .i64 ((ar X u).f3)):=aZ 3 _ rfl;have di:ao.frozen? ⟨I,(u:Int).toNat*4,none⟩=false:=a0 0;have dj:ao.frozen? ⟨I,(u:Int).toNat*4+1,none⟩=false:=a0 1;have dk:ao.frozen? ⟨I,(u:Int).toNat*4+2,none⟩=false:=a0 2;have dl:ao.frozen? ⟨I,(u:Int).toNat*4+3,none⟩=false:=a0 3;clear cF aZ a0 bZ;replace bz:=aw bz;replace bA:=aw bA;have bS:=A_ (show Kd.R aN 110 ao w.heap.size (fun _=>True) (.slice (some ⟨I,0,none⟩) D.length be) X from(oR z));obtain⟨dg,b4,b1,bv,b8⟩:=Kd.iR bS.out df (u:Int) (oD) (by have h_:(u:Int)<((D.length:Int):Int):=oD;first|exact h_|(have e_:=(Kd.cr z.out).1;omega)|simpa using h_);obtain rfl:=na b1;have bo:=Kd.mP bS.out (u:Int) (oD) (by have h_:(u:Int)<((D.length:Int):Int):=oD;first|exact h_|(have e_:=(Kd.cr z.out).1;omega)|simpa using h_) (seg:=[.int .i64 2]) (j:=2) b4 bv (show 3≤4 from by decide) (x':=(⟨(ar X u).f0,(ar X u).f1,2,(ar X u).f3⟩:ag)) (pK _ _ _ (⟨(ar X u).f0,(ar X u).f1,2,(ar X u).f3⟩:ag)) (fun _ hk=>hk);have cU:=bv 2 _ rfl;(try simp only[show(aN).sz=4 from rfl,Nat.mul_one,Nat.add_zero]at cU);have cK:=b8 2;(try simp only[show(aN).sz=4 from rfl,Nat.mul_one,Nat.add_zero]at cK);clear b4 bv b8 b1)|((with_reducible refine lC (t:=3) (p:=23) rfl ?_);refine lN (t:=3) (p:=23) (v:= ?CF) (w1:=(ao.setCell ⟨I,(u:Int).toNat*4+2,none⟩ (.int .i64 2))) ?hg ?ho ?hn ?hr ?_;(case ho=>rfl);(case hg=>rfl);(case hn=>rfl);(case hr=>first|(go_simp;done)|(go_simp;rfl));intro bE hw;have hg:ao.grownBy bE (some I):=(by rw[hw];exact bo.2);have aD:Kd.R aN 110 bE w.heap.size (fun _=>True) (.slice (some ⟨I,0,none⟩) D.length be) bH:=(by rw[hw,co.out];exact bo.1);clear bo;have J:=A_ (aD);have K:=A_ (aX.grown (bW F) hg (aX.kX F.out z.out (by decide)));have O:=A_ ((by rw[hw];exact dZ (G.out) (Nat.le_trans bm.out bc.out):Below w0.heap.size w0 bE));have U:=A_ (bh.trans (cY HK) (bh.nk hg g) (Kd.o7 z.out));clear z F G HK;have z:=J;have F:=K;have G:=O;have HK:=U;clear J K O U hg hw aD))
      go_roundg k1
      case measure=>have:=bd.out;omega
      case rel=>exact⟨(bH),(wrap64 (u+1)),(a_),(bb),eS,H',⟨by have:=bd.out;omega⟩,⟨oR z⟩,⟨bW F⟩,⟨cY HK⟩,⟨cH G⟩⟩
     ·replace c9:=Bool.eq_false_iff.mpr c9;subst c9;rw[aj (show¬(false=true)by decide)]at H;have H':=A_ H;clear H;obtain⟨c7,bY,cB⟩:=Kd.cJ z.out;subst cB
      go_wp2_with (first|((with_reducible refine bp (f:=26) rfl ?_);refine gL (some 15) Tryz.func26 #[.pointer (some ⟨g,0,none⟩),.int .i64 1500] ?_;(with_reducible refine(ct.c g V av aB 1500 al aH aJ w0 _ ?aT ?aU bN.out).mono ?_);(case aT=>exact bW F);(case aU=>exact cH G);rintro e ap ⟨rfl,hi,hb,hk⟩;refine⟨_,rfl,?_⟩;have J:=A_ (Kd.cm (Kd.jW (aX.apart (show aX w0 _ g V av aB from bW F) (oR z) (by decide)) hk (fun _ h=>h.2)) (fun _ h=>h.1));have K:=A_ (bh.trans (cY HK) hk (.inl rfl));have O:=A_ (hb);have U:=A_ (hi);clear z HK G F;have z:=J;have HK:=K;have G:=O;have F:=U;clear J K O U;(try clear hb);(try clear hb2);(try clear hk);(try clear hi);have aF:0≤(u:Int):=oD;have aG:(u:Int)<((D.length:Int):Int):=oD;obtain⟨I,cz,aS,aW,bt,cw,aM⟩:=Kd.kH z.out (by omega);(first|cases aS|(injection aS with au bs br;(first|subst au|(injection au with au;subst au));subst br;clear bs));have bc:=A_ aW;have ck:=A_ aM;clear aW bt aM;obtain⟨cq,bx,aY,af,ak⟩:=Kd.iR z.out df (u:Int) aF aG;obtain rfl:=na aY;have cW:ap.cell? ⟨I,(u:Int).toNat*4,none⟩=some (.int .i64 ((ar D u).f0)):=af 0 _ rfl;have cX:ap.cell? ⟨I,(u:Int).toNat*4+1,none⟩=some (.int .i64 ((ar D u).f1)):=af 1 _ rfl;have cZ:ap.cell? ⟨I,(u:Int).toNat*4+2,none⟩=some (.int .i64 ((ar D u).f2)):=af 2 _ rfl;have c0:ap.cell? ⟨I,(u:Int).toNat*4+3,none⟩=some (.int .i64 ((ar D u).f3)):=af 3 _ rfl;have cM:ap.frozen? ⟨I,(u:Int).toNat*4,none⟩=false:=ak 0;have cN:ap.frozen? ⟨I,(u:Int).toNat*4+1,none⟩=false:=ak 1;have cO:ap.frozen? ⟨I,(u:Int).toNat*4+2,none⟩=false:=ak 2;have cP:ap.frozen? ⟨I,(u:Int).toNat*4+3,none⟩=false:=ak 3;clear bx af ak aY;replace aF:=aw aF;replace aG:=aw aG;have bT:=A_ (show Kd.R aN 110 ap w.heap.size (fun _=>True) (.slice (some ⟨I,0,none⟩) D.length bY) D from(oR z));obtain⟨dh,b5,b2,bw,b9⟩:=Kd.iR bT.out df (u:Int) (oD) (by have h_:(u:Int)<((D.length:Int):Int):=oD;first|exact h_|(have e_:=(Kd.cr z.out).1;omega)|simpa using h_);obtain rfl:=na b2;have bq:=Kd.mP bT.out (u:Int) (oD) (by have h_:(u:Int)<((D.length:Int):Int):=oD;first|exact h_|(have e_:=(Kd.cr z.out).1;omega)|simpa using h_) (seg:=[.int .i64 al]) (j:=3) b5 bw (show 4≤4 from by decide) (x':=(⟨(ar D u).f0,(ar D u).f1,(ar D u).f2,al⟩:ag)) (pK _ _ _ (⟨(ar D u).f0,(ar D u).f1,(ar D u).f2,al⟩:ag)) (fun _ hk=>hk);have cV:=bw 3 _ rfl;(try simp only[show(aN).sz=4 from rfl,Nat.mul_one,Nat.add_zero]at cV);have cL:=b9 3;(try simp only[show(aN).sz=4 from rfl,Nat.mul_one,Nat.add_zero]at cL);clear b5 bw b9 b2)|((with_reducible refine lC (t:=3) (p:=17) rfl ?_);refine lN (t:=3) (p:=17) (v:= ?CH) (w1:=(ap.setCell ⟨I,(u:Int).toNat*4+3,none⟩ (.int .i64 al))) ?hg ?ho ?hn ?hr ?_;(case ho=>rfl);(case hg=>rfl);(case hn=>rfl);(case hr=>first|(go_simp;done)|(go_simp;rfl));intro bF hw;have hg:ap.grownBy bF (some I):=(by rw[hw];exact bq.2);have aD:Kd.R aN 110 bF w.heap.size (fun _=>True) (.slice (some ⟨I,0,none⟩) D.length bY) X:=(by rw[hw,bX.out];exact bq.1);clear bq;have J:=A_ (aD);have K:=A_ (aX.grown (bW F) hg (aX.kX F.out z.out (by decide)));have O:=A_ ((by rw[hw];exact dZ (G.out) (Nat.le_trans bm.out bc.out):Below w0.heap.size w0 bF));have U:=A_ (bh.trans (cY HK) (bh.nk hg g) (Kd.o7 z.out));clear z F G HK;have z:=J;have F:=K;have G:=O;have HK:=U;clear J K O U hg hw aD)|((with_reducible refine bp (f:=49) rfl ?_);refine gL (some 19) Tryz.func49 #[.pointer (some ⟨g,0,none⟩),.int .i64 5] ?_;(with_reducible refine(kz.c g V aH aJ 5 false a_ bb w0 _ ?aT ?aU bP.out).mono ?_);(case aT=>exact bW F);(case aU=>exact cH G);rintro e dw ⟨rfl,hi,hb,hk⟩;refine⟨_,rfl,?_⟩;have J:=A_ (Kd.cm (Kd.jW (aX.apart (show aX w0 _ g V aH aJ from bW F) (oR z) (by decide)) hk (fun _ h=>h.2)) (fun _ h=>h.1));have K:=A_ (bh.trans (cY HK) hk (.inl rfl));have O:=A_ (hb);have U:=A_ (hi);clear z HK G F;have z:=J;have HK:=K;have G:=O;have F:=U;clear J K O U;(try clear hb);(try clear hb2);(try clear hk);(try clear hi)))
      go_roundg k1
      case measure=>have:=bd.out;omega
      case rel=>exact⟨(X),(wrap64 (u+1)),(a_),(bb),eS,H',⟨by have:=bd.out;omega⟩,⟨oR z⟩,⟨bW F⟩,⟨cY HK⟩,⟨cH G⟩⟩
    ·rw[aj c6]at H;exact absurd H (by simp)
   ·rw[aj c4]at H;have cp:decide (u<(D.length:Int))=false:=ax c4;clear c4;replace H:=ay H;obtain⟨⟨aL,a7,a9⟩,bK,H⟩:=H
    (try dsimp only at H)
    have cg:=A_ bK;clear bK;obtain⟨bG,a2⟩:∃aK:List Int,aK=(([11,11,11,aL]:List Int)):=⟨_,rfl⟩;replace H:((lh.f V a7 a9 bG).bind fun aO=>(if 0≤aO.1 then(if aO.1≤(D.length:Int)then(some ((D.take (aO.1:Int).toNat),aO.2.1,aO.2.2))else(none))else(none)))=some (r1,r2,r3):=by first|(rw[a2];with_reducible exact H)|(have ad:=(az _ _).symm.trans H;rw[a2];with_reducible exact ad)|(have ad:=(az _ _).symm.trans H;with_reducible exact ad)|with_reducible exact H|(rw[a2];exact H)|exact H
    have bU:=A_ a2;clear a2;replace H:=ay H;obtain⟨⟨aq,cc,cd⟩,bL,H⟩:=H
    (try dsimp only at H)
    have ch:=A_ bL;clear bL;by_cases aQ:0≤aq
    ·rw[ai aQ]at H;have c_:=aw aQ;have c':decide (0≤aq)=true:=ah aQ;clear aQ;by_cases aR:aq≤(D.length:Int)
     ·rw[ai aR]at H;have da:=aw aR;have db:decide (aq≤(D.length:Int))=true:=ah aR;clear aR;obtain⟨cf,a3⟩:∃aK:List (ag),aK=(D.take (aq:Int).toNat):=⟨_,rfl⟩;replace H:(some (cf,cc,cd))=some (r1,r2,r3):=by first|(rw[a3];with_reducible exact H)|(have ad:=(az _ _).symm.trans H;rw[a3];with_reducible exact ad)|(have ad:=(az _ _).symm.trans H;with_reducible exact ad)|with_reducible exact H|(rw[a3];exact H)|exact H
      have bV:=A_ a3;clear a3;simp only[Option.some.injEq,Prod.mk.injEq]at H;obtain⟨rfl,rfl,rfl⟩:=H;obtain⟨ci,cx,cC⟩:=Kd.cJ z.out;subst cC
      go_wp2_with (first|((with_reducible refine bp (f:=26) rfl ?_);refine gL (some 27) Tryz.func26 #[.pointer (some ⟨g,0,none⟩),.int .i64 12] ?_;(with_reducible refine(ct.c g V av aB 12 aL a7 a9 w0 _ ?aT ?aU cg.out).mono ?_);(case aT=>exact bW F);(case aU=>exact cH G);rintro e dx ⟨rfl,hi,hb,hk⟩;refine⟨_,rfl,?_⟩;have J:=A_ (Kd.cm (Kd.jW (aX.apart (show aX w0 _ g V av aB from bW F) (oR z) (by decide)) hk (fun _ h=>h.2)) (fun _ h=>h.1));have K:=A_ (bh.trans (cY HK) hk (.inl rfl));have O:=A_ (hb);have U:=A_ (hi);clear z HK G F;have z:=J;have HK:=K;have G:=O;have F:=U;clear J K O U;(try clear hb);(try clear hb2);(try clear hk);(try clear hi))|((with_reducible refine aC (N:=28) rfl ?_);refine Kd.dR (Kd.int .i64) _ 3 ?hg (N:=28) ?hd (xs:=([11,11,11,aL]:List Int)) (inner:=[.int .i64 11,.int .i64 11,.int .i64 11,.int .i64 aL]) (ok:=fun _=>True) (bD:=fun _=>True) ?hr ?hp (fun _ hk=>hk) trivial (Below.refl _ _) (Nat.le_refl _) (by simp) ?_;(case hd=>rfl);(case hg=>rfl);(case hr=>first|(go_simp;done)|(go_simp;rfl));(case hp=>exact(aI.one (show Kd.M (Kd.int .i64) _ _ _ 11 [.int .i64 11]from rfl) (aI.one (show Kd.M (Kd.int .i64) _ _ _ 11 [.int .i64 11]from rfl) (aI.one (show Kd.M (Kd.int .i64) _ _ _ 11 [.int .i64 11]from rfl) (aI.one (show Kd.M (Kd.int .i64) _ _ _ aL [.int .i64 aL]from rfl) (aI.none _ _))))));intro dv dy a1 hb cQ cR;clear cQ cR;(first|rw[←bU.out]at a1|(simp only[Int.reduceToNat]at a1;rw[←bU.out]at a1));have J:=A_ (Kd.b6 (oR z) hb);have K:=A_ (Kd.cD a1 (ng (w:=w) (g:=g) (row:=none) (by repeat(first|(with_reducible first|exact HK.out|apply bh.lJ|apply mi|apply mh|apply lF)|exact HK.out))));have O:=A_ (aX.below (bW F) hb);have U:=A_ (bh.trans (cY HK) (bh.lH hb g none) (.inl rfl));have a6:=A_ (aV (cH G) hb);clear z F HK G;have z:=J;have aE:=K;have F:=O;have HK:=U;have G:=a6;clear J K O U a6 hb a1;obtain⟨cj,cy,cE⟩:=Kd.cJ aE.out;subst cE)|((with_reducible refine bp (f:=95) rfl ?_);refine gL (some 29) Tryz.func95 #[.pointer (some ⟨g,0,none⟩),.slice cj bG.length cy] ?_;(with_reducible refine(lh.c g V a7 a9 _ _ bG aq cc cd w0 _ ?aT ?aU ?dH ?dO ?gj ch.out).mono ?_);(case aT=>exact bW F);(case aU=>exact cH G);(case dH=>repeat(first|exact(Kd.cr aE.out).2.2|(with_reducible refine Kd.lv ?_ _)|(with_reducible refine Kd.lT ?_ _)|(with_reducible refine Kd.lS ?_)));(case dO=>exact(Kd.cr aE.out).2.1);(case gj=>exact yi (aX.kX F.out aE.out (by decide)));rintro e dz ⟨rfl,hi,hb,hk⟩;refine⟨_,rfl,?_⟩;have J:=A_ (Kd.cm (Kd.jW (aX.apart (show aX w0 _ g V a7 a9 from bW F) (oR z) (by decide)) hk (fun _ h=>h.2)) (fun _ h=>h.1));have K:=A_ (Kd.cm (Kd.jW (aX.apart (show aX w0 _ g V a7 a9 from bW F) (oR aE) (by decide)) hk (fun _ h=>h.2)) (fun _ h=>h.1));have O:=A_ (bh.trans (cY HK) hk (.inl rfl));have U:=A_ (hb);have a6:=A_ (hi);clear z aE HK G F;have z:=J;have aE:=K;have HK:=O;have G:=U;have F:=a6;clear J K O U a6;(try clear hb);(try clear hb2);(try clear hk);(try clear hi);have bB:(aq:Int)≤((D.length:Int):Int):=oD;obtain⟨du,b_,_,cS,_⟩:=info_parts om;have cG:=rf (P:=Tryz.prog) 24 110 .i64 Tryz.underlying24 b_ ci D.length cx aq (oD) bB (Kd.cr z.out).2.1;have bf:=Kd.w_ (m:=(aq:Int).toNat) z.out (by omega);have ca:cf.length=(aq:Int).toNat:=(by rw[bV.out,List.length_take];omega);rw[←bV.out]at bf;rw[←ca]at bf cG;clear ca b_ cS z;have cn:=A_ bf;clear bf;replace bB:=aw bB))
      go_ret;exact⟨_,eR,oR cn,bW F,cH G,cY HK⟩
     ·rw[aj aR]at H;exact absurd H (by simp)
    ·rw[aj aQ]at H;exact absurd H (by simp)
def fV.l0:Nat→List Int→Int→List Int→Int→Int→Option (List Int)
 |0,_,_,_,_,_=>none
 |k+1,z,D,F,G,H=>if D<12 then((ct.f F G H 10000).bind fun u=>(if z.length<17592186044416 then(fV.l0 k (z++[u.1]) (wrap64 (D+1)) F u.2.1 u.2.2)else(none)))else(some z)
def fV.f (k:Nat) (l0:List Int):Option (List Int):=(fG.f k l0).bind fun u=>(fV.l0 k (([]:List Int)) 0 u.1 u.2.1 u.2.2)
theorem fV.c (k:Nat) (A0:Option Addr) (c0:Nat) (l0:List Int) (r:List Int) (w:World) (aJ:Kd.C (Kd.int .u8) w A0 l0.length l0) (hc0:l0.length≤c0) (h:fV.f k l0=some r):
  Calls Tryz.prog 8 #[.slice A0 l0.length c0] w fun e w'=>∃aM:Value,e= .returned (aM)∧Kd.R (Kd.int .i64) 3 w' w.heap.size (fun _=>True) aM r∧Below w.heap.size w w':=by
 have a1:=A_ aJ;have aW:=A_ hc0;clear aJ hc0;have u:=A_ (Below.refl w.heap.size w);have H:((fG.f k l0).bind fun ao=>(fV.l0 k (([]:List Int)) 0 ao.1 ao.2.1 ao.2.2))=some r:=h;clear h;replace H:=ay H;obtain⟨⟨O,ap,aq⟩,aD,H⟩:=H
 (try dsimp only at H)
 have A2:=A_ aD;clear aD;obtain⟨aN,X⟩:∃av:List Int,av=(([]:List Int)):=⟨_,rfl⟩;replace H:(fV.l0 k aN 0 O ap aq)=some r:=by first|(rw[X];with_reducible exact H)|(have J:=(az _ _).symm.trans H;rw[X];with_reducible exact J)|(have J:=(az _ _).symm.trans H;with_reducible exact J)|with_reducible exact H|(rw[X];exact H)|exact H
 have aH:=A_ X;clear X;have H':=A_ H;clear H;go_enter Tryz.func8,Tryz.ntmps8
 go_wp2_with (first|((with_reducible refine bp (f:=23) rfl ?_);refine gL (some 7) Tryz.func23 #[.slice A0 l0.length c0] ?_;(with_reducible refine(fG.c k _ _ l0 O ap aq w _ ?aT ?aU ?dH A2.out).mono ?_);(case aT=>repeat(first|(with_reducible first|exact u.out|apply bM|apply dp|apply cv)|exact u.out));(case aU=>exact a1.out);(case dH=>exact aW.out);rintro e w3 ⟨ak,rfl,hi,hb,hb2⟩;refine⟨_,rfl,?_⟩;have D:=A_ (hb);have F:=A_ (hi);clear u;have u:=D;have z:=F;clear D F;(try clear hb);(try clear hb2);(try clear hk);(try clear hi))|((with_reducible refine aC (N:=8) rfl ?_);refine Kd.dR (Kd.int .i64) _ 3 ?hg (N:=8) ?hd (xs:=([]:List Int)) (inner:=[]) (ok:=fun _=>True) (bD:=fun _=>True) ?hr ?hp (fun _ hk=>hk) trivial (Below.refl _ _) (Nat.le_refl _) (by simp) ?_;(case hd=>rfl);(case hg=>rfl);(case hr=>first|(go_simp;done)|(go_simp;rfl));(case hp=>exact(aI.none _ _));intro a7 w4 V hb a5 a6;clear a5 a6;(first|rw[←aH.out]at V|(simp only[Int.reduceToNat]at V;rw[←aH.out]at V));have D:=A_ (Kd.cD V (aZ (cH u)));have F:=A_ (aX.below (bW z) hb);have G:=A_ (aV (cH u) hb);clear z u;have aY:=D;have z:=F;have u:=G;clear D F G hb V))
 go_loopg [4,5] k (fun aK v4 v5 w'=>∃(U:List Int) (I:Int) (af:Int) (ag:Int),v5= .int .i64 I∧ae (fV.l0 aK U I O af ag=some r)∧ae (aK≤k)∧ae (Kd.R (Kd.int .i64) 3 w' w.heap.size (fun _=>True) v4 U)∧ae (aX w w' ak O af ag)∧ae (Below w.heap.size w w'))
 case atStart=>exact⟨(aN),(0),(ap),(aq),eS,H',⟨Nat.le_refl _⟩,⟨oR aY⟩,⟨bW z⟩,⟨cH u⟩⟩
 case round=>
  clear H'
  try clear c2
  try clear p2
  obtain⟨U,I,af,ag,rfl,am,aG,K,z,u⟩:=hrel;cases gk with
  |zero=>exact absurd am.out (by simp[fV.l0])
  |succ k1=>
   have H:=am.out;clear am;simp only[fV.l0]at H;by_cases c6:I<12
   ·rw[ai c6]at H;have a4:decide (I<12)=true:=ah c6;clear c6;replace H:=ay H;obtain⟨⟨al,ar,au⟩,aE,H⟩:=H
    (try dsimp only at H)
    have aR:=A_ aE;clear aE;by_cases c8:U.length<17592186044416
    ·rw[ai c8]at H;have a2:=A_ c8;clear c8;obtain⟨aQ,ad⟩:∃av:List Int,av=(U++[al]):=⟨_,rfl⟩;replace H:(fV.l0 k1 aQ (wrap64 (I+1)) O ar au)=some r:=by first|(rw[ad];with_reducible exact H)|(have J:=(az _ _).symm.trans H;rw[ad];with_reducible exact J)|(have J:=(az _ _).symm.trans H;with_reducible exact J)|with_reducible exact H|(rw[ad];exact H)|exact H
     have a3:=A_ ad;clear ad;have H':=A_ H;clear H
     go_wp2_with (first|((with_reducible refine bp (f:=26) rfl ?_);refine gL (some 15) Tryz.func26 #[.pointer (some ⟨ak,0,none⟩),.int .i64 10000] ?_;(with_reducible refine(ct.c ak O af ag 10000 al ar au w _ ?aT ?aU aR.out).mono ?_);(case aT=>exact bW z);(case aU=>exact cH u);rintro e bb ⟨rfl,hi,hb,hk⟩;refine⟨_,rfl,?_⟩;have D:=A_ (Kd.cm (Kd.jW (aX.apart (show aX w _ ak O af ag from bW z) (oR K) (by decide)) hk (fun _ h=>h.2)) (fun _ h=>h.1));have F:=A_ (hb);have G:=A_ (hi);clear K u z;have K:=D;have u:=F;have z:=G;clear D F G;(try clear hb);(try clear hb2);(try clear hk);(try clear hi))|((with_reducible refine fI (b:= .append) (xs:= #[.tmp 13,.tmp 16]) rfl ?_);at_builtin;refine Kd.gS (Kd.int .i64) (w0:=w) w.heap.size rfl (.tmp 13) (.tmp 16) 25 3 (.int .i64 0) 8 rfl Tryz.underlying25 info3 rfl (by decide) (by omega) u4 U al [.int .i64 al] (fun _=>True) (fun _=>False) rfl rfl ?aP (fun _ hk=>hk.elim) ?aF ?aO ?aB ?aS ?aL ?_;(case aP=>exact rfl);(case aB=>exact(cH u));(case aF=>exact(fun _ _=>trivial));(case aO=>exact(oR K));(case aS=>exact(aZ (cH u)));(case aL=>have:=a2.out;omega);intro a9 a_ ho hb hg hat;rw[←a3.out]at ho;have D:=A_ (aX.grown (bW z) hg (aX.kX z.out K.out (by decide)));have F:=A_ (hb);have G:=A_ (ho);clear z u K;have z:=D;have u:=F;have a0:=G;clear D F G ho hb hg hat))
     go_roundg k1
     case measure=>have:=aG.out;omega
     case rel=>exact⟨(aQ),(wrap64 (I+1)),(ar),(au),eS,H',⟨by have:=aG.out;omega⟩,⟨oR a0⟩,⟨bW z⟩,⟨cH u⟩⟩
    ·rw[aj c8]at H;exact absurd H (by simp)
   ·rw[aj c6]at H;have a4:decide (I<12)=false:=ax c6;clear c6;obtain rfl:=aA H;go_wp2;go_ret;exact⟨_,eR,oR K,cH u⟩
def lD.f (l0:List (ag)):Option ((List (ag))):=(some (([]:List (ag)):List (ag))).bind fun u=>(if u.length+l0.length<4398046511104 then(some (u++l0))else(none))
theorem lD.c (A0:Option Addr) (c0:Nat) (l0:List (ag)) (r:List (ag)) (w:World) (X:Kd.C aN w A0 l0.length l0) (hc0:l0.length≤c0) (h:lD.f l0=some r):
  Calls Tryz.prog 96 #[.slice A0 l0.length c0] w fun e w'=>∃ad:Value,e= .returned (ad)∧Kd.R aN 110 w' w.heap.size (fun _=>True) ad r∧Below w.heap.size w w':=by
 have ak:=A_ X;have au:=A_ hc0;clear X hc0;have u:=A_ (Below.refl w.heap.size w);have H:((some (([]:List (ag)):List (ag))).bind fun z=>(if z.length+l0.length<4398046511104 then(some (z++l0))else(none)))=some r:=h;clear h;obtain⟨z,G⟩:∃O:List (ag),O=(([]:List (ag))):=⟨_,rfl⟩;replace H:(if z.length+l0.length<4398046511104 then(some (z++l0))else(none))=some r:=by first|(rw[G];with_reducible exact H)|(have D:=(az _ _).symm.trans H;rw[G];with_reducible exact D)|(have D:=(az _ _).symm.trans H;with_reducible exact D)|with_reducible exact H|(rw[G];exact H)|exact H
 have V:=A_ G;clear G;by_cases c2:z.length+l0.length<4398046511104
 ·rw[ai c2]at H;have al:=A_ c2;clear c2;obtain⟨ar,I⟩:∃O:List (ag),O=(z++l0):=⟨_,rfl⟩;replace H:(some ar)=some r:=by first|(rw[I];with_reducible exact H)|(have D:=(az _ _).symm.trans H;rw[I];with_reducible exact D)|(have D:=(az _ _).symm.trans H;with_reducible exact D)|with_reducible exact H|(rw[I];exact H)|exact H
  have am:=A_ I;clear I;obtain rfl:=aA H;go_enter Tryz.func96,Tryz.ntmps96
  go_wp2_with (first|((with_reducible refine aC (N:=3) rfl ?_);refine Kd.dR aN _ 110 ?hg (N:=3) ?hd (xs:=([]:List (ag))) (inner:=[]) (ok:=fun _=>True) (bD:=fun _=>True) ?hr ?hp (fun _ hk=>hk) trivial (Below.refl _ _) (Nat.le_refl _) (by simp) ?_;(case hd=>rfl);(case hg=>rfl);(case hr=>first|(go_simp;done)|(go_simp;rfl));(case hp=>exact(aI.none _ _));intro aq w3 F hb ao ap;clear ao ap;(first|rw[←V.out]at F|(simp only[Int.reduceToNat]at F;rw[←V.out]at F));have J:=A_ (Kd.cD F (aZ (oB u)));have K:=A_ (aV (oB u) hb);clear u;have U:=J;have u:=K;clear J K hb F)|((with_reducible refine fI (b:= .append) (xs:= #[.tmp 3,.tmp 4]) rfl ?_);at_builtin;refine Kd.nM aN (w0:=w) w.heap.size rfl (.tmp 3) (.tmp 4) 24 110 (.agg #[(.int .i64 0),(.int .i64 0),(.int .i64 0),(.int .i64 0)]) 32 rfl Tryz.underlying24 om rfl (by decide) (by omega) aq z l0 _ _ _ (fun _=>True) (fun _=>False) rfl rfl ?aO ?aR (fun _ _ h=>h) (fun _ h=>h.elim) ?aF ?aB ?aS ?aL ?_;(case aR=>exact bF ak.out);(case aB=>exact(oB u));(case aF=>exact(fun _ _=>trivial));(case aO=>exact(oR U));(case aS=>exact(aZ (oB u)));(case aL=>have:=al.out;omega);intro av aD ho hb hg hat;rw[←am.out]at ho;have J:=A_ (hb);have K:=A_ (ho);clear u U;have u:=J;have af:=K;clear J K ho hb hg hat))
  go_ret;exact⟨_,eR,oR af,oB u⟩
 ·rw[aj c2]at H;exact absurd H (by simp)
def fc.f (F:List (ag)) (D:Int) (u:List Int):Option ((List (ag))×Int×List Int):=(lD.f F).bind fun G=>((some (([]:List Int):List Int)).bind fun z=>(if z.length+u.length<17592186044416 then(some (G,D,(z++u)))else(none)))
def fc.T1:Bool×List (List Nat×List Nat):=(true,[([],[]),([0],[0]),([1],[1]),([],[]),([3],[3]),([],[]),([],[]),([6],[6]),([5,7,2],[5,7]),([2,4,8],[2,4,8]),([9,8,0,1,2,3,4,5,6,7,8,9],[9])])
def fc.B1:List Nat:=[0,1,3,0,8,0,0,64,231,511,1023]
theorem fc.oL:aW .any (opsOf Tryz.f53 1)=fc.T1:=by kernel_rfl
theorem fc.nR:bL fc.T1.2 fc.B1=true:=by kernel_rfl
theorem fc.c (ap:Option Addr) (aq:Nat) (U:List (ag)) (V:Int) (au:Option Addr) (av:Nat) (O:List Int) (r1:List (ag)) (r2:Int) (r3:List Int) (w:World) (bG:Kd.C aN w ap U.length U) (bC:U.length≤aq) (bH:Kd.C (Kd.int .i64) w au O.length O) (bE:O.length≤av) (h:fc.f U V O=some (r1,r2,r3)):
  Calls Tryz.prog 53 #[.agg #[.slice ap U.length aq,.int .i64 V,.slice au O.length av]] w fun e w'=>∃bL bN:Value,e= .returned (.agg #[bL,.int .i64 r2,bN])∧Kd.R aN 110 w' w.heap.size (fun _=>True) bL r1∧Kd.R (Kd.int .i64) 3 w' w.heap.size (fun _=>True) bN r3∧Below w.heap.size w w':=by
 have ca:=Tryz.underlying27;have br:=A_ bG;have bp:=A_ bC;clear bG bC;have bO:=A_ bH;have bY:=A_ bE;clear bH bE;have z:=A_ (Below.refl w.heap.size w);have H:((lD.f U).bind fun ak=>((some (([]:List Int):List Int)).bind fun ar=>(if ar.length+O.length<17592186044416 then(some (ak,V,(ar++O)))else(none))))=some (r1,r2,r3):=h;clear h;replace H:=ay H;obtain⟨ak,bo,H⟩:=H
 (try dsimp only at H)
 have A2:=A_ bo;clear bo;obtain⟨ar,a2⟩:∃bm:List Int,bm=(([]:List Int)):=⟨_,rfl⟩;replace H:(if ar.length+O.length<17592186044416 then(some (ak,V,(ar++O)))else(none))=some (r1,r2,r3):=by first|(rw[a2];with_reducible exact H)|(have aG:=(az _ _).symm.trans H;rw[a2];with_reducible exact aG)|(have aG:=(az _ _).symm.trans H;with_reducible exact aG)|with_reducible exact H|(rw[a2];exact H)|exact H
 have a5:=A_ a2;clear a2;by_cases c3:ar.length+O.length<17592186044416
 ·rw[ai c3]at H;have bP:=A_ c3;clear c3;obtain⟨a6,a3⟩:∃bm:List Int,bm=(ar++O):=⟨_,rfl⟩;replace H:(some (ak,V,a6))=some (r1,r2,r3):=by first|(rw[a3];with_reducible exact H)|(have aG:=(az _ _).symm.trans H;rw[a3];with_reducible exact aG)|(have aG:=(az _ _).symm.trans H;with_reducible exact aG)|with_reducible exact H|(rw[a3];exact H)|exact H
  have bQ:=A_ a3;clear a3;simp only[Option.some.injEq,Prod.mk.injEq]at H;obtain⟨rfl,rfl,rfl⟩:=H;go_enter Tryz.func53,Tryz.ntmps53
  try go_wp2_with (first|((with_reducible refine aC (N:=1) rfl ?_);refine bX (N:=1) (cs:= #[.slice ap U.length aq,.int .i64 V,.slice au O.length av]) (t:=27) ?_;intro af hg w4 aW hb;have F:=A_ (aV (oB z) hb);have G:=A_ (aW);have I:=A_ ((by rw[hg];exact(aZ (oB z)):w.heap.size≤af));have J:=A_ ((by rw[hg];exact(aZ (oB z)):w.heap.size≤af));clear z;have z:=F;have u:=G;have bV:=I;have bT:=J;clear F G I J hb aW hg)|((with_reducible refine aC (N:=2) rfl ?_);refine bX (N:=2) (cs:= #[.slice none 0 0,.int .i64 0,.slice none 0 0]) (t:=27) ?_;intro ao hg bS aW hb;have F:=A_ (bb u hb);have G:=A_ (aV (oB z) hb);have I:=A_ (aW);have J:=A_ ((by rw[hg];exact(aZ (oB z)):w.heap.size≤ao));have X:=A_ ((by rw[hg];exact(aZ (oB z)):w.heap.size≤ao));have bI:=A_ (nL u hg);have bK:=A_ (nG u hg);clear u z;have u:=F;have z:=G;have D:=I;have bW:=J;have bU:=X;have aH:=bI;have a_:=bK;clear F G I J X bI bK hb aW hg))
  have F:=A_ (bn u.out);have G:=A_ (bn D.out);have I:=A_ (cv z.out);clear u D z;have u:=F;have D:=G;have z:=I;clear F G I;refine fX (n:=11) (S:=fun w'=>w'.cell? ⟨af,0,none⟩=some (.slice ap U.length aq)∧w'.cell? ⟨af,1,none⟩=some (.int .i64 V)∧w'.cell? ⟨af,2,none⟩=some (.slice au O.length av)) (ds:=[]) #[false,false,false,false,false,false,false,false,false,false,false] (by kernel_rfl) rfl rfl ⟨cz u 0,cz u 1,cz u 2⟩ (fun hHeld=> ?_);refine gQ fc.oL fc.nR (fun ad a9=> ?_);generalize bS.drew=cd at u D z hHeld ⊢;refine pA 0 (some 3) ad.out ?_;refine pA 3 (some 6) ad.out ?_;refine pA 6 (some 9) ad.out ?_;refine pT 1 (some 4) ad.out a9.out hHeld ?_;refine pT 4 (some 7) ad.out a9.out hHeld ?_;refine pT 7 (some 10) ad.out a9.out hHeld ?_;refine yQ (σ:=Value×Value) 3 #[true,true,true,true,true,true,true,true,false,false,false] (fun s_=>[(5,s_.1),(8,s_.2)]) (fun s_ w'=>(w'.cell? ⟨af,0,none⟩=some (.slice ap U.length aq)∧w'.cell? ⟨af,1,none⟩=some (.int .i64 V)∧w'.cell? ⟨af,2,none⟩=some (.slice au O.length av))∧(Kd.R aN 110 w' w.heap.size (fun _=>True) s_.1 ak)∧(Kd.R (Kd.int .i64) 3 w' w.heap.size (fun _=>True) s_.2 ar)∧(w'.heap[af]? =some (.cells #[.slice ap U.length aq,.int .i64 V,.slice au O.length av] 27 (0,0)))∧(w'.heap[ao]? =some (.cells #[.slice none 0 0,.int .i64 0,.slice none 0 0] 27 (0,0)))∧(Below w.heap.size w w')) ?_ ?_;rotate_left
  ·intro bB;refine vL (i:=2) (j:=5) (Ni:=some 5) (Nj:=some 8) #[true,true,true,true,true,false,true,true,false,false,false] #[true,true,false,true,true,true,true,true,false,false,false] rfl rfl rfl rfl (vM ad.out (by kernel_rfl)) (by decide) (by decide) (fun K hK=> ?_) (fun K hK=> ?_)
   ·skip
    refine cG Tryz.func96 (by kernel_rfl) rfl #[.slice ap U.length aq] (by rfl) rfl rfl (by(try simp only[List.map_toArray,List.map_cons,List.map_nil]);first|done|rfl|(simp only[List.length_drop,List.length_take];rfl)) ?_
    with_reducible refine(lD.c _ _ U ak _ ?aT ?aU A2.out).mono ?_
    (case aT=>exact bF br.out)
    (case aU=>exact bp.out)
    rintro e w7 ⟨a4,rfl,aY,hb⟩;refine⟨_,rfl,?_⟩;have F:=A_ (Kd.cD aY (aZ (oB z)));have G:=A_ (bb u hb);have I:=A_ (bb D hb);have J:=A_ (aV (oB z) hb);clear u D z;have al:=F;have u:=G;have D:=I;have z:=J;clear F G I J
    (try clear hb)
    (try clear hb2)
    (try clear hk)
    (try clear hi)
    (try clear aY)
    refine hK.out _ _ ⟨cz u 0,cz u 1,cz u 2⟩ (fun hHeld=> ?_);clear hK K;refine dS (a':= ?_) ?_ ?_;rotate_left
    ·show Act.put _ (some 5) _=_;simp only[Act.put,List.setIfInBounds_toArray,List.set_cons_zero,List.set_cons_succ,bJ,cu];rfl
    refine dN (i:=5) (N:=some 8) #[true,true,true,true,true,true,true,true,false,false,false] rfl rfl (dF ad.out (by kernel_rfl)) (by decide) (fun K hK=> ?_);refine Kd.kI (Kd.int .i64) _ 3 ?hg (N:=8) ?hd (xs:=([]:List Int)) (inner:=[]) (ok:=fun _=>True) (bD:=fun _=>True) ?hr ?hp (fun _ hk=>hk) trivial (Below.refl _ _) (Nat.le_refl _) (by simp) ?_;(case hd=>rfl);(case hg=>rfl);(case hr=>first|(go_simp;done)|(go_simp;rfl));(case hp=>exact(aI.none _ _));intro aJ ce a1 hb bj bk;clear bj bk
    (first|rw[←a5.out]at a1|(simp only[Int.reduceToNat]at a1;rw[←a5.out]at a1))
    have F:=A_ (Kd.b6 (oR al) hb);have G:=A_ (Kd.cD a1 (aZ (oB z)));have I:=A_ (bb u hb);have J:=A_ (bb D hb);have X:=A_ (aV (oB z) hb);clear al u D z;have al:=F;have am:=G;have u:=I;have D:=J;have z:=X;clear F G I J X hb a1;refine hK.out _ _ ⟨cz u 0,cz u 1,cz u 2⟩ (fun hHeld=> ?_);clear hK K;refine dS (a':= ?_) ?_ ?_;rotate_left
    ·show Act.put _ (some 8) _=_;simp only[Act.put,List.setIfInBounds_toArray,List.set_cons_zero,List.set_cons_succ,bJ,cu];rfl
    exact dS (by simp only[nt,Act.put,List.setIfInBounds_toArray,List.set_cons_zero,List.set_cons_succ]) (bB (a4,aJ) _ ⟨hHeld,(oR al),(oR am),(oK u),(oK D),(oB z)⟩)
   ·skip
    refine Kd.kI (Kd.int .i64) _ 3 ?hg (N:=8) ?hd (xs:=([]:List Int)) (inner:=[]) (ok:=fun _=>True) (bD:=fun _=>True) ?hr ?hp (fun _ hk=>hk) trivial (Below.refl _ _) (Nat.le_refl _) (by simp) ?_;(case hd=>rfl);(case hg=>rfl);(case hr=>first|(go_simp;done)|(go_simp;rfl));(case hp=>exact(aI.none _ _));intro aJ w7 a0 hb bj bk;clear bj bk
    (first|rw[←a5.out]at a0|(simp only[Int.reduceToNat]at a0;rw[←a5.out]at a0))
    have F:=A_ (Kd.cD a0 (aZ (oB z)));have G:=A_ (bb u hb);have I:=A_ (bb D hb);have J:=A_ (aV (oB z) hb);clear u D z;have am:=F;have u:=G;have D:=I;have z:=J;clear F G I J hb a0;refine hK.out _ _ ⟨cz u 0,cz u 1,cz u 2⟩ (fun hHeld=> ?_);clear hK K;refine dS (a':= ?_) ?_ ?_;rotate_left
    ·show Act.put _ (some 8) _=_;simp only[Act.put,List.setIfInBounds_toArray,List.set_cons_zero,List.set_cons_succ,bJ,cu];rfl
    refine dN (i:=2) (N:=some 5) #[true,true,true,true,true,true,true,true,false,false,false] rfl rfl (dF ad.out (by kernel_rfl)) (by decide) (fun K hK=> ?_);refine cG Tryz.func96 (by kernel_rfl) rfl #[.slice ap U.length aq] (by rfl) rfl rfl (by(try simp only[List.map_toArray,List.map_cons,List.map_nil]);first|done|rfl|(simp only[List.length_drop,List.length_take];rfl)) ?_
    with_reducible refine(lD.c _ _ U ak _ ?aT ?aU A2.out).mono ?_
    (case aT=>exact bF br.out)
    (case aU=>exact bp.out)
    rintro e cf ⟨a4,rfl,aY,hb⟩;refine⟨_,rfl,?_⟩;have F:=A_ (Kd.b6 (oR am) hb);have G:=A_ (Kd.cD aY (aZ (oB z)));have I:=A_ (bb u hb);have J:=A_ (bb D hb);have X:=A_ (aV (oB z) hb);clear am u D z;have am:=F;have al:=G;have u:=I;have D:=J;have z:=X;clear F G I J X
    (try clear hb)
    (try clear hb2)
    (try clear hk)
    (try clear hi)
    (try clear aY)
    refine hK.out _ _ ⟨cz u 0,cz u 1,cz u 2⟩ (fun hHeld=> ?_);clear hK K;refine dS (a':= ?_) ?_ ?_;rotate_left
    ·show Act.put _ (some 5) _=_;simp only[Act.put,List.setIfInBounds_toArray,List.set_cons_zero,List.set_cons_succ,bJ,cu];rfl
    exact dS (by simp only[nt,Act.put,List.setIfInBounds_toArray,List.set_cons_zero,List.set_cons_succ]) (bB (a4,aJ) _ ⟨hHeld,(oR al),(oR am),(oK u),(oK D),(oB z)⟩)
  rintro⟨a4,aJ⟩ aE ⟨bR,bv,bw,bx,bz,bA⟩;have F:ae (Kd.R aN 110 aE w.heap.size (fun _=>True) a4 ak):=⟨bv⟩;have G:ae (Kd.R (Kd.int .i64) 3 aE w.heap.size (fun _=>True) aJ ar):=⟨bw⟩;have I:ae (aE.heap[af]? =some (.cells #[.slice ap U.length aq,.int .i64 V,.slice au O.length av] 27 (0,0))):=⟨bx⟩;have J:ae (aE.heap[ao]? =some (.cells #[.slice none 0 0,.int .i64 0,.slice none 0 0] 27 (0,0))):=⟨bz⟩;have X:ae (Below w.heap.size w aE):=⟨bA⟩;clear u D z bv bw bx bz bA;have al:=F;have am:=G;have u:=I;have D:=J;have z:=X;clear F G I J X;have hHeld:aE.cell? ⟨af,0,none⟩=some (.slice ap U.length aq)∧aE.cell? ⟨af,1,none⟩=some (.int .i64 V)∧aE.cell? ⟨af,2,none⟩=some (.slice au O.length av):=bR;refine dS (a':= ?_) ?_ ?_;rotate_left
  ·simp only[nt,Act.put,List.setIfInBounds_toArray,List.set_cons_zero,List.set_cons_succ];rfl
  refine dN (i:=8) (N:=some 11) #[true,true,true,true,true,true,true,true,true,false,false] rfl rfl (dF ad.out (by kernel_rfl)) (by decide) (fun K hK=> ?_);refine Kd.sB (Kd.int .i64) (w0:=w) w.heap.size (by rfl) (.tmp 8) (.tmp 10) 25 3 (.int .i64 0) 8 rfl Tryz.underlying25 info3 rfl (by decide) (by omega) aJ ar O _ _ _ (fun _=>True) (fun _=>False) rfl rfl ?aO ?aR (fun _ _ h=>h) (fun _ h=>h.elim) ?aF ?aB ?aS ?aL ?_
  (case aR=>exact bF bO.out)
  (case aB=>exact(oB z))
  (case aF=>exact(fun _ _=>trivial))
  (case aO=>exact(oR am))
  (case aS=>exact(aZ (oB z)))
  (case aL=>have:=bP.out;omega)
  intro cb cc ho hb hg hat;rw[←bQ.out]at ho;have F:=A_ (bg u hg (Kd.jY am.out u.out (by decide)));have G:=A_ (bg D hg (Kd.jY am.out D.out (by decide)));have I:=A_ (Kd.mN (oR al) (Kd.mR (oR am)) (by decide) hg);have J:=A_ (hb);have X:=A_ (ho);clear u D al z am;have u:=F;have D:=G;have al:=I;have z:=J;have bq:=X;clear F G I J X ho hb hg hat;obtain⟨a7,bc,bs⟩:=Kd.cJ bq.out
  (first|subst bs|(injection bs with aP bd aQ;have be:=aP.symm;have bf:=aQ.symm;clear aP bd aQ;subst be;subst bf))
  obtain⟨aK,aM,bu⟩:=Kd.cJ al.out
  (first|subst bu|(injection bu with aP bd aQ;have be:=aP.symm;have bf:=aQ.symm;clear aP bd aQ;subst be;subst bf))
  refine hK.out _ _ ⟨cz u 0,cz u 1,cz u 2⟩ (fun hHeld=> ?_);clear hK K;refine dS (a':= ?_) ?_ ?_;rotate_left
  ·show Act.put _ (some 11) _=_;simp only[Act.put,List.setIfInBounds_toArray,List.set_cons_zero,List.set_cons_succ,bJ,cu];rfl
  refine pA 9 (some 12) ad.out ?_;refine dN (i:=10) (N:=none) #[true,true,true,true,true,true,true,true,true,true,true] rfl rfl (dF ad.out (by kernel_rfl)) (by decide) (fun K hK=> ?_);have b9:=cz D 0;have bZ:=aD D.out 0;have b5:=aH.out;have b2:=a_.out;have b_:=cz D 1;have b0:=aD D.out 1;have b7:=aH.out;have b3:=a_.out;have b':=cz D 2;have b1:=aD D.out 2;have b8:=aH.out;have b4:=a_.out;refine p9 (w1:= ?_) (by rfl) rfl ?_ ?_;rotate_left
  ·go_simp
   rfl
  refine hK.out _ _ ⟨(cF aH.out hHeld.1),(cF aH.out hHeld.2.1),(cF aH.out hHeld.2.2)⟩ (fun hHeld=> ?_);clear hK K;refine fH (gb ad.out (by kernel_rfl)) ?_
  try go_wp2
  refine bodyPost_ret (results_cell_row rfl _ _ ao 27 #[.slice aK ak.length aM,.int .i64 V,.slice a7 a6.length bc] (0,0) _ rfl (by(with_reducible repeat(first|refine bt ?_ _|refine bn ?_|refine bl ?_ _));refine cE (cs:= #[.slice aK ak.length aM,.int .i64 V,.slice none 0 0]) ?_ 2 _ rfl;(with_reducible repeat(first|refine bt ?_ _|refine bn ?_|refine bl ?_ _));refine cE (cs:= #[.slice aK ak.length aM,.int .i64 0,.slice none 0 0]) ?_ 1 _ rfl;(with_reducible repeat(first|refine bt ?_ _|refine bn ?_|refine bl ?_ _));refine cE (cs:= #[.slice none 0 0,.int .i64 0,.slice none 0 0]) ?_ 0 _ rfl;(with_reducible repeat(first|refine bt ?_ _|refine bn ?_|refine bl ?_ _));exact D.out) Tryz.underlying27 rfl (by kernel_rfl)) rfl ?_;exact⟨_,_,eR,by(with_reducible repeat(first|apply Kd.cC|apply Kd.cM|apply Kd.cq));exact Kd.cm (Kd.dM (p:=⟨ao,2,none⟩) (Kd.dM (p:=⟨ao,1,none⟩) (Kd.dM (p:=⟨ao,0,none⟩) (Kd.lz al.out D.out (by decide)) (fun _ hk=>hk.2) (.slice aK ak.length aM)) (fun _ hk=>hk.2) (.int .i64 V)) (fun _ hk=>hk.2) (.slice a7 a6.length bc)) (fun _ hk=>trivial),by(with_reducible repeat(first|apply Kd.cC|apply Kd.cM|apply Kd.cq));exact Kd.cm (Kd.dM (p:=⟨ao,2,none⟩) (Kd.dM (p:=⟨ao,1,none⟩) (Kd.dM (p:=⟨ao,0,none⟩) (Kd.lz bq.out D.out (by decide)) (fun _ hk=>hk.2) (.slice aK ak.length aM)) (fun _ hk=>hk.2) (.int .i64 V)) (fun _ hk=>hk.2) (.slice a7 a6.length bc)) (fun _ hk=>trivial),oB z⟩
 ·rw[aj c3]at H;exact absurd H (by simp)
def im.f (l0:List (S64)):Option ((List (S64))):=(some (([]:List (S64)):List (S64))).bind fun u=>(if u.length+l0.length<4398046511104 then(some (u++l0))else(none))
theorem im.c (A0:Option Addr) (c0:Nat) (l0:List (S64)) (r:List (S64)) (w:World) (X:Kd.C aK w A0 l0.length l0) (hc0:l0.length≤c0) (h:im.f l0=some r):
  Calls Tryz.prog 54 #[.slice A0 l0.length c0] w fun e w'=>∃ad:Value,e= .returned (ad)∧Kd.R aK 64 w' w.heap.size (fun _=>True) ad r∧Below w.heap.size w w':=by
 have ag:=A_ X;have ar:=A_ hc0;clear X hc0;have u:=A_ (Below.refl w.heap.size w);have H:((some (([]:List (S64)):List (S64))).bind fun z=>(if z.length+l0.length<4398046511104 then(some (z++l0))else(none)))=some r:=h;clear h;obtain⟨z,G⟩:∃O:List (S64),O=(([]:List (S64))):=⟨_,rfl⟩;replace H:(if z.length+l0.length<4398046511104 then(some (z++l0))else(none))=some r:=by first|(rw[G];with_reducible exact H)|(have D:=(az _ _).symm.trans H;rw[G];with_reducible exact D)|(have D:=(az _ _).symm.trans H;with_reducible exact D)|with_reducible exact H|(rw[G];exact H)|exact H
 have V:=A_ G;clear G;by_cases c2:z.length+l0.length<4398046511104
 ·rw[ai c2]at H;have ak:=A_ c2;clear c2;obtain⟨aq,I⟩:∃O:List (S64),O=(z++l0):=⟨_,rfl⟩;replace H:(some aq)=some r:=by first|(rw[I];with_reducible exact H)|(have D:=(az _ _).symm.trans H;rw[I];with_reducible exact D)|(have D:=(az _ _).symm.trans H;with_reducible exact D)|with_reducible exact H|(rw[I];exact H)|exact H
  have al:=A_ I;clear I;obtain rfl:=aA H;go_enter Tryz.func54,Tryz.ntmps54
  go_wp2_with (first|((with_reducible refine aC (N:=3) rfl ?_);refine Kd.dR aK _ 64 ?hg (N:=3) ?hd (xs:=([]:List (S64))) (inner:=[]) (ok:=fun _=>True) (bD:=fun _=>True) ?hr ?hp (fun _ hk=>hk) trivial (Below.refl _ _) (Nat.le_refl _) (by simp) ?_;(case hd=>rfl);(case hg=>rfl);(case hr=>first|(go_simp;done)|(go_simp;rfl));(case hp=>exact(aI.none _ _));intro ap w3 F hb am ao;clear am ao;(first|rw[←V.out]at F|(simp only[Int.reduceToNat]at F;rw[←V.out]at F));have J:=A_ (Kd.cD F (aZ (oB u)));have K:=A_ (aV (oB u) hb);clear u;have U:=J;have u:=K;clear J K hb F)|((with_reducible refine fI (b:= .append) (xs:= #[.tmp 3,.tmp 4]) rfl ?_);at_builtin;refine Kd.nM aK (w0:=w) w.heap.size rfl (.tmp 3) (.tmp 4) 28 64 (.agg #[(.int .i64 0),(.int .i64 0),(.int .i64 0),(.int .i64 0)]) 32 rfl Tryz.underlying28 m_ rfl (by decide) (by omega) ap z l0 _ _ _ (fun _=>True) (fun _=>False) rfl rfl ?aO ?aR (fun _ _ h=>h) (fun _ h=>h.elim) ?aF ?aB ?aS ?aL ?_;(case aR=>exact bF ag.out);(case aB=>exact(oB u));(case aF=>exact(fun _ _=>trivial));(case aO=>exact(oR U));(case aS=>exact(aZ (oB u)));(case aL=>have:=ak.out;omega);intro au av ho hb hg hat;rw[←al.out]at ho;have J:=A_ (hb);have K:=A_ (ho);clear u U;have u:=J;have af:=K;clear J K ho hb hg hat))
  go_ret;exact⟨_,eR,oR af,oB u⟩
 ·rw[aj c2]at H;exact absurd H (by simp)
def fC.f (a0:Int):Option (Bool):=(cx.f a0 (-10) 40).bind fun u=>(some u)
theorem fC.c (a0:Int) (r:Bool) (w:World) (h:fC.f a0=some r):
  Calls Tryz.prog 57 #[.int .i64 a0] w fun e w'=>e= .returned (.bool r)∧bf w w':=by
 have H:((cx.f a0 (-10) 40).bind fun u=>(some u))=some r:=h;clear h;replace H:=ay H;obtain⟨u,z,H⟩:=H
 (try dsimp only at H)
 have A2:=A_ z;clear z;obtain rfl:=aA H;go_enter Tryz.func57,Tryz.ntmps57
 go_wp2_with (first|((with_reducible refine bp (f:=58) rfl ?_);refine gL (some 4) Tryz.func58 #[.int .i64 a0,.int .i64 (-10),.int .i64 40] ?_;(with_reducible refine(cx.c a0 (-10) 40 u _ A2.out).mono ?_);rintro e w' ⟨rfl,⟨nd,rfl⟩⟩;refine⟨_,rfl,?_⟩))
 go_ret;exact⟨eS,by repeat(first|exact bf.refl _|apply bf.step)⟩
def eC.j0:Nat→Int→Int→Int→Bool→Option (Int)
 |0,_,_,_,_=>none
 |k+1,x0,x1,x2,H=>if H=true then(some 0)else(if x1=1 then((dn.f (wrap64 (Int.tdiv (mx (wrap64 ((wrap64 (3*x0))-x2)) 0) 2))).bind fun u=>(if u=true then(some (wrap64 (Int.tdiv (mx (wrap64 ((wrap64 (3*x0))-x2)) 0) 2)))else(some 0)))else(if x1=2 then((dn.f (wrap64 (Int.tdiv (mx (wrap64 ((wrap64 (3*x0))-x2)) 0) 4))).bind fun z=>(if z=true then(some (wrap64 (Int.tdiv (mx (wrap64 ((wrap64 (3*x0))-x2)) 0) 4)))else(some 0)))else(if x1=3 then((dn.f (wrap64 (2*x0))).bind fun D=>(if D=true then(some (wrap64 (2*x0)))else(some 0)))else(if x1=4 then((dn.f (wrap64 (Int.tdiv x0 2))).bind fun F=>(if F=true then(some (wrap64 (Int.tdiv x0 2)))else(some 0)))else((dn.f 0).bind fun G=>(if G=true then(some 0)else(some 0)))))))
def eC.f (k:Nat) (a0:Int) (a1:Int) (a2:Int):Option (Int):=(dn.f a0).bind fun u=>(if u=true then((cx.f a2 0 100000).bind fun z=>(if z=true then(if a2=0 then(eC.j0 k a0 a1 a2 false)else(if a1=3 then(eC.j0 k a0 a1 a2 true)else(eC.j0 k a0 a1 a2 (a1==4))))else(eC.j0 k a0 a1 a2 true)))else(eC.j0 k a0 a1 a2 true))
theorem eC.c (k:Nat) (a0:Int) (a1:Int) (a2:Int) (r:Int) (w:World) (h:eC.f k a0 a1 a2=some r):
  Calls Tryz.prog 146 #[.int .i64 a0,.int .i64 a1,.int .i64 a2] w fun e w'=>e= .returned (.int .i64 r)∧Below w.heap.size w w':=by
 have u:=A_ (Below.refl w.heap.size w);have H:((dn.f a0).bind fun am=>(if am=true then((cx.f a2 0 100000).bind fun ao=>(if ao=true then(if a2=0 then(eC.j0 k a0 a1 a2 false)else(if a1=3 then(eC.j0 k a0 a1 a2 true)else(eC.j0 k a0 a1 a2 (a1==4))))else(eC.j0 k a0 a1 a2 true)))else(eC.j0 k a0 a1 a2 true)))=some r:=h;clear h;have ak:=A_ H;clear H;go_enter Tryz.func146,Tryz.ntmps146
 go_upto_region 1 with (fail)
 go_cut [27] (fun v27 wc=>∃(ad:Nat) (af:Bool),v27= .bool af∧ae (eC.j0 ad a0 a1 a2 af=some r)∧ae (ad≤k)∧ae (Below w.heap.size w wc))
 case first=>
  have H:=ak.out;clear ak;replace H:=ay H;obtain⟨am,aI,H⟩:=H
  (try dsimp only at H)
  have K:=A_ aI;clear aI;by_cases c6:am=true
  ·subst c6;rw[ai rfl]at H;replace H:=ay H;obtain⟨ao,aJ,H⟩:=H
   (try dsimp only at H)
   have O:=A_ aJ;clear aJ;by_cases c8:ao=true
   ·subst c8;rw[ai rfl]at H;by_cases c9:a2=0
    ·rw[ai c9]at H;have J:(a2==0)=true:=beq_iff_eq.mpr c9;have aM:(a2 != 0)=false:=bne_eq_false_iff_eq.mpr c9;clear c9
     (first|rw[J]|(simp only[bJ,cu];rw[J])|skip)
     have H':=A_ H;clear H
     go_wp2_with (first|((with_reducible refine bp (f:=98) rfl ?_);refine gL (some 9) Tryz.func98 #[.int .i64 a0] ?_;(with_reducible refine(dn.c a0 true _ K.out).mono ?_);rintro e w' ⟨rfl,⟨nd,rfl⟩⟩;refine⟨_,rfl,?_⟩)|(go_at_call 58;(with_reducible refine(cx.c a2 0 100000 true _ O.out).mono ?_);rintro e w' ⟨rfl,⟨nd,rfl⟩⟩))
     go_meet
     case rel=>exact⟨_,(false),eS,H',⟨by first|omega|exact Nat.le_refl _⟩,⟨oB u⟩⟩
    ·rw[aj c9]at H;have J:(a2==0)=false:=beq_eq_false_iff_ne.mpr c9;have aM:(a2 != 0)=true:=bne_iff_ne.mpr c9
     (first|rw[J]|(simp only[bJ,cu];rw[J])|skip)
     by_cases c10:a1=3
     ·rw[ai c10]at H;have aK:(a1==3)=true:=beq_iff_eq.mpr c10;have aL:(a1 != 3)=false:=bne_eq_false_iff_eq.mpr c10;clear c10;have H':=A_ H;clear H
      go_wp2_with (first|((with_reducible refine bp (f:=98) rfl ?_);refine gL (some 9) Tryz.func98 #[.int .i64 a0] ?_;(with_reducible refine(dn.c a0 true _ K.out).mono ?_);rintro e w' ⟨rfl,⟨nd,rfl⟩⟩;refine⟨_,rfl,?_⟩)|(go_at_call 58;(with_reducible refine(cx.c a2 0 100000 true _ O.out).mono ?_);rintro e w' ⟨rfl,⟨nd,rfl⟩⟩))
      go_meet
      case rel=>exact⟨_,(true),eS,H',⟨by first|omega|exact Nat.le_refl _⟩,⟨oB u⟩⟩
     ·rw[aj c10]at H;have aK:(a1==3)=false:=beq_eq_false_iff_ne.mpr c10;have aL:(a1 != 3)=true:=bne_iff_ne.mpr c10;have H':=A_ H;clear H
      go_wp2_with (first|((with_reducible refine bp (f:=98) rfl ?_);refine gL (some 9) Tryz.func98 #[.int .i64 a0] ?_;(with_reducible refine(dn.c a0 true _ K.out).mono ?_);rintro e w' ⟨rfl,⟨nd,rfl⟩⟩;refine⟨_,rfl,?_⟩)|(go_at_call 58;(with_reducible refine(cx.c a2 0 100000 true _ O.out).mono ?_);rintro e w' ⟨rfl,⟨nd,rfl⟩⟩))
      go_meet
      case rel=>exact⟨_,((a1==4)),eS,H',⟨by first|omega|exact Nat.le_refl _⟩,⟨oB u⟩⟩
   ·replace c8:=Bool.eq_false_iff.mpr c8;subst c8;rw[aj (show¬(false=true)by decide)]at H;have H':=A_ H;clear H
    go_wp2_with (first|((with_reducible refine bp (f:=98) rfl ?_);refine gL (some 9) Tryz.func98 #[.int .i64 a0] ?_;(with_reducible refine(dn.c a0 true _ K.out).mono ?_);rintro e w' ⟨rfl,⟨nd,rfl⟩⟩;refine⟨_,rfl,?_⟩)|(go_at_call 58;(with_reducible refine(cx.c a2 0 100000 false _ O.out).mono ?_);rintro e w' ⟨rfl,⟨nd,rfl⟩⟩))
    go_meet
    case rel=>exact⟨_,(true),eS,H',⟨by first|omega|exact Nat.le_refl _⟩,⟨oB u⟩⟩
  ·replace c6:=Bool.eq_false_iff.mpr c6;subst c6;rw[aj (show¬(false=true)by decide)]at H;have H':=A_ H;clear H
   go_wp2_with (first|((with_reducible refine bp (f:=98) rfl ?_);refine gL (some 9) Tryz.func98 #[.int .i64 a0] ?_;(with_reducible refine(dn.c a0 false _ K.out).mono ?_);rintro e w' ⟨rfl,⟨nd,rfl⟩⟩;refine⟨_,rfl,?_⟩))
   go_meet
   case rel=>exact⟨_,(true),eS,H',⟨by first|omega|exact Nat.le_refl _⟩,⟨oB u⟩⟩
 case rest=>
  clear ak
  try clear c1
  try clear p2
  try clear c6
  try clear c8
  try clear c9
  try clear J
  try clear aM
  try clear c10
  try clear aK
  try clear aL
  obtain⟨ad,af,rfl,ag,aZ,u⟩:=hcut;cases ad with
  |zero=>exact absurd ag.out (by simp[eC.j0])
  |succ a5=>
   have H:=ag.out;clear ag;simp only[eC.j0]at H;by_cases c11:af=true
   ·subst c11;rw[ai rfl]at H;obtain rfl:=aA H;go_wp2;go_ret;exact⟨eR,oB u⟩
   ·replace c11:=Bool.eq_false_iff.mpr c11;subst c11;rw[aj (show¬(false=true)by decide)]at H;by_cases c12:a1=1
    ·rw[ai c12]at H;have aN:(a1==1)=true:=beq_iff_eq.mpr c12;have aO:(a1 != 1)=false:=bne_eq_false_iff_eq.mpr c12;clear c12;obtain⟨G,D⟩:∃al:Int,(mx (wrap64 ((wrap64 (3*a0))-a2)) 0)=al:=⟨_,rfl⟩;replace H:((dn.f (wrap64 (Int.tdiv (G) 2))).bind fun ap=>(if ap=true then(some (wrap64 (Int.tdiv (G) 2)))else(some 0)))=some r:=by first|(rw[D]at H;exact H)|(simp only[D]at H ⊢;exact H)
     have a3:(if(wrap64 ((wrap64 (3*a0))-a2))<0 then 0 else(wrap64 ((wrap64 (3*a0))-a2)))=G:=D;replace H:=ay H;obtain⟨ap,au,H⟩:=H
     (try dsimp only at H)
     have ar:=A_ au;clear au;by_cases c15:ap=true
     ·subst c15;rw[ai rfl]at H;obtain rfl:=aA H
      go_wp2_with (first|((with_reducible refine bp (f:=98) rfl ?_);refine kP (some 54) rfl rfl Tryz.func98 (by kernel_rfl) rfl #[.int .i64 (wrap64 (Int.tdiv (G) 2))] rfl (by(try simp only[List.map_toArray,List.map_cons,List.map_nil]);first|done|(simp only[D];rfl)|rfl|(simp only[List.length_drop,List.length_take];rfl)) ?_;(with_reducible refine(dn.c (wrap64 (Int.tdiv (G) 2)) true _ ar.out).mono ?_);rintro e w' ⟨rfl,⟨nd,rfl⟩⟩;refine⟨_,rfl,?_⟩))
      go_ret;exact⟨by first|rfl|(simp[eh,ek]<;>rfl)|(simp only[←D];first|rfl|(simp[eh,ek]<;>rfl))|(simp[*,eh,ek]<;>rfl),oB u⟩
     ·replace c15:=Bool.eq_false_iff.mpr c15;subst c15;rw[aj (show¬(false=true)by decide)]at H;obtain rfl:=aA H
      go_wp2_with (first|((with_reducible refine bp (f:=98) rfl ?_);refine kP (some 54) rfl rfl Tryz.func98 (by kernel_rfl) rfl #[.int .i64 (wrap64 (Int.tdiv (G) 2))] rfl (by(try simp only[List.map_toArray,List.map_cons,List.map_nil]);first|done|(simp only[D];rfl)|rfl|(simp only[List.length_drop,List.length_take];rfl)) ?_;(with_reducible refine(dn.c (wrap64 (Int.tdiv (G) 2)) false _ ar.out).mono ?_);rintro e w' ⟨rfl,⟨nd,rfl⟩⟩;refine⟨_,rfl,?_⟩))
      go_ret;exact⟨by first|rfl|(simp[eh,ek]<;>rfl)|(simp only[←D];first|rfl|(simp[eh,ek]<;>rfl))|(simp[*,eh,ek]<;>rfl),oB u⟩
    ·rw[aj c12]at H;have aN:(a1==1)=false:=beq_eq_false_iff_ne.mpr c12;have aO:(a1 != 1)=true:=bne_iff_ne.mpr c12;by_cases c16:a1=2
     ·rw[ai c16]at H;have aP:(a1==2)=true:=beq_iff_eq.mpr c16;have aQ:(a1 != 2)=false:=bne_eq_false_iff_eq.mpr c16;clear c16;obtain⟨I,F⟩:∃al:Int,(mx (wrap64 ((wrap64 (3*a0))-a2)) 0)=al:=⟨_,rfl⟩;replace H:((dn.f (wrap64 (Int.tdiv (I) 4))).bind fun aq=>(if aq=true then(some (wrap64 (Int.tdiv (I) 4)))else(some 0)))=some r:=by first|(rw[F]at H;exact H)|(simp only[F]at H ⊢;exact H)
      have a4:(if(wrap64 ((wrap64 (3*a0))-a2))<0 then 0 else(wrap64 ((wrap64 (3*a0))-a2)))=I:=F;replace H:=ay H;obtain⟨aq,aB,H⟩:=H
      (try dsimp only at H)
      have av:=A_ aB;clear aB;by_cases c19:aq=true
      ·subst c19;rw[ai rfl]at H;obtain rfl:=aA H
       go_wp2_with (first|((with_reducible refine bp (f:=98) rfl ?_);refine kP (some 54) rfl rfl Tryz.func98 (by kernel_rfl) rfl #[.int .i64 (wrap64 (Int.tdiv (I) 4))] rfl (by(try simp only[List.map_toArray,List.map_cons,List.map_nil]);first|done|(simp only[F];rfl)|rfl|(simp only[List.length_drop,List.length_take];rfl)) ?_;(with_reducible refine(dn.c (wrap64 (Int.tdiv (I) 4)) true _ av.out).mono ?_);rintro e w' ⟨rfl,⟨nd,rfl⟩⟩;refine⟨_,rfl,?_⟩))
       go_ret;exact⟨by first|rfl|(simp[eh,ek]<;>rfl)|(simp only[←F];first|rfl|(simp[eh,ek]<;>rfl))|(simp[*,eh,ek]<;>rfl),oB u⟩
      ·replace c19:=Bool.eq_false_iff.mpr c19;subst c19;rw[aj (show¬(false=true)by decide)]at H;obtain rfl:=aA H
       go_wp2_with (first|((with_reducible refine bp (f:=98) rfl ?_);refine kP (some 54) rfl rfl Tryz.func98 (by kernel_rfl) rfl #[.int .i64 (wrap64 (Int.tdiv (I) 4))] rfl (by(try simp only[List.map_toArray,List.map_cons,List.map_nil]);first|done|(simp only[F];rfl)|rfl|(simp only[List.length_drop,List.length_take];rfl)) ?_;(with_reducible refine(dn.c (wrap64 (Int.tdiv (I) 4)) false _ av.out).mono ?_);rintro e w' ⟨rfl,⟨nd,rfl⟩⟩;refine⟨_,rfl,?_⟩))
       go_ret;exact⟨by first|rfl|(simp[eh,ek]<;>rfl)|(simp only[←F];first|rfl|(simp[eh,ek]<;>rfl))|(simp[*,eh,ek]<;>rfl),oB u⟩
     ·rw[aj c16]at H;have aP:(a1==2)=false:=beq_eq_false_iff_ne.mpr c16;have aQ:(a1 != 2)=true:=bne_iff_ne.mpr c16;by_cases c20:a1=3
      ·rw[ai c20]at H;have aR:(a1==3)=true:=beq_iff_eq.mpr c20;have aS:(a1 != 3)=false:=bne_eq_false_iff_eq.mpr c20;clear c20;replace H:=ay H;obtain⟨aV,aD,H⟩:=H
       (try dsimp only at H)
       have aC:=A_ aD;clear aD;by_cases U:aV=true
       ·subst U;rw[ai rfl]at H;obtain rfl:=aA H
        go_wp2_with (first|((with_reducible refine bp (f:=98) rfl ?_);refine gL (some 54) Tryz.func98 #[.int .i64 (wrap64 (2*a0))] ?_;(with_reducible refine(dn.c (wrap64 (2*a0)) true _ aC.out).mono ?_);rintro e w' ⟨rfl,⟨nd,rfl⟩⟩;refine⟨_,rfl,?_⟩))
        go_ret;exact⟨eR,oB u⟩
       ·replace U:=Bool.eq_false_iff.mpr U;subst U;rw[aj (show¬(false=true)by decide)]at H;obtain rfl:=aA H
        go_wp2_with (first|((with_reducible refine bp (f:=98) rfl ?_);refine gL (some 54) Tryz.func98 #[.int .i64 (wrap64 (2*a0))] ?_;(with_reducible refine(dn.c (wrap64 (2*a0)) false _ aC.out).mono ?_);rintro e w' ⟨rfl,⟨nd,rfl⟩⟩;refine⟨_,rfl,?_⟩))
        go_ret;exact⟨eR,oB u⟩
      ·rw[aj c20]at H;have aR:(a1==3)=false:=beq_eq_false_iff_ne.mpr c20;have aS:(a1 != 3)=true:=bne_iff_ne.mpr c20;by_cases z:a1=4
       ·rw[ai z]at H;have aT:(a1==4)=true:=beq_iff_eq.mpr z;have aU:(a1 != 4)=false:=bne_eq_false_iff_eq.mpr z;clear z;replace H:=ay H;obtain⟨aW,aF,H⟩:=H
        (try dsimp only at H)
        have aE:=A_ aF;clear aF;by_cases V:aW=true
        ·subst V;rw[ai rfl]at H;obtain rfl:=aA H
         go_wp2_with (first|((with_reducible refine bp (f:=98) rfl ?_);refine gL (some 54) Tryz.func98 #[.int .i64 (wrap64 (Int.tdiv a0 2))] ?_;(with_reducible refine(dn.c (wrap64 (Int.tdiv a0 2)) true _ aE.out).mono ?_);rintro e w' ⟨rfl,⟨nd,rfl⟩⟩;refine⟨_,rfl,?_⟩))
         go_ret;exact⟨eR,oB u⟩
        ·replace V:=Bool.eq_false_iff.mpr V;subst V;rw[aj (show¬(false=true)by decide)]at H;obtain rfl:=aA H
         go_wp2_with (first|((with_reducible refine bp (f:=98) rfl ?_);refine gL (some 54) Tryz.func98 #[.int .i64 (wrap64 (Int.tdiv a0 2))] ?_;(with_reducible refine(dn.c (wrap64 (Int.tdiv a0 2)) false _ aE.out).mono ?_);rintro e w' ⟨rfl,⟨nd,rfl⟩⟩;refine⟨_,rfl,?_⟩))
         go_ret;exact⟨eR,oB u⟩
       ·rw[aj z]at H;have aT:(a1==4)=false:=beq_eq_false_iff_ne.mpr z;have aU:(a1 != 4)=true:=bne_iff_ne.mpr z;replace H:=ay H;obtain⟨aY,aH,H⟩:=H
        (try dsimp only at H)
        have aG:=A_ aH;clear aH;by_cases X:aY=true
        ·subst X;rw[ai rfl]at H;obtain rfl:=aA H
         go_wp2_with (first|((with_reducible refine bp (f:=98) rfl ?_);refine gL (some 54) Tryz.func98 #[.int .i64 0] ?_;(with_reducible refine(dn.c 0 true _ aG.out).mono ?_);rintro e w' ⟨rfl,⟨nd,rfl⟩⟩;refine⟨_,rfl,?_⟩))
         go_ret;exact⟨eR,oB u⟩
        ·replace X:=Bool.eq_false_iff.mpr X;subst X;rw[aj (show¬(false=true)by decide)]at H;obtain rfl:=aA H
         go_wp2_with (first|((with_reducible refine bp (f:=98) rfl ?_);refine gL (some 54) Tryz.func98 #[.int .i64 0] ?_;(with_reducible refine(dn.c 0 false _ aG.out).mono ?_);rintro e w' ⟨rfl,⟨nd,rfl⟩⟩;refine⟨_,rfl,?_⟩))
         go_ret;exact⟨eR,oB u⟩
def fD.f (k:Nat) (u:List (ag)) (F:Int) (z:List Int) (a1:Int):Option (Int):=if 0≤a1 then(if a1<(u.length:Int)then(if 0≤((ar u a1).f0)then(if((ar u a1).f0)<(z.length:Int)then((eC.f k (rd z ((ar u a1).f0)) ((ar u a1).f2) ((ar u a1).f3)).bind fun D=>(some D))else(none))else(none))else(none))else(none)
def fD.T2:Bool×List (List Nat×List Nat):=(true,[([],[]),([0],[0]),([],[]),([2],[2]),([1,3],[1,3]),([4],[4]),([],[]),([6],[6]),([],[]),([8],[8]),([5,7,9],[5,7,9]),([10,10,0,1,2,3,4,5,6,7,8,9,10],[10])])
def fD.B2:List Nat:=[0,1,0,4,15,31,0,64,0,256,1023,2047]
theorem fD.rV:aW .any (opsOf Tryz.f131 2)=fD.T2:=by kernel_rfl
theorem fD.qW:bL fD.T2.2 fD.B2=true:=by kernel_rfl
theorem fD.c (k:Nat) (aB:Option Addr) (al:Nat) (u:List (ag)) (ak:Int) (aq:Option Addr) (am:Nat) (I:List Int) (a1:Int) (r:Int) (w:World) (aP:Kd.C aN w aB u.length u) (aM:u.length≤al) (aQ:Kd.C (Kd.int .i64) w aq I.length I) (aO:I.length≤am) (h:fD.f k u ak I a1=some r):
  Calls Tryz.prog 131 #[.agg #[.slice aB u.length al,.int .i64 ak,.slice aq I.length am],.int .i64 a1] w fun e w'=>e= .returned (.int .i64 r)∧Below w.heap.size w w':=by
 have bK:=Tryz.underlying27;have bI:=Tryz.underlying110;have a4:=A_ aP;have bg:=A_ aM;clear aP aM;have a5:=A_ aQ;have bj:=A_ aO;clear aQ aO;have z:=A_ (Below.refl w.heap.size w);have H:(if 0≤a1 then(if a1<(u.length:Int)then(if 0≤((ar u a1).f0)then(if((ar u a1).f0)<(I.length:Int)then((eC.f k (rd I ((ar u a1).f0)) ((ar u a1).f2) ((ar u a1).f3)).bind fun aI=>(some aI))else(none))else(none))else(none))else(none))=some r:=h;clear h;by_cases c3:0≤a1
 ·rw[ai c3]at H;have bk:decide (0≤a1)=true:=ah c3;clear c3;by_cases c4:a1<(u.length:Int)
  ·rw[ai c4]at H;have bm:decide (a1<(u.length:Int))=true:=ah c4;clear c4;by_cases c5:0≤((ar u a1).f0)
   ·rw[ai c5]at H;have bo:decide (0≤((ar u a1).f0))=true:=ah c5;clear c5;by_cases c6:((ar u a1).f0)<(I.length:Int)
    ·rw[ai c6]at H;have bp:decide (((ar u a1).f0)<(I.length:Int))=true:=ah c6;clear c6;replace H:=ay H;obtain⟨aI,aJ,H⟩:=H
     (try dsimp only at H)
     have a3:=A_ aJ;clear aJ;obtain rfl:=aA H;go_enter Tryz.func131,Tryz.ntmps131
     try go_wp2_with (first|((with_reducible refine aC (N:=2) rfl ?_);refine bX (N:=2) (cs:= #[.slice aB u.length al,.int .i64 ak,.slice aq I.length am]) (t:=27) ?_;intro X hg bO ao hb;have J:=A_ (aV (oB z) hb);have O:=A_ (ao);have U:=A_ ((by rw[hg];exact(aZ (oB z)):w.heap.size≤X));have ap:=A_ ((by rw[hg];exact(aZ (oB z)):w.heap.size≤X));clear z;have z:=J;have D:=O;have be:=U;have bc:=ap;clear J O U ap hb ao hg;have bv:=cz D 0;have bw:=cz D 1;have bx:=cz D 2;have bD:=aD D.out 0;have bE:=aD D.out 1;have bF:=aD D.out 2;have aE:0≤(a1:Int):=oD;have aG:a1<(u.length:Int):=oD;obtain⟨aK,a7,aS,aT,aU,aW⟩:=eN a4.out a1 aE aG;cases a7;replace aS:=hW z aS;replace aT:=hW z aT;replace aU:=hW z aU;replace aW:=hW z aW;replace aE:=aw aE;replace aG:=aw aG)|((with_reducible refine aC (N:=5) rfl ?_);refine bX (N:=5) (cs:= #[.int .i64 0,.int .i64 0,.int .i64 0,.int .i64 0]) (t:=110) ?_;intro G hg av ao hb;have J:=A_ (bb D hb);have O:=A_ (aV (oB z) hb);have U:=A_ (ao);have ap:=A_ ((by rw[hg];exact(aZ (oB z)):w.heap.size≤G));have aY:=A_ ((by rw[hg];exact(aZ (oB z)):w.heap.size≤G));have a0:=A_ (nL D hg);have a2:=A_ (nG D hg);clear D z;have D:=J;have z:=O;have F:=U;have bf:=ap;have bd:=aY;have af:=a0;have a6:=a2;clear J O U ap aY a0 a2 hb ao hg;have bG:=a6.out;have bH:=af.out;have bq:=cz F 0;have br:=cz F 1;have bs:=cz F 2;have bu:=cz F 3;have bz:=aD F.out 0;have bA:=aD F.out 1;have bB:=aD F.out 2;have bC:=aD F.out 3))
     have J:ae (((((av.setCell ⟨G,0,none⟩ (.int .i64 ((ar u a1).f0))).setCell ⟨G,1,none⟩ (.int .i64 ((ar u a1).f1))).setCell ⟨G,2,none⟩ (.int .i64 ((ar u a1).f2))).setCell ⟨G,3,none⟩ (.int .i64 ((ar u a1).f3))).heap[X]? =some (.cells #[.slice (some aK) u.length al,.int .i64 ak,.slice aq I.length am] 27 (0,0))):=⟨by(with_reducible repeat(first|refine bt ?_ _|refine bn ?_|refine bl ?_ _));refine eO ?_ af.out _;(with_reducible repeat(first|refine bt ?_ _|refine bn ?_|refine bl ?_ _));refine eO ?_ af.out _;(with_reducible repeat(first|refine bt ?_ _|refine bn ?_|refine bl ?_ _));refine eO ?_ af.out _;(with_reducible repeat(first|refine bt ?_ _|refine bn ?_|refine bl ?_ _));refine eO ?_ af.out _;(with_reducible repeat(first|refine bt ?_ _|refine bn ?_|refine bl ?_ _));exact D.out⟩;have O:ae (((((av.setCell ⟨G,0,none⟩ (.int .i64 ((ar u a1).f0))).setCell ⟨G,1,none⟩ (.int .i64 ((ar u a1).f1))).setCell ⟨G,2,none⟩ (.int .i64 ((ar u a1).f2))).setCell ⟨G,3,none⟩ (.int .i64 ((ar u a1).f3))).heap[G]? =some (.cells #[.int .i64 ((ar u a1).f0),.int .i64 ((ar u a1).f1),.int .i64 ((ar u a1).f2),.int .i64 ((ar u a1).f3)] 110 (0,0))):=⟨by(with_reducible repeat(first|refine bt ?_ _|refine bn ?_|refine bl ?_ _));refine cE (cs:= #[.int .i64 ((ar u a1).f0),.int .i64 ((ar u a1).f1),.int .i64 ((ar u a1).f2),.int .i64 0]) ?_ 3 _ rfl;(with_reducible repeat(first|refine bt ?_ _|refine bn ?_|refine bl ?_ _));refine cE (cs:= #[.int .i64 ((ar u a1).f0),.int .i64 ((ar u a1).f1),.int .i64 0,.int .i64 0]) ?_ 2 _ rfl;(with_reducible repeat(first|refine bt ?_ _|refine bn ?_|refine bl ?_ _));refine cE (cs:= #[.int .i64 ((ar u a1).f0),.int .i64 0,.int .i64 0,.int .i64 0]) ?_ 1 _ rfl;(with_reducible repeat(first|refine bt ?_ _|refine bn ?_|refine bl ?_ _));refine cE (cs:= #[.int .i64 0,.int .i64 0,.int .i64 0,.int .i64 0]) ?_ 0 _ rfl;(with_reducible repeat(first|refine bt ?_ _|refine bn ?_|refine bl ?_ _));exact F.out⟩;have U:ae (Below w.heap.size w ((((av.setCell ⟨G,0,none⟩ (.int .i64 ((ar u a1).f0))).setCell ⟨G,1,none⟩ (.int .i64 ((ar u a1).f1))).setCell ⟨G,2,none⟩ (.int .i64 ((ar u a1).f2))).setCell ⟨G,3,none⟩ (.int .i64 ((ar u a1).f3)))):=⟨oB z⟩
     (try clear D)
     (try clear F)
     (try clear z)
     generalize ((((av.setCell ⟨G,0,none⟩ (.int .i64 ((ar u a1).f0))).setCell ⟨G,1,none⟩ (.int .i64 ((ar u a1).f1))).setCell ⟨G,2,none⟩ (.int .i64 ((ar u a1).f2))).setCell ⟨G,3,none⟩ (.int .i64 ((ar u a1).f3)))=a_ at J O U ⊢;have D:=J;have F:=O;have z:=U;clear J O U;have J:=A_ (bn D.out);have O:=A_ (bn F.out);have U:=A_ (cv z.out);clear D F z;have D:=J;have F:=O;have z:=U;clear J O U;have aF:0≤(((ar u a1).f0):Int):=oD;have aH:((ar u a1).f0)<(I.length:Int):=oD;obtain⟨aL,a9,au⟩:=Kd.dY a5.out ((ar u a1).f0) aF aH;have aR:=au;cases a9;replace au:=hW z au;replace aF:=aw aF;replace aH:=aw aH;refine fX (n:=12) (S:=fun w'=>w'.cell? ⟨X,0,none⟩=some (.slice (some aK) u.length al)∧w'.cell? ⟨X,1,none⟩=some (.int .i64 ak)∧w'.cell? ⟨X,2,none⟩=some (.slice (some aL) I.length am)∧w'.cell? ⟨G,0,none⟩=some (.int .i64 ((ar u a1).f0))∧w'.cell? ⟨G,1,none⟩=some (.int .i64 ((ar u a1).f1))∧w'.cell? ⟨G,2,none⟩=some (.int .i64 ((ar u a1).f2))∧w'.cell? ⟨G,3,none⟩=some (.int .i64 ((ar u a1).f3))∧w'.cell? (aL.add (((ar u a1).f0)).toNat)=some (.int .i64 (rd I ((ar u a1).f0)))) (ds:=[]) #[false,false,false,false,false,false,false,false,false,false,false,false] (by kernel_rfl) rfl rfl ⟨cz D 0,cz D 1,cz D 2,cz F 0,cz F 1,cz F 2,cz F 3,(hW z aR)⟩ (fun hHeld=> ?_);refine gQ fD.rV fD.qW (fun V ad=> ?_);generalize a_.drew=bL at D F z au hHeld ⊢;refine pA 0 (some 11) V.out ?_;refine pA 2 (some 13) V.out ?_;refine pA 6 (some 17) V.out ?_;refine pA 8 (some 19) V.out ?_;refine pT 1 (some 12) V.out ad.out hHeld ?_;refine pT 3 (some 14) V.out ad.out hHeld ?_;refine pA 4 (some 15) V.out ?_;refine pT 5 (some 16) V.out ad.out hHeld ?_;refine pT 7 (some 18) V.out ad.out hHeld ?_;refine pT 9 (some 20) V.out ad.out hHeld ?_;refine dN (i:=10) (N:=some 21) #[true,true,true,true,true,true,true,true,true,true,true,false] rfl rfl (dF V.out (by kernel_rfl)) (by decide) (fun K hK=> ?_);refine cG Tryz.func146 (by kernel_rfl) rfl #[.int .i64 (rd I ((ar u a1).f0)),.int .i64 ((ar u a1).f2),.int .i64 ((ar u a1).f3)] (by rfl) rfl rfl (by(try simp only[List.map_toArray,List.map_cons,List.map_nil]);first|done|rfl|(simp only[List.length_drop,List.length_take];rfl)) ?_
     with_reducible refine(eC.c k (rd I ((ar u a1).f0)) ((ar u a1).f2) ((ar u a1).f3) aI _ a3.out).mono ?_
     rintro e bN ⟨rfl,hb⟩;refine⟨_,rfl,?_⟩;have J:=A_ (bb D hb);have O:=A_ (bb F hb);have U:=A_ (aV (oB z) hb);clear D F z;have D:=J;have F:=O;have z:=U;clear J O U
     (try clear hb)
     (try clear hb2)
     (try clear hk)
     (try clear hi)
     refine hK.out _ _ ⟨cz D 0,cz D 1,cz D 2,cz F 0,cz F 1,cz F 2,cz F 3,(hW z aR)⟩ (fun hHeld=> ?_);clear hK K;refine dS (a':= ?_) ?_ ?_;rotate_left
     ·show Act.put _ (some 21) _=_;simp only[Act.put,List.setIfInBounds_toArray,List.set_cons_zero,List.set_cons_succ,bJ,cu];rfl
     refine pA 11 (some 4) V.out ?_;refine fH (gb V.out (by kernel_rfl)) ?_
     try go_wp2
     go_ret;exact⟨eR,oB z⟩
    ·rw[aj c6]at H;exact absurd H (by simp)
   ·rw[aj c5]at H;exact absurd H (by simp)
  ·rw[aj c4]at H;exact absurd H (by simp)
 ·rw[aj c3]at H;exact absurd H (by simp)
def iq.f (a0:Bool):Option (Int):=if a0=true then(some 1)else(some 0)
theorem iq.c (a0:Bool) (r:Int) (w:World) (h:iq.f a0=some r):
  Calls Tryz.prog 61 #[.bool a0] w fun e w'=>e= .returned (.int .i64 r)∧bf w w':=by
 have H:(if a0=true then(some 1)else(some 0))=some r:=h;clear h;by_cases c2:a0=true
 ·subst c2;rw[ai rfl]at H;obtain rfl:=aA H;go_enter Tryz.func61,Tryz.ntmps61;go_wp2;go_ret;exact⟨eS,by repeat(first|exact bf.refl _|apply bf.step)⟩
 ·replace c2:=Bool.eq_false_iff.mpr c2;subst c2;rw[aj (show¬(false=true)by decide)]at H;obtain rfl:=aA H;go_enter Tryz.func61,Tryz.ntmps61;go_wp2;go_ret;exact⟨eS,by repeat(first|exact bf.refl _|apply bf.step)⟩
end P

end Go.Proofs.YtnjfiaekdcekgaaGreatDoor
