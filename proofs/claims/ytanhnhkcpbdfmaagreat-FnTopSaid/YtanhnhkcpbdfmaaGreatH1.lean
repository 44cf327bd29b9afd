/- What functions of the program come to (f), that their calls come to just this (calls), and the plain laws over lists and numbers. No condition but those of the given row. -/
import Derived.Test.YtanhnhkcpbdfmaaGreatH0
import Derived.Shelf.SlSortFuncK.WholeK
import Derived.Shelf.GgSortFunc.Tiny
import Derived.Shelf.GgSortFunc.Lays
import Derived.Test.YtanhnhkcpbdfmaaGreatProg
import Derived.Deep.Slices
import Derived.ChangeArms
import Derived.ChangeSame
import Derived.Below
import Derived.Deep.Draws
import Derived.Deep.AppendLies
import Derived.Maps.AppendAt
import Derived.OwnWalk
import Derived.Laws.BytesArg
import Derived.Laws.MakeOwn
import Derived.Laws.OwnMore
import Derived.Deep.OwnRows
import Derived.Tactics
import Derived.Lib.ConvBytes
import Derived.Laws.Slices
import Derived.WalkKit
import Derived.KernelRfl
import Derived.RowKit3
import Derived.Deep.LoopGhost
import Derived.Deep.QuietTactic
import Derived.BigQuiet
import Derived.WideLaws
import Derived.Deep.DeepCutAuto
import Derived.Deep.CutBlock
import Derived.Deep.RegionHeld3
import Derived.Laws.Rows
import Derived.Lib.AppendStr
import Derived.ArgAppend
import Derived.Laws.IdiomCopy
import Derived.OrdersHeld
import Derived.Laws.BitsLemmas
import Derived.RowKit
set_option linter.unusedVariables false
set_option linter.unusedSimpArgs false
namespace Go.Proofs.YtanhnhkcpbdfmaaGreat
namespace Q
open Go.RowKit WW.bk
theorem ar {α:Type} {c:Prop} [Decidable c] (h:c) {f g:Nat→Option α} {r:α} (k:Ev f r):Ev (fun n=>if c then f n else g n) r:=by
  simp only[aq h];exact k
theorem aI {α:Type} {c:Prop} [Decidable c] (h:¬c) {f g:Nat→Option α} {r:α} (k:Ev g r):Ev (fun n=>if c then f n else g n) r:=by
  simp only[au h];exact k
theorem n7 {α:Type} {c:Prop} [Decidable c] {f g:Nat→Option α} {r:α} (k1:c→Ev f r) (k2:¬c→Ev g r):Ev (fun n=>if c then f n else g n) r:=by
  by_cases h:c
  · exact ar h (k1 h)
  · exact aI h (k2 h)
theorem aX {α β:Type} {x:Option α} {f:Nat→α→Option β} {a:α} {r:β} (h:x=some a) (k:Ev (fun n=>f n a) r):Ev (fun n=>x.bind (f n)) r:=by
  simp only[h,aA];exact k
theorem evs {α:Type} {a b:α} (h:a=b):Ev (fun _=>some a) b:=h▸Ev.now a
theorem bK {α:Type} {c:Prop} [Decidable c] (h:c) {f:Nat→Option α} {r s:α} (k:Ev f r):Ev f (if c then r else s):=by rw[aq h];exact k
theorem br {α:Type} {c:Prop} [Decidable c] (h:¬c) {f:Nat→Option α} {r s:α} (k:Ev f s):Ev f (if c then r else s):=by rw[au h];exact k
theorem nW {c:Prop} [Decidable c] (h:c):decide c=true:=ag h
theorem nR {c:Prop} [Decidable c] (h:¬c):¬decide c=true:=by simpa using h
theorem down {P:Nat→Prop} {n:Nat} (he:P n) (hs:∀i,i<n→P (i+1)→P i) (i:Nat) (h:i≤n):P i:=by
  obtain⟨d,rfl⟩:∃d,n=i+d:=⟨n-i,by omega⟩;clear h
  induction d generalizing i with
  |zero=>exact he
  |succ d ih=>
   refine hs i (by omega) (ih (i+1) ?_ ?_)
   · rw[show i+1+d=i+(d+1)by omega];exact he
   · intro j hj;exact hs j (by omega)
theorem bW {n:Int} (h1: -9223372036854775808≤n) (h2:n≤9223372036854775807):wrap64 n=n:=by unfold wrap64;omega
theorem bY {n:Int} (h:(Lit.int .i64 n).wf=true): -9223372036854775808≤n∧n≤9223372036854775807:=by
  simp[Lit.wf,IntKind.min,IntKind.max,IntKind.signed,IntKind.bits]at h;omega
theorem sM (l:List Int) (i:Nat) (h:i<l.length):rd l (i:Int)=l[i]:=by
  unfold rd;simp[List.getD_eq_getElem?_getD,h]
theorem drop_cons {α:Type} (l:List α) (i:Nat) (h:i<l.length):l.drop i=l[i]::l.drop (i+1):=List.drop_eq_getElem_cons h
theorem kd {α:Type} (l:List α):l.drop l.length=[]:=List.drop_eq_nil_of_le (Nat.le_refl _)
end Q
namespace P
open Go.RowKit Go.Sort WW.bk
structure Plain {α:Type} (d:Kd α) (enc:α→List Value):Prop where
  len:∀x,(enc x).length=d.sz
  pos:0<d.sz
  of:∀{w base ok x cs},d.M w base ok x cs→cs=enc x
  make:∀w base ok x,d.M w base ok x (enc x)
theorem pN (w:World) (g j:Nat) (f:Array Value→Array Value):(mapBlock w g f).heap[j]? =if g=j then w.heap[j]?.map (onCells f)else w.heap[j]? :=by
  unfold mapBlock;simp only[Array.getElem?_modify]
section
variable {α:Type} [Inhabited α] {d:Kd α} {e base g cap:Nat} {W:World} {ok:Nat→Prop} {xs:List α} {enc:α→List Value}
theorem ra {inner:List Value} {k i c:Nat} (hc:c<k):((inner.drop (i*k)).take k)[c]? =inner[i*k+c]? :=by
  rw[List.getElem?_take_of_lt hc,List.getElem?_drop]
theorem wj (hp:Plain d enc) (h:d.R e W base ok (.slice (some ⟨g,0,none⟩) xs.length cap) xs):HoldsK enc d.sz W g 0 xs.toArray:=by
  obtain⟨_,inner,ho,hr⟩:=h;rcases ho.2 with ⟨hn,_⟩|⟨g',cap',cur,hv,hg,hh,hle,hmx,hcs,u⟩
  · simp at hn
  obtain⟨rfl,rfl⟩:g=g'∧cap=cap':=by simp at hv;exact hv
  intro j hj;have hj':j<xs.length*d.sz:=by simpa using hj
  have hk:=hp.pos;have hi:j/d.sz<xs.length:=by rw[Nat.div_lt_iff_lt_mul hk];exact hj'
  have hc:j%d.sz<d.sz:=Nat.mod_lt _ hk;have hjj:j/d.sz*d.sz+j%d.sz=j:=by rw[Nat.mul_comm];exact Nat.div_add_mod j d.sz
  have e1:=hp.of (hr.2 (j/d.sz) xs[j/d.sz] (List.getElem?_eq_getElem hi));have e2:inner[j]? =(enc xs[j/d.sz])[j%d.sz]? :=by rw[←e1,ra hc,hjj]
  have e3:cur[j]? =inner[j]? :=by
    rw[←u,List.getElem?_take_of_lt hj'];simp
  rw[get_flatK _ _ _ _ (by simpa using hj'),Nat.zero_add];refine⟨?_,aK hh j⟩;rw[cA hh j,e3,e2];have hl:j%d.sz<(enc xs[j/d.sz]).length:=by rw[hp.len];exact hc
  simp[hi,hl]
end
theorem yH {α:Type} [Inhabited α] {lt:α→α→Bool} {D D':Array α} (hp:PermIn 0 D.size D D') (hs:SortedIn lt 0 D.size D') (tot:∀a∈D.toList,∀b∈D.toList,a≠b→lt a b=true∨lt b a=true) (nd:D.toList.Nodup):
    D'.toList.Perm D.toList∧D'.toList.Pairwise (fun a b=>lt a b=true):=by
  have hsz:=hp.1
  have u:D'.toList.Perm D.toList:=by
    have:=hp.2.2;rw[Array.extract_eq_self_of_le (by omega),Array.extract_eq_self_of_le (by omega)]at this;exact this
  refine⟨u,?_⟩;have z:D'.toList.Nodup:=u.nodup_iff.mpr nd;rw[List.pairwise_iff_getElem];intro i j hi hj hij;have hi':i<D'.size:=by simpa using hi
  have hj':j<D'.size:=by simpa using hj
  have h1:=hs i j (Nat.zero_le _) hij (by omega);simp only[getElem!_pos D' i hi',getElem!_pos D' j hj']at h1
  have hne:D'.toList[i]≠D'.toList[j]:=by
    intro he;have:=(List.pairwise_iff_getElem.1 z) i j hi hj hij;exact this he
  rcases tot D'.toList[i] (u.mem_iff.1 (List.getElem_mem hi)) D'.toList[j] (u.mem_iff.1 (List.getElem_mem hj)) hne with h|h
  · exact h
  · simp only[Array.getElem_toList]at h;rw[h]at h1;cases h1
end P
namespace P
open Go.Shelf
def oG:Go.Shelf.Ren:=⟨fun|6=>141|10=>145|11=>146|12=>147|13=>148|14=>149|24=>160|25=>161|26=>162|27=>163|28=>164|29=>165|30=>166|31=>167|32=>168|33=>169|34=>170|35=>171|36=>172|37=>173|38=>174|39=>175|n=>n,fun|20=>20|26=>150|35=>154|0=>0|37=>156|3=>3|41=>147|44=>162|49=>167|51=>169|4=>4|54=>172|53=>171|58=>176|5=>5|9=>9|60=>178|64=>182|66=>184|67=>185|17=>17|32=>151|33=>152|82=>200|12=>12|75=>193|76=>194|77=>195|78=>196|79=>197|80=>198|n=>n,fun|n=>n⟩
theorem oF:Go.Proofs.LaysGg.n6 Tryz.prog oG:={
  mixed:=by kernel_rfl
  f6:=Tryz.func141.trans (congrArg some (by kernel_rfl))
  f10:=Tryz.func145.trans (congrArg some (by kernel_rfl))
  f11:=Tryz.func146.trans (congrArg some (by kernel_rfl))
  f12:=Tryz.func147.trans (congrArg some (by kernel_rfl))
  f13:=Tryz.func148.trans (congrArg some (by kernel_rfl))
  f14:=Tryz.func149.trans (congrArg some (by kernel_rfl))
  f24:=Tryz.func160.trans (congrArg some (by kernel_rfl))
  f25:=Tryz.func161.trans (congrArg some (by kernel_rfl))
  f26:=Tryz.func162.trans (congrArg some (by kernel_rfl))
  f27:=Tryz.func163.trans (congrArg some (by kernel_rfl))
  f28:=Tryz.func164.trans (congrArg some (by kernel_rfl))
  f29:=Tryz.func165.trans (congrArg some (by kernel_rfl))
  f30:=Tryz.func166.trans (congrArg some (by kernel_rfl))
  f31:=Tryz.func167.trans (congrArg some (by kernel_rfl))
  f32:=Tryz.func168.trans (congrArg some (by kernel_rfl))
  f33:=Tryz.func169.trans (congrArg some (by kernel_rfl))
  f34:=Tryz.func170.trans (congrArg some (by kernel_rfl))
  f35:=Tryz.func171.trans (congrArg some (by kernel_rfl))
  f36:=Tryz.func172.trans (congrArg some (by kernel_rfl))
  f37:=Tryz.func173.trans (congrArg some (by kernel_rfl))
  f38:=Tryz.func174.trans (congrArg some (by kernel_rfl))
  f39:=Tryz.func175.trans (congrArg some (by kernel_rfl))
  t0:=Tryz.underlying0
  a0:=Tryz.isAgg0
  z0:=Tryz.sizeOf0
  v0:=Tryz.zeroValue0
  i0:=by kernel_rfl
  t3:=Tryz.underlying3
  a3:=Tryz.isAgg3
  z3:=Tryz.sizeOf3
  v3:=Tryz.zeroValue3
  i3:=by kernel_rfl
  t4:=Tryz.underlying4
  a4:=Tryz.isAgg4
  z4:=Tryz.sizeOf4
  v4:=Tryz.zeroValue4
  i4:=by kernel_rfl
  t5:=Tryz.underlying5
  a5:=Tryz.isAgg5
  z5:=Tryz.sizeOf5
  v5:=Tryz.zeroValue5
  i5:=by kernel_rfl
  t9:=Tryz.underlying9
  a9:=Tryz.isAgg9
  z9:=Tryz.sizeOf9
  v9:=Tryz.zeroValue9
  i9:=by kernel_rfl
  t12:=Tryz.underlying12
  a12:=Tryz.isAgg12
  z12:=Tryz.sizeOf12
  v12:=Tryz.zeroValue12
  i12:=by kernel_rfl
  t17:=Tryz.underlying17
  a17:=Tryz.isAgg17
  z17:=Tryz.sizeOf17
  v17:=Tryz.zeroValue17
  i17:=by kernel_rfl
  t20:=Tryz.underlying20
  a20:=Tryz.isAgg20
  z20:=Tryz.sizeOf20
  v20:=Tryz.zeroValue20
  i20:=by kernel_rfl
  t26:=Tryz.underlying150
  a26:=Tryz.isAgg150
  z26:=Tryz.sizeOf150
  v26:=Tryz.zeroValue150
  i26:=by kernel_rfl
  t32:=Tryz.underlying151
  a32:=Tryz.isAgg151
  z32:=Tryz.sizeOf151
  v32:=Tryz.zeroValue151
  i32:=by kernel_rfl
  t33:=Tryz.underlying152
  a33:=Tryz.isAgg152
  z33:=Tryz.sizeOf152
  v33:=Tryz.zeroValue152
  i33:=by kernel_rfl
  t35:=Tryz.underlying154
  a35:=Tryz.isAgg154
  z35:=Tryz.sizeOf154
  v35:=Tryz.zeroValue154
  i35:=by kernel_rfl
  t37:=Tryz.underlying156
  a37:=Tryz.isAgg156
  z37:=Tryz.sizeOf156
  v37:=Tryz.zeroValue156
  i37:=by kernel_rfl
  t41:=Tryz.underlying147
  a41:=Tryz.isAgg147
  z41:=Tryz.sizeOf147
  v41:=Tryz.zeroValue147
  i41:=by kernel_rfl
  t44:=Tryz.underlying162
  a44:=Tryz.isAgg162
  z44:=Tryz.sizeOf162
  v44:=Tryz.zeroValue162
  i44:=by kernel_rfl
  t49:=Tryz.underlying167
  a49:=Tryz.isAgg167
  z49:=Tryz.sizeOf167
  v49:=Tryz.zeroValue167
  i49:=by kernel_rfl
  t51:=Tryz.underlying169
  a51:=Tryz.isAgg169
  z51:=Tryz.sizeOf169
  v51:=Tryz.zeroValue169
  i51:=by kernel_rfl
  t53:=Tryz.underlying171
  a53:=Tryz.isAgg171
  z53:=Tryz.sizeOf171
  v53:=Tryz.zeroValue171
  i53:=by kernel_rfl
  t54:=Tryz.underlying172
  a54:=Tryz.isAgg172
  z54:=Tryz.sizeOf172
  v54:=Tryz.zeroValue172
  i54:=by kernel_rfl
  t58:=Tryz.underlying176
  a58:=Tryz.isAgg176
  z58:=Tryz.sizeOf176
  v58:=Tryz.zeroValue176
  i58:=by kernel_rfl
  t60:=Tryz.underlying178
  a60:=Tryz.isAgg178
  z60:=Tryz.sizeOf178
  v60:=Tryz.zeroValue178
  i60:=by kernel_rfl
  t64:=Tryz.underlying182
  a64:=Tryz.isAgg182
  z64:=Tryz.sizeOf182
  v64:=Tryz.zeroValue182
  i64:=by kernel_rfl
  t66:=Tryz.underlying184
  a66:=Tryz.isAgg184
  z66:=Tryz.sizeOf184
  v66:=Tryz.zeroValue184
  i66:=by kernel_rfl
  t67:=Tryz.underlying185
  a67:=Tryz.isAgg185
  z67:=Tryz.sizeOf185
  v67:=Tryz.zeroValue185
  i67:=by kernel_rfl
  t75:=Tryz.underlying193
  a75:=Tryz.isAgg193
  z75:=Tryz.sizeOf193
  v75:=Tryz.zeroValue193
  i75:=by kernel_rfl
  t76:=Tryz.underlying194
  a76:=Tryz.isAgg194
  z76:=Tryz.sizeOf194
  v76:=Tryz.zeroValue194
  i76:=by kernel_rfl
  t77:=Tryz.underlying195
  a77:=Tryz.isAgg195
  z77:=Tryz.sizeOf195
  v77:=Tryz.zeroValue195
  i77:=by kernel_rfl
  t78:=Tryz.underlying196
  a78:=Tryz.isAgg196
  z78:=Tryz.sizeOf196
  v78:=Tryz.zeroValue196
  i78:=by kernel_rfl
  t79:=Tryz.underlying197
  a79:=Tryz.isAgg197
  z79:=Tryz.sizeOf197
  v79:=Tryz.zeroValue197
  i79:=by kernel_rfl
  t80:=Tryz.underlying198
  a80:=Tryz.isAgg198
  z80:=Tryz.sizeOf198
  v80:=Tryz.zeroValue198
  i80:=by kernel_rfl
  t82:=Tryz.underlying200
  a82:=Tryz.isAgg200
  z82:=Tryz.sizeOf200
  v82:=Tryz.zeroValue200
  i82:=by kernel_rfl}
end P
namespace Q
open Go.RowKit Go.Deep Go.ChangeShapes Go.WideShapes WW.bk
def gj {α:Type} (P:Program) (w:World) (d:Kd α) (T:TypeId) (G:α→Prop):Prop:=
  ∀(H:Type) (enc:TypeId×Value→H) (base:Nat) (spare:Nat→Bool) (held:Bool) (fuel:Nat) (cs:List Value) (x:DataW H×List MemPlace),
   DataW.trod enc P w base spare held fuel T cs=some x→∃v,d.K w v cs∧G v
def mz {α:Type} (P:Program) (w:World) (d:Kd α) (off:Nat) (fs:Array Field) (i:Nat) (G:α→Prop):Prop:=
  ∀(H:Type) (enc:TypeId×Value→H) (base:Nat) (spare:Nat→Bool) (held:Bool) (fuel:Nat) (cs:List Value),cs.length=off+d.sz→
   (∀j f,i≤j→fs[j]? =some f→∃y:DataW H×List MemPlace,DataW.trod enc P w base spare held fuel f.type ((cs.drop f.offset).take (P.cellsOf f.type))=some y)→∃v,d.K w v (cs.drop off)∧G v
section
variable {P:Program} {w:World}
theorem gj.mono {α:Type} {d:Kd α} {T:TypeId} {G G':α→Prop} (h:gj P w d T G) (hg:∀x,G x→G' x):gj P w d T G':=by
  intro H enc base spare held fuel cs x hx;obtain⟨v,hv,g⟩:=h H enc base spare held fuel cs x hx;exact⟨v,hv,hg v g⟩
theorem gj.int {k:IntKind} {T:TypeId} (ht:P.underlying T=some (.int k)):gj P w (Kd.int k) T (fun n=>(Lit.int k n).wf=true):=by
  intro H enc base spare held fuel cs x hx;obtain⟨n,rfl,_,hw⟩:=DataW.trod_int ht hx;exact⟨n,rfl,hw⟩
theorem gj.slice {α:Type} (z:α) {d:Kd α} {E T:TypeId} {G:α→Prop} (ht:P.underlying T=some (.slice E)) (hC:P.cellsOf E=d.sz) (h:gj P w d E G):
    gj P w (Kd.slice E d) T (fun l=>l.length≤9223372036854775807∧∀x∈l,G x):=by
  haveI:Inhabited α:=⟨z⟩
  intro H enc base spare held fuel cs x hx;rcases open_slice ht hx with ⟨rfl,_⟩|⟨a,len,cap,m,n,D,Pl,rfl,hb,hl,hm,I,_,hi⟩
  · exact⟨[],⟨none,0,rfl,Nat.le_refl _,rfl,by simp,fun h=>absurd h (by simp)⟩,by simp,by simp⟩
  · have J:len≤m:=by rw[I];split<;>omega
    obtain⟨V,hV⟩:=choose_lt (α:=α) (n:=len) (p:=fun i v=>G v∧∃c,c.length=d.sz∧d.K w v c∧∀j u,c[j]? =some u→w.cell? (a.add (i*d.sz+j))=some u) (fun i hil=>by
      obtain⟨cs',h1,h2⟩:=hi i (by omega);obtain⟨v,hv,g⟩:=h H enc base spare held n cs' _ h2;obtain⟨_,F,hat⟩:=World.cells?_some h1;refine⟨v,g,cs',by rw[F,hC],hv,fun j u hu=> ?_⟩;have hj:j<P.cellsOf E:=(by rw[←F];exact(List.getElem?_eq_some_iff.1 hu).1);have:=hat j hj;rw[hC,Go.Deep.add_add]at this;rw[this,hu])
    refine⟨(List.range len).map V,⟨some a,cap,by simp,by simpa using hl,by simp,by have:=hm;unfold maxLen at this;simp;omega,fun _=>⟨a,rfl,fun j p hj=> ?_⟩⟩,?_⟩
    · have hj':j<len:=(by have:=(List.getElem?_eq_some_iff.1 hj).1;simpa using this);obtain rfl:V j=p:=(by simpa[hj']using hj);exact(hV j hj').2
    · refine⟨by have:=hm;unfold maxLen at this;simp;omega,fun x hx=> ?_⟩;obtain⟨i,hi,rfl⟩:=List.mem_map.1 hx;exact(hV i (List.mem_range.1 hi)).1
theorem mz.one {α:Type} {d:Kd α} {off i:Nat} {fs:Array Field} {f:Field} {G:α→Prop} (hf:fs[i]? =some f) (h:gj P w d f.type G) (ho:f.offset=off) (hc:P.cellsOf f.type=d.sz):mz P w d off fs i G:=by
  intro H enc base spare held fuel cs hlen u;obtain⟨y,hy⟩:=u i f (Nat.le_refl _) hf;rw[ho,hc,List.take_of_length_le (by simp[hlen])]at hy;exact h H enc base spare held fuel _ _ hy
theorem mz.more {α β:Type} {d:Kd α} {d2:Kd β} {off i:Nat} {fs:Array Field} {f:Field} {G:α→Prop} {u:β→Prop} (hf:fs[i]? =some f) (h:gj P w d f.type G) (ho:f.offset=off) (hc:P.cellsOf f.type=d.sz)
    (h2:mz P w d2 (off+d.sz) fs (i+1) u):mz P w (Kd.pair d d2) off fs i (fun x=>G x.1∧u x.2):=by
  intro H enc base spare held fuel cs hlen z;have hlen':cs.length=off+(d.sz+d2.sz):=hlen;obtain⟨y,hy⟩:=z i f (Nat.le_refl _) hf;rw[ho,hc]at hy;obtain⟨v,hv,g⟩:=h H enc base spare held fuel _ _ hy;obtain⟨v2,hv2,g2⟩:=h2 H enc base spare held fuel cs (by omega) (fun j f' hj hf'=>z j f' (by omega) hf');refine⟨(v,v2),⟨_,_,?_,hv,hv2⟩,g,g2⟩;rw[←List.drop_drop,List.take_append_drop]
end
end Q
namespace P
open Go.RowKit WW.bk WW.b_ WW.b6
attribute [local go_sem] cR cV cU cY cT cX cS cW
def rp:Option Int→Value
 |none=> .nilIface
 |some c=> .iface 0 (.int .i64 c)
theorem dL:rp none= .nilIface:=rfl
theorem dM (c:Int):rp (some c)= .iface 0 (.int .i64 c):=rfl
theorem info3:(Tryz.prog.info? 3).map (fun i=>(i.zero,i.size,i.bytes))=some (some (.int .i64 0),1,8):=by kernel_rfl
theorem wo:(Tryz.prog.info? 4).map (fun i=>(i.zero,i.size,i.bytes))=some (some (.bool false),1,1):=by kernel_rfl
theorem wq:(Tryz.prog.info? 41).map (fun i=>(i.zero,i.size,i.bytes))=some (some (.agg #[(.int .i64 0),(.int .i64 0),(.int .i64 0),(.int .i64 0)]),4,32):=by kernel_rfl
theorem lX:(Tryz.prog.info? 104).map (fun i=>(i.zero,i.size,i.bytes))=some (some (.agg #[(.int .i64 0),(.int .i64 0),(.int .i64 0),(.int .i64 0)]),4,32):=by kernel_rfl
theorem mS:(Tryz.prog.info? 112).map (fun i=>(i.zero,i.size,i.bytes))=some (some (.agg #[(.int .i64 0),(.int .i64 0),(.int .i64 0),(.int .i64 0)]),4,32):=by kernel_rfl
structure ai where
 f0:Int
 f1:Int
 f2:Int
 f3:Int
def cG:ai:=⟨(0:Int),(0:Int),(0:Int),(0:Int)⟩
def aU:Kd ai:=Kd.od (Kd.pair (Kd.int .i64) (Kd.pair (Kd.int .i64) (Kd.pair (Kd.int .i64) (Kd.int .i64)))) (fun x:ai=>(x.f0,x.f1,x.f2,x.f3))
theorem wE {w:World} {x:ai} {cs:List Value} (h:aU.K w x cs):cs=[.int .i64 x.f0,.int .i64 x.f1,.int .i64 x.f2,.int .i64 x.f3]:=by
 obtain⟨_,_,rfl,rfl,⟨_,_,rfl,rfl,⟨_,_,rfl,rfl,rfl⟩⟩⟩:=h;exact rfl
theorem lZ {w:World} {base:Nat} {ok:Nat→Prop} {x:ai} {cs:List Value} (h:aU.M w base ok x cs):cs=[.int .i64 x.f0,.int .i64 x.f1,.int .i64 x.f2,.int .i64 x.f3]:=by
 obtain⟨_,_,rfl,rfl,⟨_,_,rfl,rfl,⟨_,_,rfl,rfl,rfl⟩⟩⟩:=h;exact rfl
theorem og (w:World) (base:Nat) (ok:Nat→Prop) (x:ai):aU.M w base ok x [.int .i64 x.f0,.int .i64 x.f1,.int .i64 x.f2,.int .i64 x.f3]:=⟨[.int .i64 x.f0],[.int .i64 x.f1,.int .i64 x.f2,.int .i64 x.f3],rfl,rfl,⟨[.int .i64 x.f1],[.int .i64 x.f2,.int .i64 x.f3],rfl,rfl,⟨[.int .i64 x.f2],[.int .i64 x.f3],rfl,rfl,rfl⟩⟩⟩
def af (xs:List ai) (i:Int):ai:=xs.getD i.toNat cG
theorem dU {w:World} {A:Option Addr} {n:Nat} {xs:List ai} (h:Kd.C aU w A n xs) (i:Int) (h0:0≤i) (h1:i<n):∃ad,A=some ad∧w.cell? (ad.add (i.toNat*4))=some (.int .i64 (af xs i).f0)∧w.cell? ⟨(ad.add (i.toNat*4)).block,(ad.add (i.toNat*4)).off+1,none⟩=some (.int .i64 (af xs i).f1)∧w.cell? ⟨(ad.add (i.toNat*4)).block,(ad.add (i.toNat*4)).off+2,none⟩=some (.int .i64 (af xs i).f2)∧w.cell? ⟨(ad.add (i.toNat*4)).block,(ad.add (i.toNat*4)).off+3,none⟩=some (.int .i64 (af xs i).f3):=by
 obtain⟨ad,c,e,_,hK,hc0⟩:=Kd.oW h cG i h0 h1;have hc:∀j u,c[j]? =some u→w.cell? (ad.add (i.toNat*4+j))=some u:=hc0;obtain rfl:=wE hK;exact⟨ad,e,hc 0 _ rfl,by rw[←jm _ _ 1 (by omega)];exact hc 1 _ rfl,by rw[←jm _ _ 2 (by omega)];exact hc 2 _ rfl,by rw[←jm _ _ 3 (by omega)];exact hc 3 _ rfl⟩
structure bL where
 f0:Int
 f1:Int
def zt:bL:=⟨(0:Int),(0:Int)⟩
def oh:Kd bL:=Kd.od (Kd.pair (Kd.int .i64) (Kd.int .i64)) (fun x:bL=>(x.f0,x.f1))
theorem wI {w:World} {x:bL} {cs:List Value} (h:oh.K w x cs):cs=[.int .i64 x.f0,.int .i64 x.f1]:=by
 obtain⟨_,_,rfl,rfl,rfl⟩:=h;exact rfl
theorem wJ {w:World} {base:Nat} {ok:Nat→Prop} {x:bL} {cs:List Value} (h:oh.M w base ok x cs):cs=[.int .i64 x.f0,.int .i64 x.f1]:=by
 obtain⟨_,_,rfl,rfl,rfl⟩:=h;exact rfl
theorem wH (w:World) (base:Nat) (ok:Nat→Prop) (x:bL):oh.M w base ok x [.int .i64 x.f0,.int .i64 x.f1]:=⟨[.int .i64 x.f0],[.int .i64 x.f1],rfl,rfl,rfl⟩
structure ah where
 f0:bL
 f1:Int
 f2:Int
def dr:ah:=⟨zt,(0:Int),(0:Int)⟩
def aT:Kd ah:=Kd.od (Kd.pair oh (Kd.pair (Kd.int .i64) (Kd.int .i64))) (fun x:ah=>(x.f0,x.f1,x.f2))
theorem wD {w:World} {x:ah} {cs:List Value} (h:aT.K w x cs):cs=[.int .i64 x.f0.f0,.int .i64 x.f0.f1,.int .i64 x.f1,.int .i64 x.f2]:=by
 obtain⟨_,_,rfl,s0,⟨_,_,rfl,rfl,rfl⟩⟩:=h;obtain rfl:=wI s0;exact rfl
theorem lY {w:World} {base:Nat} {ok:Nat→Prop} {x:ah} {cs:List Value} (h:aT.M w base ok x cs):cs=[.int .i64 x.f0.f0,.int .i64 x.f0.f1,.int .i64 x.f1,.int .i64 x.f2]:=by
 obtain⟨_,_,rfl,s0,⟨_,_,rfl,rfl,rfl⟩⟩:=h;obtain rfl:=wJ s0;exact rfl
theorem iR (w:World) (base:Nat) (ok:Nat→Prop) (x:ah):aT.M w base ok x [.int .i64 x.f0.f0,.int .i64 x.f0.f1,.int .i64 x.f1,.int .i64 x.f2]:=⟨[.int .i64 x.f0.f0,.int .i64 x.f0.f1],[.int .i64 x.f1,.int .i64 x.f2],rfl,(wH w base ok x.f0),⟨[.int .i64 x.f1],[.int .i64 x.f2],rfl,rfl,rfl⟩⟩
def av (xs:List ah) (i:Int):ah:=xs.getD i.toNat dr
theorem er {w:World} {A:Option Addr} {n:Nat} {xs:List ah} (h:Kd.C aT w A n xs) (i:Int) (h0:0≤i) (h1:i<n):∃ad,A=some ad∧w.cell? (ad.add (i.toNat*4))=some (.int .i64 (av xs i).f0.f0)∧w.cell? ⟨(ad.add (i.toNat*4)).block,(ad.add (i.toNat*4)).off+1,none⟩=some (.int .i64 (av xs i).f0.f1)∧w.cell? ⟨(ad.add (i.toNat*4)).block,(ad.add (i.toNat*4)).off+2,none⟩=some (.int .i64 (av xs i).f1)∧w.cell? ⟨(ad.add (i.toNat*4)).block,(ad.add (i.toNat*4)).off+3,none⟩=some (.int .i64 (av xs i).f2):=by
 obtain⟨ad,c,e,_,hK,hc0⟩:=Kd.oW h dr i h0 h1;have hc:∀j u,c[j]? =some u→w.cell? (ad.add (i.toNat*4+j))=some u:=hc0;obtain rfl:=wD hK;exact⟨ad,e,hc 0 _ rfl,by rw[←jm _ _ 1 (by omega)];exact hc 1 _ rfl,by rw[←jm _ _ 2 (by omega)];exact hc 2 _ rfl,by rw[←jm _ _ 3 (by omega)];exact hc 3 _ rfl⟩
structure dh where
 f0:Int
 f1:Int
 f2:Int
 f3:Int
def z41:dh:=⟨(0:Int),(0:Int),(0:Int),(0:Int)⟩
def gR:Kd dh:=Kd.od (Kd.pair (Kd.int .i64) (Kd.pair (Kd.int .i64) (Kd.pair (Kd.int .i64) (Kd.int .i64)))) (fun x:dh=>(x.f0,x.f1,x.f2,x.f3))
theorem wG {w:World} {x:dh} {cs:List Value} (h:gR.K w x cs):cs=[.int .i64 x.f0,.int .i64 x.f1,.int .i64 x.f2,.int .i64 x.f3]:=by
 obtain⟨_,_,rfl,rfl,⟨_,_,rfl,rfl,⟨_,_,rfl,rfl,rfl⟩⟩⟩:=h;exact rfl
theorem wF (w:World) (base:Nat) (ok:Nat→Prop) (x:dh):gR.M w base ok x [.int .i64 x.f0,.int .i64 x.f1,.int .i64 x.f2,.int .i64 x.f3]:=⟨[.int .i64 x.f0],[.int .i64 x.f1,.int .i64 x.f2,.int .i64 x.f3],rfl,rfl,⟨[.int .i64 x.f1],[.int .i64 x.f2,.int .i64 x.f3],rfl,rfl,⟨[.int .i64 x.f2],[.int .i64 x.f3],rfl,rfl,rfl⟩⟩⟩
def gD (xs:List dh) (i:Int):dh:=xs.getD i.toNat z41
theorem bD {w:World} {A:Option Addr} {n:Nat} {xs:List dh} (h:Kd.C gR w A n xs) (i:Int) (h0:0≤i) (h1:i<n):∃ad,A=some ad∧w.cell? (ad.add (i.toNat*4))=some (.int .i64 (gD xs i).f0)∧w.cell? ⟨(ad.add (i.toNat*4)).block,(ad.add (i.toNat*4)).off+1,none⟩=some (.int .i64 (gD xs i).f1)∧w.cell? ⟨(ad.add (i.toNat*4)).block,(ad.add (i.toNat*4)).off+2,none⟩=some (.int .i64 (gD xs i).f2)∧w.cell? ⟨(ad.add (i.toNat*4)).block,(ad.add (i.toNat*4)).off+3,none⟩=some (.int .i64 (gD xs i).f3):=by
 obtain⟨ad,c,e,_,hK,hc0⟩:=Kd.oW h z41 i h0 h1;have hc:∀j u,c[j]? =some u→w.cell? (ad.add (i.toNat*4+j))=some u:=hc0;obtain rfl:=wG hK;exact⟨ad,e,hc 0 _ rfl,by rw[←jm _ _ 1 (by omega)];exact hc 1 _ rfl,by rw[←jm _ _ 2 (by omega)];exact hc 2 _ rfl,by rw[←jm _ _ 3 (by omega)];exact hc 3 _ rfl⟩
end P
namespace WW.b_
open Go.RowKit WW.bk
section
variable {P:Program} {ops:Array Oper} {Q:Exit→Act→World→Prop} {md:Region.Mode} {S:World→Prop} {ds:List Nat} {T:Bool×List (List Nat×List Nat)} {B:List Nat} {oi oj:Oper} {v:Value} {fuel:Nat} {l l' lj:Array Bool} {a a':Act} {w:World}
theorem pA (i:Nat) (N:Option Tmp) (u:a6 md ops=T) (h:bt P md ops Q S ds fuel l' a' w) (hi:ops[i]? =some oi:=by rfl) (hN:oi.dst=N:=by rfl)
    (hl:l.setIfInBounds i true=l':=by simp only[List.setIfInBounds_toArray,List.set_cons_zero,List.set_cons_succ];rfl) (hc:lR T l.toList l'.toList i=true:=by kernel_rfl)
    (hQ:∀c a w,Q (.panic c) (a.put oi.dst v) w→Q (.panic c) a w:=by exact fun _ _ _ h=>h) (hw:Region.wanted oi (yielded ops a.tmps)=true:=by rfl)
    (hy:∀w',(execOp a.eval oi).run P w'= .ok (.value v) w':=by intro w';go_simp;with_reducible rfl) (ha:a.put N v=a':=by simp only[Act.put,List.setIfInBounds_toArray,List.set_cons_zero,List.set_cons_succ,cd,ct];rfl):
    bt P md ops Q S ds (fuel+1) l a w:=oy l' hi hN (nQ u hc) hQ (Or.inl ⟨hw,hy⟩) ha h
theorem pU (i:Nat) (N:Option Tmp) (u:a6 md ops=T) (h:bt P md ops Q S ds fuel l' a' w) (hi:ops[i]? =some oi:=by rfl) (hN:oi.dst=N:=by rfl)
    (hl:l.setIfInBounds i true=l':=by simp only[List.setIfInBounds_toArray,List.set_cons_zero,List.set_cons_succ];rfl) (hc:lR T l.toList l'.toList i=true:=by kernel_rfl)
    (hQ:∀c a w,Q (.panic c) (a.put oi.dst undef) w→Q (.panic c) a w:=by exact fun _ _ _ h=>h) (hw:Region.wanted oi (yielded ops a.tmps)=false:=by rfl)
    (ha:a.put N undef=a':=by simp only[Act.put,List.setIfInBounds_toArray,List.set_cons_zero,List.set_cons_succ,cd,ct];rfl):
    bt P md ops Q S ds (fuel+1) l a w:=oy (v:=undef) l' hi hN (nQ u hc) hQ (Or.inr ⟨hw,rfl⟩) ha h
theorem pT (i:Nat) (N:Option Tmp) (u:a6 md ops=T) (HW:bT T.2 B=true) (hS:S w) (h:bt P md ops Q S ds fuel l' a' w) (hi:ops[i]? =some oi:=by rfl) (hN:oi.dst=N:=by rfl)
    (hl:l.setIfInBounds i true=l':=by simp only[List.setIfInBounds_toArray,List.set_cons_zero,List.set_cons_succ];rfl) (hc:nw T B ds l.toList l'.toList i=true:=by kernel_rfl)
    (hQ:∀c a w,Q (.panic c) (a.put oi.dst v) w→Q (.panic c) a w:=by exact fun _ _ _ h=>h) (hw:Region.wanted oi (yielded ops a.tmps)=true:=by rfl)
    (hy:∀w',S w'→(execOp a.eval oi).run P w'= .ok (.value v) w':=by intro w' s_;(try dsimp only at s_);repeat(have:=s_.1;replace s_:=s_.2);go_simp;with_reducible rfl) (ha:a.put N v=a':=by simp only[Act.put,List.setIfInBounds_toArray,List.set_cons_zero,List.set_cons_succ,cd,ct];rfl):
    bt P md ops Q S ds (fuel+1) l a w:=nx l' hi hN (qf u HW hc) hQ (Or.inl ⟨hw,hy⟩) hS ha h
theorem gL {rest:List Oper} {f:FuncId} {fn:Func} {os:Array Operand} {ts:Array TypeId} (N:Option Tmp) (hf:P.funcs[f]? =some fn) (args:Array Value)
    (h:Calls P f args w fun e w'=>∃v,e= .returned v∧wpList P ops Q rest (a.put N v) w') (hd:oi.dst=N:=by rfl) (hg:oi.guard=none:=by rfl) (hname:(fn.name== "runtime.NumGoroutine")=false:=by kernel_rfl) (hb:fn.body.isSome=true:=by rfl)
    (hop:oi.op= .call {callee:= .value (.func f),args:=os,argTypes:=ts}:=by rfl) (hargs:os.map a.eval=args:=by(try simp only[List.map_toArray,List.map_cons,List.map_nil]);first|done|rfl|(simp only[List.length_drop,List.length_take];rfl)):
    wpList P ops Q (oi::rest) a w:=jz N hd hg hf hname hb args hop hargs h
end
end WW.b_
namespace P
open Go.RowKit WW.bk WW.b_ WW.b6
theorem cB {w W W':World} {g:Nat} {row:Option Nat} (h:ae (a8 w W g row)) (k:a8 w W g row→a8 w W' g row:=by intro h_;repeat(first|(with_reducible first|exact h_|apply a8.kz|apply lh|apply lg|apply kj|refine pF ?_ (ae.out (self:=by assumption)) _)|exact h_)):a8 w W' g row:=k h.out
theorem cF {w W:World} {a:Addr} {g:Nat} {v:Option Value} (hn:a.block≠g) (h:w.cell? a=v) (k:a.block≠g→w.cell? a=v→W.cell? a=v:=by intro n_ h_;repeat(first|(with_reducible exact h_)|refine(cell_far (p:=⟨_,_,none⟩) n_ _).trans ?_)):W.cell? a=v:=k hn h
theorem nL {w W:World} {g g2:Nat} {o:Obj} (_h:ae (w.heap[g]? =some o)) (hg:g2=W.heap.size) [k:ae (W.heap[g]? =some o)]:g≠g2:=by rw[hg];exact Nat.ne_of_lt (dB k.out)
theorem nG {w W:World} {g g2:Nat} {o:Obj} (_h:ae (w.heap[g]? =some o)) (hg:g2=W.heap.size) [k:ae (W.heap[g]? =some o)]:g2≠g:=by rw[hg];exact Nat.ne_of_gt (dB k.out)
theorem bb {w W W1:World} {g:Nat} {o:Obj} (_h:ae (w.heap[g]? =some o)) (hb:Below W.heap.size W W1) [k:ae (W.heap[g]? =some o)]:W1.heap[g]? =some o:=jZ k.out hb
theorem bg {w W W1:World} {g:Nat} {o:Obj} {row:Option Nat} (_h:ae (w.heap[g]? =some o)) (hw:W.grownBy W1 row) (hne:some g≠row) [k:ae (W.heap[g]? =some o)]:W1.heap[g]? =some o:=nV k.out hw hne
theorem cz {w:World} {g:Nat} {cs:Array Value} {t:TypeId} {v:Value} (h:ae (w.heap[g]? =some (.cells cs t (0,0)))) (i:Nat) (e:cs[i]? =some v:=by(simp only[List.getElem?_toArray,List.getElem?_cons_zero,List.getElem?_cons_succ]);try rfl):w.cell? ⟨g,i,none⟩=some v:=(cA h.out i).trans e
theorem A_ {p:Prop} (h:p):ae p:=⟨h⟩
theorem eR {p:Prop} (h:p:=by first|rfl|(simp[dL,dM]<;>rfl)|(simp[*,dL,dM]<;>rfl)):p:=h
theorem bX {P:Program} {ops:Array Oper} {rest:List Oper} {o:Oper} {a:Act} {Q:Exit→Act→World→Prop} {W:World} {N:Tmp} {cs:Array Value} {t:TypeId} (h:∀g,g=W.heap.size→∀w1,w1.heap[g]? =some (.cells cs t (0,0))→Below W.heap.size W w1→wpList P ops Q rest (a.put o.dst (.pointer (some ⟨g,0,none⟩))) w1)
    (hgd:o.guard=none:=by rfl) (hd:o.dst=some N:=by rfl) (hrun:(execOp a.eval o).run P W= .ok (.value (.pointer (some ⟨W.heap.size,0,none⟩))) (W.alloc (.cells cs t (0,0))):=by first|(go_simp;done)|(go_simp;rfl)):wpList P ops Q (o::rest) a W:=kS hgd hd hrun h
theorem oD {p:Prop} [Decidable p] (h:decide p=true:=by first|(with_reducible assumption)|assumption):p:=of_decide_eq_true h
theorem hW {w W:World} {a:Addr} {v:Value} (u:ae (Below w.heap.size w W)) (h:w.cell? a=some v):W.cell? a=some v:=(u.out.cell (World.block_lt_of_cell? w _ h)).trans h
theorem eS {p:Prop} (h:p:=by first|rfl|(simp;done)|(simp[*];done)):p:=h
end P
namespace P
set_option maxHeartbeats 8000000
set_option maxRecDepth 100000
open Go.RowKit WW.bk WW.b_ WW.b6
attribute [local go_sem] cR cV cU cY cT cX cS cW
def cj.f (a0:Int) (a1:Int) (a2:Int):Option (Bool):=if a1≤a0 then(some (decide (a0≤a2)))else(some false)
theorem cj.c (a0:Int) (a1:Int) (a2:Int) (r:Bool) (w:World) (h:cj.f a0 a1 a2=some r):
  Calls Tryz.prog 79 #[.int .i64 a0,.int .i64 a1,.int .i64 a2] w fun e w'=>e= .returned (.bool r)∧bw w w':=by
 have H:(if a1≤a0 then(some (decide (a0≤a2)))else(some false))=some r:=h;clear h;by_cases c4:a1≤a0
 ·rw[aq c4]at H;have u:decide (a1≤a0)=true:=ag c4;clear c4;obtain rfl:=aC H;go_enter Tryz.func79,Tryz.ntmps79;go_wp2;go_ret;exact⟨eS,by repeat(first|exact bw.refl _|apply bw.step)⟩
 ·rw[au c4]at H;have u:decide (a1≤a0)=false:=ay c4;clear c4;obtain rfl:=aC H;go_enter Tryz.func79,Tryz.ntmps79;go_wp2;go_ret;exact⟨eS,by repeat(first|exact bw.refl _|apply bw.step)⟩
def cy.f (a0:Int):Option (Bool):=(cj.f a0 1 10000000).bind fun u=>(some u)
theorem cy.c (a0:Int) (r:Bool) (w:World) (h:cy.f a0=some r):
  Calls Tryz.prog 90 #[.int .i64 a0] w fun e w'=>e= .returned (.bool r)∧bw w w':=by
 have H:((cj.f a0 1 10000000).bind fun u=>(some u))=some r:=h;clear h;replace H:=az H;obtain⟨u,z,H⟩:=H
 (try dsimp only at H)
 have A2:=A_ z;clear z;obtain rfl:=aC H;go_enter Tryz.func90,Tryz.ntmps90
 go_wp2_with (first|((with_reducible refine bC (f:=79) rfl ?_);refine gL (some 4) Tryz.func79 #[.int .i64 a0,.int .i64 1,.int .i64 10000000] ?_;(with_reducible refine(cj.c a0 1 10000000 u _ A2.out).mono ?_);rintro e w' ⟨rfl,⟨nd,rfl⟩⟩;refine⟨_,rfl,?_⟩))
 go_ret;exact⟨eS,by repeat(first|exact bw.refl _|apply bw.step)⟩
def eZ.f (a0:Int):Option (Bool):=(cj.f a0 (-10) 40).bind fun u=>(some u)
theorem eZ.c (a0:Int) (r:Bool) (w:World) (h:eZ.f a0=some r):
  Calls Tryz.prog 78 #[.int .i64 a0] w fun e w'=>e= .returned (.bool r)∧bw w w':=by
 have H:((cj.f a0 (-10) 40).bind fun u=>(some u))=some r:=h;clear h;replace H:=az H;obtain⟨u,z,H⟩:=H
 (try dsimp only at H)
 have A2:=A_ z;clear z;obtain rfl:=aC H;go_enter Tryz.func78,Tryz.ntmps78
 go_wp2_with (first|((with_reducible refine bC (f:=79) rfl ?_);refine gL (some 4) Tryz.func79 #[.int .i64 a0,.int .i64 (-10),.int .i64 40] ?_;(with_reducible refine(cj.c a0 (-10) 40 u _ A2.out).mono ?_);rintro e w' ⟨rfl,⟨nd,rfl⟩⟩;refine⟨_,rfl,?_⟩))
 go_ret;exact⟨eS,by repeat(first|exact bw.refl _|apply bw.step)⟩
def dx.j0:Nat→Int→Int→Int→Bool→Option (Int)
 |0,_,_,_,_=>none
 |k+1,x0,x1,x2,H=>if H=true then(some 0)else(if x1=1 then((cy.f (wrap64 (Int.tdiv (mx (wrap64 ((wrap64 (3*x0))-x2)) 0) 2))).bind fun u=>(if u=true then(some (wrap64 (Int.tdiv (mx (wrap64 ((wrap64 (3*x0))-x2)) 0) 2)))else(some 0)))else(if x1=2 then((cy.f (wrap64 (Int.tdiv (mx (wrap64 ((wrap64 (3*x0))-x2)) 0) 4))).bind fun z=>(if z=true then(some (wrap64 (Int.tdiv (mx (wrap64 ((wrap64 (3*x0))-x2)) 0) 4)))else(some 0)))else(if x1=3 then((cy.f (wrap64 (2*x0))).bind fun D=>(if D=true then(some (wrap64 (2*x0)))else(some 0)))else(if x1=4 then((cy.f (wrap64 (Int.tdiv x0 2))).bind fun F=>(if F=true then(some (wrap64 (Int.tdiv x0 2)))else(some 0)))else((cy.f 0).bind fun G=>(if G=true then(some 0)else(some 0)))))))
def dx.f (k:Nat) (a0:Int) (a1:Int) (a2:Int):Option (Int):=(cy.f a0).bind fun u=>(if u=true then((cj.f a2 0 100000).bind fun z=>(if z=true then(if a2=0 then(dx.j0 k a0 a1 a2 false)else(if a1=3 then(dx.j0 k a0 a1 a2 true)else(dx.j0 k a0 a1 a2 (a1==4))))else(dx.j0 k a0 a1 a2 true)))else(dx.j0 k a0 a1 a2 true))
theorem dx.c (k:Nat) (a0:Int) (a1:Int) (a2:Int) (r:Int) (w:World) (h:dx.f k a0 a1 a2=some r):
  Calls Tryz.prog 91 #[.int .i64 a0,.int .i64 a1,.int .i64 a2] w fun e w'=>e= .returned (.int .i64 r)∧Below w.heap.size w w':=by
 have u:=A_ (Below.refl w.heap.size w);have H:((cy.f a0).bind fun ai=>(if ai=true then((cj.f a2 0 100000).bind fun aj=>(if aj=true then(if a2=0 then(dx.j0 k a0 a1 a2 false)else(if a1=3 then(dx.j0 k a0 a1 a2 true)else(dx.j0 k a0 a1 a2 (a1==4))))else(dx.j0 k a0 a1 a2 true)))else(dx.j0 k a0 a1 a2 true)))=some r:=h;clear h;have af:=A_ H;clear H;go_enter Tryz.func91,Tryz.ntmps91
 go_upto_region 1 with (fail)
 go_cut [27] (fun v27 wc=>∃(Y:Nat) (Z:Bool),v27= .bool Z∧ae (dx.j0 Y a0 a1 a2 Z=some r)∧ae (Y≤k)∧ae (Below w.heap.size w wc))
 case first=>
  have H:=af.out;clear af;replace H:=az H;obtain⟨ai,aG,H⟩:=H
  (try dsimp only at H)
  have K:=A_ aG;clear aG;by_cases c6:ai=true
  ·subst c6;rw[aq rfl]at H;replace H:=az H;obtain⟨aj,aH,H⟩:=H
   (try dsimp only at H)
   have O:=A_ aH;clear aH;by_cases c8:aj=true
   ·subst c8;rw[aq rfl]at H;by_cases c9:a2=0
    ·rw[aq c9]at H;have J:(a2==0)=true:=beq_iff_eq.mpr c9;have aK:(a2 != 0)=false:=bne_eq_false_iff_eq.mpr c9;clear c9
     (first|rw[J]|(simp only[cd,ct];rw[J])|skip)
     have H':=A_ H;clear H
     go_wp2_with (first|((with_reducible refine bC (f:=90) rfl ?_);refine gL (some 9) Tryz.func90 #[.int .i64 a0] ?_;(with_reducible refine(cy.c a0 true _ K.out).mono ?_);rintro e w' ⟨rfl,⟨nd,rfl⟩⟩;refine⟨_,rfl,?_⟩)|(go_at_call 79;(with_reducible refine(cj.c a2 0 100000 true _ O.out).mono ?_);rintro e w' ⟨rfl,⟨nd,rfl⟩⟩))
     go_meet
     case rel=>exact⟨_,(false),eS,H',⟨by first|omega|exact Nat.le_refl _⟩,⟨oB u⟩⟩
    ·rw[au c9]at H;have J:(a2==0)=false:=beq_eq_false_iff_ne.mpr c9;have aK:(a2 != 0)=true:=bne_iff_ne.mpr c9
     (first|rw[J]|(simp only[cd,ct];rw[J])|skip)
     by_cases c10:a1=3
     ·rw[aq c10]at H;have aI:(a1==3)=true:=beq_iff_eq.mpr c10;have aJ:(a1 != 3)=false:=bne_eq_false_iff_eq.mpr c10;clear c10;have H':=A_ H;clear H
      go_wp2_with (first|((with_reducible refine bC (f:=90) rfl ?_);refine gL (some 9) Tryz.func90 #[.int .i64 a0] ?_;(with_reducible refine(cy.c a0 true _ K.out).mono ?_);rintro e w' ⟨rfl,⟨nd,rfl⟩⟩;refine⟨_,rfl,?_⟩)|(go_at_call 79;(with_reducible refine(cj.c a2 0 100000 true _ O.out).mono ?_);rintro e w' ⟨rfl,⟨nd,rfl⟩⟩))
      go_meet
      case rel=>exact⟨_,(true),eS,H',⟨by first|omega|exact Nat.le_refl _⟩,⟨oB u⟩⟩
     ·rw[au c10]at H;have aI:(a1==3)=false:=beq_eq_false_iff_ne.mpr c10;have aJ:(a1 != 3)=true:=bne_iff_ne.mpr c10;have H':=A_ H;clear H
      go_wp2_with (first|((with_reducible refine bC (f:=90) rfl ?_);refine gL (some 9) Tryz.func90 #[.int .i64 a0] ?_;(with_reducible refine(cy.c a0 true _ K.out).mono ?_);rintro e w' ⟨rfl,⟨nd,rfl⟩⟩;refine⟨_,rfl,?_⟩)|(go_at_call 79;(with_reducible refine(cj.c a2 0 100000 true _ O.out).mono ?_);rintro e w' ⟨rfl,⟨nd,rfl⟩⟩))
      go_meet
      case rel=>exact⟨_,((a1==4)),eS,H',⟨by first|omega|exact Nat.le_refl _⟩,⟨oB u⟩⟩
   ·replace c8:=Bool.eq_false_iff.mpr c8;subst c8;rw[au (show¬(false=true)by decide)]at H;have H':=A_ H;clear H
    go_wp2_with (first|((with_reducible refine bC (f:=90) rfl ?_);refine gL (some 9) Tryz.func90 #[.int .i64 a0] ?_;(with_reducible refine(cy.c a0 true _ K.out).mono ?_);rintro e w' ⟨rfl,⟨nd,rfl⟩⟩;refine⟨_,rfl,?_⟩)|(go_at_call 79;(with_reducible refine(cj.c a2 0 100000 false _ O.out).mono ?_);rintro e w' ⟨rfl,⟨nd,rfl⟩⟩))
    go_meet
    case rel=>exact⟨_,(true),eS,H',⟨by first|omega|exact Nat.le_refl _⟩,⟨oB u⟩⟩
  ·replace c6:=Bool.eq_false_iff.mpr c6;subst c6;rw[au (show¬(false=true)by decide)]at H;have H':=A_ H;clear H
   go_wp2_with (first|((with_reducible refine bC (f:=90) rfl ?_);refine gL (some 9) Tryz.func90 #[.int .i64 a0] ?_;(with_reducible refine(cy.c a0 false _ K.out).mono ?_);rintro e w' ⟨rfl,⟨nd,rfl⟩⟩;refine⟨_,rfl,?_⟩))
   go_meet
   case rel=>exact⟨_,(true),eS,H',⟨by first|omega|exact Nat.le_refl _⟩,⟨oB u⟩⟩
 case rest=>
  clear af
  try clear c1
  try clear p2
  try clear c6
  try clear c8
  try clear c9
  try clear J
  try clear aK
  try clear c10
  try clear aI
  try clear aJ
  obtain⟨Y,Z,rfl,ad,aW,u⟩:=hcut;cases Y with
  |zero=>exact absurd ad.out (by simp[dx.j0])
  |succ a3=>
   have H:=ad.out;clear ad;simp only[dx.j0]at H;by_cases c11:Z=true
   ·subst c11;rw[aq rfl]at H;obtain rfl:=aC H;go_wp2;go_ret;exact⟨eR,oB u⟩
   ·replace c11:=Bool.eq_false_iff.mpr c11;subst c11;rw[au (show¬(false=true)by decide)]at H;by_cases c12:a1=1
    ·rw[aq c12]at H;have aL:(a1==1)=true:=beq_iff_eq.mpr c12;have aM:(a1 != 1)=false:=bne_eq_false_iff_eq.mpr c12;clear c12;obtain⟨G,D⟩:∃ah:Int,(mx (wrap64 ((wrap64 (3*a0))-a2)) 0)=ah:=⟨_,rfl⟩;replace H:((cy.f (wrap64 (Int.tdiv (G) 2))).bind fun ak=>(if ak=true then(some (wrap64 (Int.tdiv (G) 2)))else(some 0)))=some r:=by first|(rw[D]at H;exact H)|(simp only[D]at H ⊢;exact H)
     have aX:(if(wrap64 ((wrap64 (3*a0))-a2))<0 then 0 else(wrap64 ((wrap64 (3*a0))-a2)))=G:=D;replace H:=az H;obtain⟨ak,ao,H⟩:=H
     (try dsimp only at H)
     have am:=A_ ao;clear ao;by_cases c15:ak=true
     ·subst c15;rw[aq rfl]at H;obtain rfl:=aC H
      go_wp2_with (first|((with_reducible refine bC (f:=90) rfl ?_);refine jz (some 54) rfl rfl Tryz.func90 (by kernel_rfl) rfl #[.int .i64 (wrap64 (Int.tdiv (G) 2))] rfl (by(try simp only[List.map_toArray,List.map_cons,List.map_nil]);first|done|(simp only[D];rfl)|rfl|(simp only[List.length_drop,List.length_take];rfl)) ?_;(with_reducible refine(cy.c (wrap64 (Int.tdiv (G) 2)) true _ am.out).mono ?_);rintro e w' ⟨rfl,⟨nd,rfl⟩⟩;refine⟨_,rfl,?_⟩))
      go_ret;exact⟨by first|rfl|(simp[dL,dM]<;>rfl)|(simp only[←D];first|rfl|(simp[dL,dM]<;>rfl))|(simp[*,dL,dM]<;>rfl),oB u⟩
     ·replace c15:=Bool.eq_false_iff.mpr c15;subst c15;rw[au (show¬(false=true)by decide)]at H;obtain rfl:=aC H
      go_wp2_with (first|((with_reducible refine bC (f:=90) rfl ?_);refine jz (some 54) rfl rfl Tryz.func90 (by kernel_rfl) rfl #[.int .i64 (wrap64 (Int.tdiv (G) 2))] rfl (by(try simp only[List.map_toArray,List.map_cons,List.map_nil]);first|done|(simp only[D];rfl)|rfl|(simp only[List.length_drop,List.length_take];rfl)) ?_;(with_reducible refine(cy.c (wrap64 (Int.tdiv (G) 2)) false _ am.out).mono ?_);rintro e w' ⟨rfl,⟨nd,rfl⟩⟩;refine⟨_,rfl,?_⟩))
      go_ret;exact⟨by first|rfl|(simp[dL,dM]<;>rfl)|(simp only[←D];first|rfl|(simp[dL,dM]<;>rfl))|(simp[*,dL,dM]<;>rfl),oB u⟩
    ·rw[au c12]at H;have aL:(a1==1)=false:=beq_eq_false_iff_ne.mpr c12;have aM:(a1 != 1)=true:=bne_iff_ne.mpr c12;by_cases c16:a1=2
     ·rw[aq c16]at H;have aN:(a1==2)=true:=beq_iff_eq.mpr c16;have aO:(a1 != 2)=false:=bne_eq_false_iff_eq.mpr c16;clear c16;obtain⟨I,F⟩:∃ah:Int,(mx (wrap64 ((wrap64 (3*a0))-a2)) 0)=ah:=⟨_,rfl⟩;replace H:((cy.f (wrap64 (Int.tdiv (I) 4))).bind fun al=>(if al=true then(some (wrap64 (Int.tdiv (I) 4)))else(some 0)))=some r:=by first|(rw[F]at H;exact H)|(simp only[F]at H ⊢;exact H)
      have aY:(if(wrap64 ((wrap64 (3*a0))-a2))<0 then 0 else(wrap64 ((wrap64 (3*a0))-a2)))=I:=F;replace H:=az H;obtain⟨al,ar,H⟩:=H
      (try dsimp only at H)
      have ap:=A_ ar;clear ar;by_cases c19:al=true
      ·subst c19;rw[aq rfl]at H;obtain rfl:=aC H
       go_wp2_with (first|((with_reducible refine bC (f:=90) rfl ?_);refine jz (some 54) rfl rfl Tryz.func90 (by kernel_rfl) rfl #[.int .i64 (wrap64 (Int.tdiv (I) 4))] rfl (by(try simp only[List.map_toArray,List.map_cons,List.map_nil]);first|done|(simp only[F];rfl)|rfl|(simp only[List.length_drop,List.length_take];rfl)) ?_;(with_reducible refine(cy.c (wrap64 (Int.tdiv (I) 4)) true _ ap.out).mono ?_);rintro e w' ⟨rfl,⟨nd,rfl⟩⟩;refine⟨_,rfl,?_⟩))
       go_ret;exact⟨by first|rfl|(simp[dL,dM]<;>rfl)|(simp only[←F];first|rfl|(simp[dL,dM]<;>rfl))|(simp[*,dL,dM]<;>rfl),oB u⟩
      ·replace c19:=Bool.eq_false_iff.mpr c19;subst c19;rw[au (show¬(false=true)by decide)]at H;obtain rfl:=aC H
       go_wp2_with (first|((with_reducible refine bC (f:=90) rfl ?_);refine jz (some 54) rfl rfl Tryz.func90 (by kernel_rfl) rfl #[.int .i64 (wrap64 (Int.tdiv (I) 4))] rfl (by(try simp only[List.map_toArray,List.map_cons,List.map_nil]);first|done|(simp only[F];rfl)|rfl|(simp only[List.length_drop,List.length_take];rfl)) ?_;(with_reducible refine(cy.c (wrap64 (Int.tdiv (I) 4)) false _ ap.out).mono ?_);rintro e w' ⟨rfl,⟨nd,rfl⟩⟩;refine⟨_,rfl,?_⟩))
       go_ret;exact⟨by first|rfl|(simp[dL,dM]<;>rfl)|(simp only[←F];first|rfl|(simp[dL,dM]<;>rfl))|(simp[*,dL,dM]<;>rfl),oB u⟩
     ·rw[au c16]at H;have aN:(a1==2)=false:=beq_eq_false_iff_ne.mpr c16;have aO:(a1 != 2)=true:=bne_iff_ne.mpr c16;by_cases c20:a1=3
      ·rw[aq c20]at H;have aP:(a1==3)=true:=beq_iff_eq.mpr c20;have aQ:(a1 != 3)=false:=bne_eq_false_iff_eq.mpr c20;clear c20;replace H:=az H;obtain⟨aT,aw,H⟩:=H
       (try dsimp only at H)
       have av:=A_ aw;clear aw;by_cases U:aT=true
       ·subst U;rw[aq rfl]at H;obtain rfl:=aC H
        go_wp2_with (first|((with_reducible refine bC (f:=90) rfl ?_);refine gL (some 54) Tryz.func90 #[.int .i64 (wrap64 (2*a0))] ?_;(with_reducible refine(cy.c (wrap64 (2*a0)) true _ av.out).mono ?_);rintro e w' ⟨rfl,⟨nd,rfl⟩⟩;refine⟨_,rfl,?_⟩))
        go_ret;exact⟨eR,oB u⟩
       ·replace U:=Bool.eq_false_iff.mpr U;subst U;rw[au (show¬(false=true)by decide)]at H;obtain rfl:=aC H
        go_wp2_with (first|((with_reducible refine bC (f:=90) rfl ?_);refine gL (some 54) Tryz.func90 #[.int .i64 (wrap64 (2*a0))] ?_;(with_reducible refine(cy.c (wrap64 (2*a0)) false _ av.out).mono ?_);rintro e w' ⟨rfl,⟨nd,rfl⟩⟩;refine⟨_,rfl,?_⟩))
        go_ret;exact⟨eR,oB u⟩
      ·rw[au c20]at H;have aP:(a1==3)=false:=beq_eq_false_iff_ne.mpr c20;have aQ:(a1 != 3)=true:=bne_iff_ne.mpr c20;by_cases z:a1=4
       ·rw[aq z]at H;have aR:(a1==4)=true:=beq_iff_eq.mpr z;have aS:(a1 != 4)=false:=bne_eq_false_iff_eq.mpr z;clear z;replace H:=az H;obtain⟨aU,aD,H⟩:=H
        (try dsimp only at H)
        have aB:=A_ aD;clear aD;by_cases V:aU=true
        ·subst V;rw[aq rfl]at H;obtain rfl:=aC H
         go_wp2_with (first|((with_reducible refine bC (f:=90) rfl ?_);refine gL (some 54) Tryz.func90 #[.int .i64 (wrap64 (Int.tdiv a0 2))] ?_;(with_reducible refine(cy.c (wrap64 (Int.tdiv a0 2)) true _ aB.out).mono ?_);rintro e w' ⟨rfl,⟨nd,rfl⟩⟩;refine⟨_,rfl,?_⟩))
         go_ret;exact⟨eR,oB u⟩
        ·replace V:=Bool.eq_false_iff.mpr V;subst V;rw[au (show¬(false=true)by decide)]at H;obtain rfl:=aC H
         go_wp2_with (first|((with_reducible refine bC (f:=90) rfl ?_);refine gL (some 54) Tryz.func90 #[.int .i64 (wrap64 (Int.tdiv a0 2))] ?_;(with_reducible refine(cy.c (wrap64 (Int.tdiv a0 2)) false _ aB.out).mono ?_);rintro e w' ⟨rfl,⟨nd,rfl⟩⟩;refine⟨_,rfl,?_⟩))
         go_ret;exact⟨eR,oB u⟩
       ·rw[au z]at H;have aR:(a1==4)=false:=beq_eq_false_iff_ne.mpr z;have aS:(a1 != 4)=true:=bne_iff_ne.mpr z;replace H:=az H;obtain⟨aV,aF,H⟩:=H
        (try dsimp only at H)
        have aE:=A_ aF;clear aF;by_cases X:aV=true
        ·subst X;rw[aq rfl]at H;obtain rfl:=aC H
         go_wp2_with (first|((with_reducible refine bC (f:=90) rfl ?_);refine gL (some 54) Tryz.func90 #[.int .i64 0] ?_;(with_reducible refine(cy.c 0 true _ aE.out).mono ?_);rintro e w' ⟨rfl,⟨nd,rfl⟩⟩;refine⟨_,rfl,?_⟩))
         go_ret;exact⟨eR,oB u⟩
        ·replace X:=Bool.eq_false_iff.mpr X;subst X;rw[au (show¬(false=true)by decide)]at H;obtain rfl:=aC H
         go_wp2_with (first|((with_reducible refine bC (f:=90) rfl ?_);refine gL (some 54) Tryz.func90 #[.int .i64 0] ?_;(with_reducible refine(cy.c 0 false _ aE.out).mono ?_);rintro e w' ⟨rfl,⟨nd,rfl⟩⟩;refine⟨_,rfl,?_⟩))
         go_ret;exact⟨eR,oB u⟩
def e5.f (k:Nat) (u:List (ai)) (F:Int) (z:List Int) (a1:Int):Option (Int):=if 0≤a1 then(if a1<(u.length:Int)then(if 0≤((af u a1).f0)then(if((af u a1).f0)<(z.length:Int)then((dx.f k (rd z ((af u a1).f0)) ((af u a1).f2) ((af u a1).f3)).bind fun D=>(some D))else(none))else(none))else(none))else(none)
def e5.T2:Bool×List (List Nat×List Nat):=(true,[([],[]),([0],[0]),([],[]),([2],[2]),([1,3],[1,3]),([4],[4]),([],[]),([6],[6]),([],[]),([8],[8]),([5,7,9],[5,7,9]),([10,10,0,1,2,3,4,5,6,7,8,9,10],[10])])
def e5.B2:List Nat:=[0,1,0,4,15,31,0,64,0,256,1023,2047]
theorem e5.p8:a6 .any (opsOf Tryz.f121 2)=e5.T2:=by kernel_rfl
theorem e5.pq:bT e5.T2.2 e5.B2=true:=by kernel_rfl
theorem e5.c (k:Nat) (ar:Option Addr) (ah:Nat) (u:List (ai)) (ad:Int) (am:Option Addr) (aj:Nat) (I:List Int) (a1:Int) (r:Int) (w:World) (aM:Kd.C aU w ar u.length u) (aI:u.length≤ah) (aN:Kd.C (Kd.int .i64) w am I.length I) (aL:I.length≤aj) (h:e5.f k u ad I a1=some r):
  Calls Tryz.prog 121 #[.agg #[.slice ar u.length ah,.int .i64 ad,.slice am I.length aj],.int .i64 a1] w fun e w'=>e= .returned (.int .i64 r)∧Below w.heap.size w w':=by
 have bH:=Tryz.underlying34;have bF:=Tryz.underlying112;have aY:=A_ aM;have bc:=A_ aI;clear aM aI;have a0:=A_ aN;have bd:=A_ aL;clear aN aL;have z:=A_ (Below.refl w.heap.size w);have H:(if 0≤a1 then(if a1<(u.length:Int)then(if 0≤((af u a1).f0)then(if((af u a1).f0)<(I.length:Int)then((dx.f k (rd I ((af u a1).f0)) ((af u a1).f2) ((af u a1).f3)).bind fun aE=>(some aE))else(none))else(none))else(none))else(none))=some r:=h;clear h;by_cases c3:0≤a1
 ·rw[aq c3]at H;have be:decide (0≤a1)=true:=ag c3;clear c3;by_cases c4:a1<(u.length:Int)
  ·rw[aq c4]at H;have bf:decide (a1<(u.length:Int))=true:=ag c4;clear c4;by_cases c5:0≤((af u a1).f0)
   ·rw[aq c5]at H;have bg:decide (0≤((af u a1).f0))=true:=ag c5;clear c5;by_cases c6:((af u a1).f0)<(I.length:Int)
    ·rw[aq c6]at H;have bh:decide (((af u a1).f0)<(I.length:Int))=true:=ag c6;clear c6;replace H:=az H;obtain⟨aE,aF,H⟩:=H
     (try dsimp only at H)
     have aX:=A_ aF;clear aF;obtain rfl:=aC H;go_enter Tryz.func121,Tryz.ntmps121
     try go_wp2_with (first|((with_reducible refine aJ (N:=2) rfl ?_);refine bX (N:=2) (cs:= #[.slice ar u.length ah,.int .i64 ad,.slice am I.length aj]) (t:=34) ?_;intro X hg bK ak hb;have J:=A_ (bn (oB z) hb);have O:=A_ (ak);have U:=A_ ((by rw[hg];exact(bm (oB z)):w.heap.size≤X));have al:=A_ ((by rw[hg];exact(bm (oB z)):w.heap.size≤X));clear z;have z:=J;have D:=O;have a9:=U;have a6:=al;clear J O U al hb ak hg;have bq:=cz D 0;have br:=cz D 1;have bs:=cz D 2;have bA:=aK D.out 0;have bB:=aK D.out 1;have bC:=aK D.out 2;have av:0≤(a1:Int):=oD;have aB:a1<(u.length:Int):=oD;obtain⟨aG,a3,aP,aQ,aR,aS⟩:=dU aY.out a1 av aB;cases a3;replace aP:=hW z aP;replace aQ:=hW z aQ;replace aR:=hW z aR;replace aS:=hW z aS;replace av:=ax av;replace aB:=ax aB)|((with_reducible refine aJ (N:=5) rfl ?_);refine bX (N:=5) (cs:= #[.int .i64 0,.int .i64 0,.int .i64 0,.int .i64 0]) (t:=112) ?_;intro G hg ap ak hb;have J:=A_ (bb D hb);have O:=A_ (bn (oB z) hb);have U:=A_ (ak);have al:=A_ ((by rw[hg];exact(bm (oB z)):w.heap.size≤G));have aT:=A_ ((by rw[hg];exact(bm (oB z)):w.heap.size≤G));have aV:=A_ (nL D hg);have aW:=A_ (nG D hg);clear D z;have D:=J;have z:=O;have F:=U;have a_:=al;have a7:=aT;have Z:=aV;have a2:=aW;clear J O U al aT aV aW hb ak hg;have bD:=a2.out;have bE:=Z.out;have bk:=cz F 0;have bl:=cz F 1;have bo:=cz F 2;have bp:=cz F 3;have bt:=aK F.out 0;have bv:=aK F.out 1;have bw:=aK F.out 2;have bx:=aK F.out 3))
     have J:ae (((((ap.setCell ⟨G,0,none⟩ (.int .i64 ((af u a1).f0))).setCell ⟨G,1,none⟩ (.int .i64 ((af u a1).f1))).setCell ⟨G,2,none⟩ (.int .i64 ((af u a1).f2))).setCell ⟨G,3,none⟩ (.int .i64 ((af u a1).f3))).heap[X]? =some (.cells #[.slice (some aG) u.length ah,.int .i64 ad,.slice am I.length aj] 34 (0,0))):=⟨by(with_reducible repeat(first|refine bG ?_ _|refine bz ?_|refine bu ?_ _));refine fF ?_ Z.out _;(with_reducible repeat(first|refine bG ?_ _|refine bz ?_|refine bu ?_ _));refine fF ?_ Z.out _;(with_reducible repeat(first|refine bG ?_ _|refine bz ?_|refine bu ?_ _));refine fF ?_ Z.out _;(with_reducible repeat(first|refine bG ?_ _|refine bz ?_|refine bu ?_ _));refine fF ?_ Z.out _;(with_reducible repeat(first|refine bG ?_ _|refine bz ?_|refine bu ?_ _));exact D.out⟩;have O:ae (((((ap.setCell ⟨G,0,none⟩ (.int .i64 ((af u a1).f0))).setCell ⟨G,1,none⟩ (.int .i64 ((af u a1).f1))).setCell ⟨G,2,none⟩ (.int .i64 ((af u a1).f2))).setCell ⟨G,3,none⟩ (.int .i64 ((af u a1).f3))).heap[G]? =some (.cells #[.int .i64 ((af u a1).f0),.int .i64 ((af u a1).f1),.int .i64 ((af u a1).f2),.int .i64 ((af u a1).f3)] 112 (0,0))):=⟨by(with_reducible repeat(first|refine bG ?_ _|refine bz ?_|refine bu ?_ _));refine cr (cs:= #[.int .i64 ((af u a1).f0),.int .i64 ((af u a1).f1),.int .i64 ((af u a1).f2),.int .i64 0]) ?_ 3 _ rfl;(with_reducible repeat(first|refine bG ?_ _|refine bz ?_|refine bu ?_ _));refine cr (cs:= #[.int .i64 ((af u a1).f0),.int .i64 ((af u a1).f1),.int .i64 0,.int .i64 0]) ?_ 2 _ rfl;(with_reducible repeat(first|refine bG ?_ _|refine bz ?_|refine bu ?_ _));refine cr (cs:= #[.int .i64 ((af u a1).f0),.int .i64 0,.int .i64 0,.int .i64 0]) ?_ 1 _ rfl;(with_reducible repeat(first|refine bG ?_ _|refine bz ?_|refine bu ?_ _));refine cr (cs:= #[.int .i64 0,.int .i64 0,.int .i64 0,.int .i64 0]) ?_ 0 _ rfl;(with_reducible repeat(first|refine bG ?_ _|refine bz ?_|refine bu ?_ _));exact F.out⟩;have U:ae (Below w.heap.size w ((((ap.setCell ⟨G,0,none⟩ (.int .i64 ((af u a1).f0))).setCell ⟨G,1,none⟩ (.int .i64 ((af u a1).f1))).setCell ⟨G,2,none⟩ (.int .i64 ((af u a1).f2))).setCell ⟨G,3,none⟩ (.int .i64 ((af u a1).f3)))):=⟨oB z⟩
     (try clear D)
     (try clear F)
     (try clear z)
     generalize ((((ap.setCell ⟨G,0,none⟩ (.int .i64 ((af u a1).f0))).setCell ⟨G,1,none⟩ (.int .i64 ((af u a1).f1))).setCell ⟨G,2,none⟩ (.int .i64 ((af u a1).f2))).setCell ⟨G,3,none⟩ (.int .i64 ((af u a1).f3)))=a5 at J O U ⊢;have D:=J;have F:=O;have z:=U;clear J O U;have J:=A_ (bz D.out);have O:=A_ (bz F.out);have U:=A_ (cg z.out);clear D F z;have D:=J;have F:=O;have z:=U;clear J O U;have aw:0≤(((af u a1).f0):Int):=oD;have aD:((af u a1).f0)<(I.length:Int):=oD;obtain⟨aH,a4,ao⟩:=Kd.dV a0.out ((af u a1).f0) aw aD;have aO:=ao;cases a4;replace ao:=hW z ao;replace aw:=ax aw;replace aD:=ax aD;refine fB (n:=12) (S:=fun w'=>w'.cell? ⟨X,0,none⟩=some (.slice (some aG) u.length ah)∧w'.cell? ⟨X,1,none⟩=some (.int .i64 ad)∧w'.cell? ⟨X,2,none⟩=some (.slice (some aH) I.length aj)∧w'.cell? ⟨G,0,none⟩=some (.int .i64 ((af u a1).f0))∧w'.cell? ⟨G,1,none⟩=some (.int .i64 ((af u a1).f1))∧w'.cell? ⟨G,2,none⟩=some (.int .i64 ((af u a1).f2))∧w'.cell? ⟨G,3,none⟩=some (.int .i64 ((af u a1).f3))∧w'.cell? (aH.add (((af u a1).f0)).toNat)=some (.int .i64 (rd I ((af u a1).f0)))) (ds:=[]) #[false,false,false,false,false,false,false,false,false,false,false,false] (by kernel_rfl) rfl rfl ⟨cz D 0,cz D 1,cz D 2,cz F 0,cz F 1,cz F 2,cz F 3,(hW z aO)⟩ (fun hHeld=> ?_);refine fU e5.p8 e5.pq (fun V Y=> ?_);generalize a5.drew=bI at D F z ao hHeld ⊢;refine pA 0 (some 11) V.out ?_;refine pA 2 (some 13) V.out ?_;refine pA 6 (some 17) V.out ?_;refine pA 8 (some 19) V.out ?_;refine pT 1 (some 12) V.out Y.out hHeld ?_;refine pT 3 (some 14) V.out Y.out hHeld ?_;refine pA 4 (some 15) V.out ?_;refine pT 5 (some 16) V.out Y.out hHeld ?_;refine pT 7 (some 18) V.out Y.out hHeld ?_;refine pT 9 (some 20) V.out Y.out hHeld ?_;refine dO (i:=10) (N:=some 21) #[true,true,true,true,true,true,true,true,true,true,true,false] rfl rfl (dn V.out (by kernel_rfl)) (by decide) (fun K hK=> ?_);refine df Tryz.func91 (by kernel_rfl) rfl #[.int .i64 (rd I ((af u a1).f0)),.int .i64 ((af u a1).f2),.int .i64 ((af u a1).f3)] (by rfl) rfl rfl (by(try simp only[List.map_toArray,List.map_cons,List.map_nil]);first|done|rfl|(simp only[List.length_drop,List.length_take];rfl)) ?_
     with_reducible refine(dx.c k (rd I ((af u a1).f0)) ((af u a1).f2) ((af u a1).f3) aE _ aX.out).mono ?_
     rintro e bJ ⟨rfl,hb⟩;refine⟨_,rfl,?_⟩;have J:=A_ (bb D hb);have O:=A_ (bb F hb);have U:=A_ (bn (oB z) hb);clear D F z;have D:=J;have F:=O;have z:=U;clear J O U
     (try clear hb)
     (try clear hb2)
     (try clear hk)
     (try clear hi)
     refine hK.out _ _ ⟨cz D 0,cz D 1,cz D 2,cz F 0,cz F 1,cz F 2,cz F 3,(hW z aO)⟩ (fun hHeld=> ?_);clear hK K;refine dX (a':= ?_) ?_ ?_;rotate_left
     ·show Act.put _ (some 21) _=_;simp only[Act.put,List.setIfInBounds_toArray,List.set_cons_zero,List.set_cons_succ,cd,ct];rfl
     refine pA 11 (some 4) V.out ?_;refine eW (fp V.out (by kernel_rfl)) ?_
     try go_wp2
     go_ret;exact⟨eR,oB z⟩
    ·rw[au c6]at H;exact absurd H (by simp)
   ·rw[au c5]at H;exact absurd H (by simp)
  ·rw[au c4]at H;exact absurd H (by simp)
 ·rw[au c3]at H;exact absurd H (by simp)
def kg.f (l0:List (ai)):Option ((List (ai))):=(some (([]:List (ai)):List (ai))).bind fun u=>(if u.length+l0.length<4398046511104 then(some (u++l0))else(none))
theorem kg.c (U:Option Addr) (c0:Nat) (l0:List (ai)) (r:List (ai)) (w:World) (Y:Kd.C aU w U l0.length l0) (hc0:l0.length≤c0) (h:kg.f l0=some r):
  Calls Tryz.prog 131 #[.slice U l0.length c0] w fun e w'=>∃Z:Value,e= .returned (Z)∧Kd.R aU 112 w' w.heap.size (fun _=>True) Z r∧Below w.heap.size w w':=by
 have af:=A_ Y;have ap:=A_ hc0;clear Y hc0;have u:=A_ (Below.refl w.heap.size w);have H:((some (([]:List (ai)):List (ai))).bind fun z=>(if z.length+l0.length<4398046511104 then(some (z++l0))else(none)))=some r:=h;clear h;obtain⟨z,G⟩:∃O:List (ai),O=(([]:List (ai))):=⟨_,rfl⟩;replace H:(if z.length+l0.length<4398046511104 then(some (z++l0))else(none))=some r:=by first|(rw[G];with_reducible exact H)|(have D:=(aA _ _).symm.trans H;rw[G];with_reducible exact D)|(have D:=(aA _ _).symm.trans H;with_reducible exact D)|with_reducible exact H|(rw[G];exact H)|exact H
 have X:=A_ G;clear G;by_cases c2:z.length+l0.length<4398046511104
 ·rw[aq c2]at H;have ah:=A_ c2;clear c2;obtain⟨ao,I⟩:∃O:List (ai),O=(z++l0):=⟨_,rfl⟩;replace H:(some ao)=some r:=by first|(rw[I];with_reducible exact H)|(have D:=(aA _ _).symm.trans H;rw[I];with_reducible exact D)|(have D:=(aA _ _).symm.trans H;with_reducible exact D)|with_reducible exact H|(rw[I];exact H)|exact H
  have aj:=A_ I;clear I;obtain rfl:=aC H;go_enter Tryz.func131,Tryz.ntmps131
  go_wp2_with (first|((with_reducible refine aJ (N:=3) rfl ?_);refine Kd.fE aU _ 112 ?hg (N:=3) ?hd (xs:=([]:List (ai))) (inner:=[]) (ok:=fun _=>True) (bN:=fun _=>True) ?hr ?hp (fun _ hk=>hk) trivial (Below.refl _ _) (Nat.le_refl _) (by simp) ?_;(case hd=>rfl);(case hg=>rfl);(case hr=>first|(go_simp;done)|(go_simp;rfl));(case hp=>exact(aY.none _ _));intro am w3 F hb ak al;clear ak al;(first|rw[←X.out]at F|(simp only[Int.reduceToNat]at F;rw[←X.out]at F));have J:=A_ (Kd.dg F (bm (oB u)));have K:=A_ (bn (oB u) hb);clear u;have V:=J;have u:=K;clear J K hb F)|((with_reducible refine iF (b:= .append) (xs:= #[.tmp 3,.tmp 4]) rfl ?_);at_builtin;refine Kd.mA aU (w0:=w) w.heap.size rfl (.tmp 3) (.tmp 4) 32 112 (.agg #[(.int .i64 0),(.int .i64 0),(.int .i64 0),(.int .i64 0)]) 32 rfl Tryz.underlying32 mS rfl (by decide) (by omega) am z l0 _ _ _ (fun _=>True) (fun _=>False) rfl rfl ?aO ?aR (fun _ _ h=>h) (fun _ h=>h.elim) ?aF ?aB ?aS ?aL ?_;(case aR=>exact bP af.out);(case aB=>exact(oB u));(case aF=>exact(fun _ _=>trivial));(case aO=>exact(oR V));(case aS=>exact(bm (oB u)));(case aL=>have:=ah.out;omega);intro ar av ho hb hg hat;rw[←aj.out]at ho;have J:=A_ (hb);have K:=A_ (ho);clear u V;have u:=J;have ad:=K;clear J K ho hb hg hat))
  go_ret;exact⟨_,eR,oR ad,oB u⟩
 ·rw[au c2]at H;exact absurd H (by simp)
def eC.f (F:List (ai)) (D:Int) (u:List Int):Option ((List (ai))×Int×List Int):=(kg.f F).bind fun G=>((some (([]:List Int):List Int)).bind fun z=>(if z.length+u.length<17592186044416 then(some (G,D,(z++u)))else(none)))
def eC.T1:Bool×List (List Nat×List Nat):=(true,[([],[]),([0],[0]),([1],[1]),([],[]),([3],[3]),([],[]),([],[]),([6],[6]),([5,7,2],[5,7]),([2,4,8],[2,4,8]),([9,8,0,1,2,3,4,5,6,7,8,9],[9])])
def eC.B1:List Nat:=[0,1,3,0,8,0,0,64,231,511,1023]
theorem eC.np:a6 .any (opsOf Tryz.f106 1)=eC.T1:=by kernel_rfl
theorem eC.mE:bT eC.T1.2 eC.B1=true:=by kernel_rfl
theorem eC.c (ak:Option Addr) (al:Nat) (U:List (ai)) (V:Int) (ao:Option Addr) (ap:Nat) (O:List Int) (r1:List (ai)) (r2:Int) (r3:List Int) (w:World) (bB:Kd.C aU w ak U.length U) (bx:U.length≤al) (bC:Kd.C (Kd.int .i64) w ao O.length O) (bA:O.length≤ap) (h:eC.f U V O=some (r1,r2,r3)):
  Calls Tryz.prog 106 #[.agg #[.slice ak U.length al,.int .i64 V,.slice ao O.length ap]] w fun e w'=>∃bF bH:Value,e= .returned (.agg #[bF,.int .i64 r2,bH])∧Kd.R aU 112 w' w.heap.size (fun _=>True) bF r1∧Kd.R (Kd.int .i64) 3 w' w.heap.size (fun _=>True) bH r3∧Below w.heap.size w w':=by
 have b8:=Tryz.underlying34;have bl:=A_ bB;have bh:=A_ bx;clear bB bx;have bI:=A_ bC;have bU:=A_ bA;clear bC bA;have z:=A_ (Below.refl w.heap.size w);have H:((kg.f U).bind fun ad=>((some (([]:List Int):List Int)).bind fun am=>(if am.length+O.length<17592186044416 then(some (ad,V,(am++O)))else(none))))=some (r1,r2,r3):=h;clear h;replace H:=az H;obtain⟨ad,be,H⟩:=H
 (try dsimp only at H)
 have A2:=A_ be;clear be;obtain⟨am,aT⟩:∃bd:List Int,bd=(([]:List Int)):=⟨_,rfl⟩;replace H:(if am.length+O.length<17592186044416 then(some (ad,V,(am++O)))else(none))=some (r1,r2,r3):=by first|(rw[aT];with_reducible exact H)|(have av:=(aA _ _).symm.trans H;rw[aT];with_reducible exact av)|(have av:=(aA _ _).symm.trans H;with_reducible exact av)|with_reducible exact H|(rw[aT];exact H)|exact H
 have aX:=A_ aT;clear aT;by_cases c3:am.length+O.length<17592186044416
 ·rw[aq c3]at H;have bJ:=A_ c3;clear c3;obtain⟨a0,aV⟩:∃bd:List Int,bd=(am++O):=⟨_,rfl⟩;replace H:(some (ad,V,a0))=some (r1,r2,r3):=by first|(rw[aV];with_reducible exact H)|(have av:=(aA _ _).symm.trans H;rw[aV];with_reducible exact av)|(have av:=(aA _ _).symm.trans H;with_reducible exact av)|with_reducible exact H|(rw[aV];exact H)|exact H
  have bK:=A_ aV;clear aV;simp only[Option.some.injEq,Prod.mk.injEq]at H;obtain⟨rfl,rfl,rfl⟩:=H;go_enter Tryz.func106,Tryz.ntmps106
  try go_wp2_with (first|((with_reducible refine aJ (N:=1) rfl ?_);refine bX (N:=1) (cs:= #[.slice ak U.length al,.int .i64 V,.slice ao O.length ap]) (t:=34) ?_;intro Z hg w4 aM hb;have F:=A_ (bn (oB z) hb);have G:=A_ (aM);have I:=A_ ((by rw[hg];exact(bm (oB z)):w.heap.size≤Z));have J:=A_ ((by rw[hg];exact(bm (oB z)):w.heap.size≤Z));clear z;have z:=F;have u:=G;have bS:=I;have bQ:=J;clear F G I J hb aM hg)|((with_reducible refine aJ (N:=2) rfl ?_);refine bX (N:=2) (cs:= #[.slice none 0 0,.int .i64 0,.slice none 0 0]) (t:=34) ?_;intro aj hg bM aM hb;have F:=A_ (bb u hb);have G:=A_ (bn (oB z) hb);have I:=A_ (aM);have J:=A_ ((by rw[hg];exact(bm (oB z)):w.heap.size≤aj));have X:=A_ ((by rw[hg];exact(bm (oB z)):w.heap.size≤aj));have bD:=A_ (nL u hg);have bE:=A_ (nG u hg);clear u z;have u:=F;have z:=G;have D:=I;have bT:=J;have bR:=X;have aw:=bD;have a3:=bE;clear F G I J X bD bE hb aM hg))
  have F:=A_ (bz u.out);have G:=A_ (bz D.out);have I:=A_ (cg z.out);clear u D z;have u:=F;have D:=G;have z:=I;clear F G I;refine fB (n:=11) (S:=fun w'=>w'.cell? ⟨Z,0,none⟩=some (.slice ak U.length al)∧w'.cell? ⟨Z,1,none⟩=some (.int .i64 V)∧w'.cell? ⟨Z,2,none⟩=some (.slice ao O.length ap)) (ds:=[]) #[false,false,false,false,false,false,false,false,false,false,false] (by kernel_rfl) rfl rfl ⟨cz u 0,cz u 1,cz u 2⟩ (fun hHeld=> ?_);refine fU eC.np eC.mE (fun Y a2=> ?_);generalize bM.drew=b' at u D z hHeld ⊢;refine pA 0 (some 3) Y.out ?_;refine pA 3 (some 6) Y.out ?_;refine pA 6 (some 9) Y.out ?_;refine pT 1 (some 4) Y.out a2.out hHeld ?_;refine pT 4 (some 7) Y.out a2.out hHeld ?_;refine pT 7 (some 10) Y.out a2.out hHeld ?_;refine wC (σ:=Value×Value) 3 #[true,true,true,true,true,true,true,true,false,false,false] (fun s_=>[(5,s_.1),(8,s_.2)]) (fun s_ w'=>(w'.cell? ⟨Z,0,none⟩=some (.slice ak U.length al)∧w'.cell? ⟨Z,1,none⟩=some (.int .i64 V)∧w'.cell? ⟨Z,2,none⟩=some (.slice ao O.length ap))∧(Kd.R aU 112 w' w.heap.size (fun _=>True) s_.1 ad)∧(Kd.R (Kd.int .i64) 3 w' w.heap.size (fun _=>True) s_.2 am)∧(w'.heap[Z]? =some (.cells #[.slice ak U.length al,.int .i64 V,.slice ao O.length ap] 34 (0,0)))∧(w'.heap[aj]? =some (.cells #[.slice none 0 0,.int .i64 0,.slice none 0 0] 34 (0,0)))∧(Below w.heap.size w w')) ?_ ?_;rotate_left
  ·intro bw;refine tD (i:=2) (j:=5) (Ni:=some 5) (Nj:=some 8) #[true,true,true,true,true,false,true,true,false,false,false] #[true,true,false,true,true,true,true,true,false,false,false] rfl rfl rfl rfl (tE Y.out (by kernel_rfl)) (by decide) (by decide) (fun K hK=> ?_) (fun K hK=> ?_)
   ·skip
    refine df Tryz.func131 (by kernel_rfl) rfl #[.slice ak U.length al] (by rfl) rfl rfl (by(try simp only[List.map_toArray,List.map_cons,List.map_nil]);first|done|rfl|(simp only[List.length_drop,List.length_take];rfl)) ?_
    with_reducible refine(kg.c _ _ U ad _ ?bc ?bf A2.out).mono ?_
    (case bc=>exact bP bl.out)
    (case bf=>exact bh.out)
    rintro e w7 ⟨aW,rfl,aN,hb⟩;refine⟨_,rfl,?_⟩;have F:=A_ (Kd.dg aN (bm (oB z)));have G:=A_ (bb u hb);have I:=A_ (bb D hb);have J:=A_ (bn (oB z) hb);clear u D z;have af:=F;have u:=G;have D:=I;have z:=J;clear F G I J
    (try clear hb)
    (try clear hb2)
    (try clear hk)
    (try clear hi)
    (try clear aN)
    refine hK.out _ _ ⟨cz u 0,cz u 1,cz u 2⟩ (fun hHeld=> ?_);clear hK K;refine dX (a':= ?_) ?_ ?_;rotate_left
    ·show Act.put _ (some 5) _=_;simp only[Act.put,List.setIfInBounds_toArray,List.set_cons_zero,List.set_cons_succ,cd,ct];rfl
    refine dO (i:=5) (N:=some 8) #[true,true,true,true,true,true,true,true,false,false,false] rfl rfl (dn Y.out (by kernel_rfl)) (by decide) (fun K hK=> ?_);refine Kd.nK (Kd.int .i64) _ 3 ?hg (N:=8) ?hd (xs:=([]:List Int)) (inner:=[]) (ok:=fun _=>True) (bN:=fun _=>True) ?hr ?hp (fun _ hk=>hk) trivial (Below.refl _ _) (Nat.le_refl _) (by simp) ?_;(case hd=>rfl);(case hg=>rfl);(case hr=>first|(go_simp;done)|(go_simp;rfl));(case hp=>exact(aY.none _ _));intro aD ca aQ hb a9 a_;clear a9 a_
    (first|rw[←aX.out]at aQ|(simp only[Int.reduceToNat]at aQ;rw[←aX.out]at aQ))
    have F:=A_ (Kd.dG (oR af) hb);have G:=A_ (Kd.dg aQ (bm (oB z)));have I:=A_ (bb u hb);have J:=A_ (bb D hb);have X:=A_ (bn (oB z) hb);clear af u D z;have af:=F;have ah:=G;have u:=I;have D:=J;have z:=X;clear F G I J X hb aQ;refine hK.out _ _ ⟨cz u 0,cz u 1,cz u 2⟩ (fun hHeld=> ?_);clear hK K;refine dX (a':= ?_) ?_ ?_;rotate_left
    ·show Act.put _ (some 8) _=_;simp only[Act.put,List.setIfInBounds_toArray,List.set_cons_zero,List.set_cons_succ,cd,ct];rfl
    exact dX (by simp only[l_,Act.put,List.setIfInBounds_toArray,List.set_cons_zero,List.set_cons_succ]) (bw (aW,aD) _ ⟨hHeld,(oR af),(oR ah),(oK u),(oK D),(oB z)⟩)
   ·skip
    refine Kd.nK (Kd.int .i64) _ 3 ?hg (N:=8) ?hd (xs:=([]:List Int)) (inner:=[]) (ok:=fun _=>True) (bN:=fun _=>True) ?hr ?hp (fun _ hk=>hk) trivial (Below.refl _ _) (Nat.le_refl _) (by simp) ?_;(case hd=>rfl);(case hg=>rfl);(case hr=>first|(go_simp;done)|(go_simp;rfl));(case hp=>exact(aY.none _ _));intro aD w7 aP hb a9 a_;clear a9 a_
    (first|rw[←aX.out]at aP|(simp only[Int.reduceToNat]at aP;rw[←aX.out]at aP))
    have F:=A_ (Kd.dg aP (bm (oB z)));have G:=A_ (bb u hb);have I:=A_ (bb D hb);have J:=A_ (bn (oB z) hb);clear u D z;have ah:=F;have u:=G;have D:=I;have z:=J;clear F G I J hb aP;refine hK.out _ _ ⟨cz u 0,cz u 1,cz u 2⟩ (fun hHeld=> ?_);clear hK K;refine dX (a':= ?_) ?_ ?_;rotate_left
    ·show Act.put _ (some 8) _=_;simp only[Act.put,List.setIfInBounds_toArray,List.set_cons_zero,List.set_cons_succ,cd,ct];rfl
    refine dO (i:=2) (N:=some 5) #[true,true,true,true,true,true,true,true,false,false,false] rfl rfl (dn Y.out (by kernel_rfl)) (by decide) (fun K hK=> ?_);refine df Tryz.func131 (by kernel_rfl) rfl #[.slice ak U.length al] (by rfl) rfl rfl (by(try simp only[List.map_toArray,List.map_cons,List.map_nil]);first|done|rfl|(simp only[List.length_drop,List.length_take];rfl)) ?_
    with_reducible refine(kg.c _ _ U ad _ ?bc ?bf A2.out).mono ?_
    (case bc=>exact bP bl.out)
    (case bf=>exact bh.out)
    rintro e cb ⟨aW,rfl,aN,hb⟩;refine⟨_,rfl,?_⟩;have F:=A_ (Kd.dG (oR ah) hb);have G:=A_ (Kd.dg aN (bm (oB z)));have I:=A_ (bb u hb);have J:=A_ (bb D hb);have X:=A_ (bn (oB z) hb);clear ah u D z;have ah:=F;have af:=G;have u:=I;have D:=J;have z:=X;clear F G I J X
    (try clear hb)
    (try clear hb2)
    (try clear hk)
    (try clear hi)
    (try clear aN)
    refine hK.out _ _ ⟨cz u 0,cz u 1,cz u 2⟩ (fun hHeld=> ?_);clear hK K;refine dX (a':= ?_) ?_ ?_;rotate_left
    ·show Act.put _ (some 5) _=_;simp only[Act.put,List.setIfInBounds_toArray,List.set_cons_zero,List.set_cons_succ,cd,ct];rfl
    exact dX (by simp only[l_,Act.put,List.setIfInBounds_toArray,List.set_cons_zero,List.set_cons_succ]) (bw (aW,aD) _ ⟨hHeld,(oR af),(oR ah),(oK u),(oK D),(oB z)⟩)
  rintro⟨aW,aD⟩ ar ⟨bL,bq,br,bs,bt,bv⟩;have F:ae (Kd.R aU 112 ar w.heap.size (fun _=>True) aW ad):=⟨bq⟩;have G:ae (Kd.R (Kd.int .i64) 3 ar w.heap.size (fun _=>True) aD am):=⟨br⟩;have I:ae (ar.heap[Z]? =some (.cells #[.slice ak U.length al,.int .i64 V,.slice ao O.length ap] 34 (0,0))):=⟨bs⟩;have J:ae (ar.heap[aj]? =some (.cells #[.slice none 0 0,.int .i64 0,.slice none 0 0] 34 (0,0))):=⟨bt⟩;have X:ae (Below w.heap.size w ar):=⟨bv⟩;clear u D z bq br bs bt bv;have af:=F;have ah:=G;have u:=I;have D:=J;have z:=X;clear F G I J X;have hHeld:ar.cell? ⟨Z,0,none⟩=some (.slice ak U.length al)∧ar.cell? ⟨Z,1,none⟩=some (.int .i64 V)∧ar.cell? ⟨Z,2,none⟩=some (.slice ao O.length ap):=bL;refine dX (a':= ?_) ?_ ?_;rotate_left
  ·simp only[l_,Act.put,List.setIfInBounds_toArray,List.set_cons_zero,List.set_cons_succ];rfl
  refine dO (i:=8) (N:=some 11) #[true,true,true,true,true,true,true,true,true,false,false] rfl rfl (dn Y.out (by kernel_rfl)) (by decide) (fun K hK=> ?_);refine Kd.qx (Kd.int .i64) (w0:=w) w.heap.size (by rfl) (.tmp 8) (.tmp 10) 23 3 (.int .i64 0) 8 rfl Tryz.underlying23 info3 rfl (by decide) (by omega) aD am O _ _ _ (fun _=>True) (fun _=>False) rfl rfl ?aO ?aR (fun _ _ h=>h) (fun _ h=>h.elim) ?aF ?aB ?aS ?aL ?_
  (case aR=>exact bP bI.out)
  (case aB=>exact(oB z))
  (case aF=>exact(fun _ _=>trivial))
  (case aO=>exact(oR ah))
  (case aS=>exact(bm (oB z)))
  (case aL=>have:=bJ.out;omega)
  intro b9 b_ ho hb hg hat;rw[←bK.out]at ho;have F:=A_ (bg u hg (Kd.jV ah.out u.out (by decide)));have G:=A_ (bg D hg (Kd.jV ah.out D.out (by decide)));have I:=A_ (Kd.nM (oR af) (Kd.nN (oR ah)) (by decide) hg);have J:=A_ (hb);have X:=A_ (ho);clear u D af z ah;have u:=F;have D:=G;have af:=I;have z:=J;have bk:=X;clear F G I J X ho hb hg hat;obtain⟨a1,a4,bo⟩:=Kd.dz bk.out
  (first|subst bo|(injection bo with aH a5 aI;have a6:=aH.symm;have a7:=aI.symm;clear aH a5 aI;subst a6;subst a7))
  obtain⟨aE,aG,bp⟩:=Kd.dz af.out
  (first|subst bp|(injection bp with aH a5 aI;have a6:=aH.symm;have a7:=aI.symm;clear aH a5 aI;subst a6;subst a7))
  refine hK.out _ _ ⟨cz u 0,cz u 1,cz u 2⟩ (fun hHeld=> ?_);clear hK K;refine dX (a':= ?_) ?_ ?_;rotate_left
  ·show Act.put _ (some 11) _=_;simp only[Act.put,List.setIfInBounds_toArray,List.set_cons_zero,List.set_cons_succ,cd,ct];rfl
  refine pA 9 (some 12) Y.out ?_;refine dO (i:=10) (N:=none) #[true,true,true,true,true,true,true,true,true,true,true] rfl rfl (dn Y.out (by kernel_rfl)) (by decide) (fun K hK=> ?_);have b5:=cz D 0;have bV:=aK D.out 0;have b2:=aw.out;have bZ:=a3.out;have b6:=cz D 1;have bW:=aK D.out 1;have b3:=aw.out;have b0:=a3.out;have b7:=cz D 2;have bY:=aK D.out 2;have b4:=aw.out;have b1:=a3.out;refine mh (w1:= ?_) (by rfl) rfl ?_ ?_;rotate_left
  ·go_simp
   rfl
  refine hK.out _ _ ⟨(cF aw.out hHeld.1),(cF aw.out hHeld.2.1),(cF aw.out hHeld.2.2)⟩ (fun hHeld=> ?_);clear hK K;refine eW (fp Y.out (by kernel_rfl)) ?_
  try go_wp2
  refine bodyPost_ret (results_cell_row rfl _ _ aj 34 #[.slice aE ad.length aG,.int .i64 V,.slice a1 a0.length a4] (0,0) _ rfl (by(with_reducible repeat(first|refine bG ?_ _|refine bz ?_|refine bu ?_ _));refine cr (cs:= #[.slice aE ad.length aG,.int .i64 V,.slice none 0 0]) ?_ 2 _ rfl;(with_reducible repeat(first|refine bG ?_ _|refine bz ?_|refine bu ?_ _));refine cr (cs:= #[.slice aE ad.length aG,.int .i64 0,.slice none 0 0]) ?_ 1 _ rfl;(with_reducible repeat(first|refine bG ?_ _|refine bz ?_|refine bu ?_ _));refine cr (cs:= #[.slice none 0 0,.int .i64 0,.slice none 0 0]) ?_ 0 _ rfl;(with_reducible repeat(first|refine bG ?_ _|refine bz ?_|refine bu ?_ _));exact D.out) Tryz.underlying34 rfl (by kernel_rfl)) rfl ?_;exact⟨_,_,eR,by(with_reducible repeat(first|apply Kd.fg|apply Kd.fX|apply Kd.dH));exact Kd.cJ (Kd.dp (p:=⟨aj,2,none⟩) (Kd.dp (p:=⟨aj,1,none⟩) (Kd.dp (p:=⟨aj,0,none⟩) (Kd.jW af.out D.out (by decide)) (fun _ hk=>hk.2) (.slice aE ad.length aG)) (fun _ hk=>hk.2) (.int .i64 V)) (fun _ hk=>hk.2) (.slice a1 a0.length a4)) (fun _ hk=>trivial),by(with_reducible repeat(first|apply Kd.fg|apply Kd.fX|apply Kd.dH));exact Kd.cJ (Kd.dp (p:=⟨aj,2,none⟩) (Kd.dp (p:=⟨aj,1,none⟩) (Kd.dp (p:=⟨aj,0,none⟩) (Kd.jW bk.out D.out (by decide)) (fun _ hk=>hk.2) (.slice aE ad.length aG)) (fun _ hk=>hk.2) (.int .i64 V)) (fun _ hk=>hk.2) (.slice a1 a0.length a4)) (fun _ hk=>trivial),oB z⟩
 ·rw[au c3]at H;exact absurd H (by simp)
def gu.f (l0:List (ah)):Option ((List (ah))):=(some (([]:List (ah)):List (ah))).bind fun u=>(if u.length+l0.length<4398046511104 then(some (u++l0))else(none))
theorem gu.c (U:Option Addr) (c0:Nat) (l0:List (ah)) (r:List (ah)) (w:World) (Y:Kd.C aT w U l0.length l0) (hc0:l0.length≤c0) (h:gu.f l0=some r):
  Calls Tryz.prog 107 #[.slice U l0.length c0] w fun e w'=>∃Z:Value,e= .returned (Z)∧Kd.R aT 104 w' w.heap.size (fun _=>True) Z r∧Below w.heap.size w w':=by
 have af:=A_ Y;have ap:=A_ hc0;clear Y hc0;have u:=A_ (Below.refl w.heap.size w);have H:((some (([]:List (ah)):List (ah))).bind fun z=>(if z.length+l0.length<4398046511104 then(some (z++l0))else(none)))=some r:=h;clear h;obtain⟨z,G⟩:∃O:List (ah),O=(([]:List (ah))):=⟨_,rfl⟩;replace H:(if z.length+l0.length<4398046511104 then(some (z++l0))else(none))=some r:=by first|(rw[G];with_reducible exact H)|(have D:=(aA _ _).symm.trans H;rw[G];with_reducible exact D)|(have D:=(aA _ _).symm.trans H;with_reducible exact D)|with_reducible exact H|(rw[G];exact H)|exact H
 have X:=A_ G;clear G;by_cases c2:z.length+l0.length<4398046511104
 ·rw[aq c2]at H;have ai:=A_ c2;clear c2;obtain⟨ao,I⟩:∃O:List (ah),O=(z++l0):=⟨_,rfl⟩;replace H:(some ao)=some r:=by first|(rw[I];with_reducible exact H)|(have D:=(aA _ _).symm.trans H;rw[I];with_reducible exact D)|(have D:=(aA _ _).symm.trans H;with_reducible exact D)|with_reducible exact H|(rw[I];exact H)|exact H
  have aj:=A_ I;clear I;obtain rfl:=aC H;go_enter Tryz.func107,Tryz.ntmps107
  go_wp2_with (first|((with_reducible refine aJ (N:=3) rfl ?_);refine Kd.fE aT _ 104 ?hg (N:=3) ?hd (xs:=([]:List (ah))) (inner:=[]) (ok:=fun _=>True) (bN:=fun _=>True) ?hr ?hp (fun _ hk=>hk) trivial (Below.refl _ _) (Nat.le_refl _) (by simp) ?_;(case hd=>rfl);(case hg=>rfl);(case hr=>first|(go_simp;done)|(go_simp;rfl));(case hp=>exact(aY.none _ _));intro am w3 F hb ak al;clear ak al;(first|rw[←X.out]at F|(simp only[Int.reduceToNat]at F;rw[←X.out]at F));have J:=A_ (Kd.dg F (bm (oB u)));have K:=A_ (bn (oB u) hb);clear u;have V:=J;have u:=K;clear J K hb F)|((with_reducible refine iF (b:= .append) (xs:= #[.tmp 3,.tmp 4]) rfl ?_);at_builtin;refine Kd.mA aT (w0:=w) w.heap.size rfl (.tmp 3) (.tmp 4) 35 104 (.agg #[(.int .i64 0),(.int .i64 0),(.int .i64 0),(.int .i64 0)]) 32 rfl Tryz.underlying35 lX rfl (by decide) (by omega) am z l0 _ _ _ (fun _=>True) (fun _=>False) rfl rfl ?aO ?aR (fun _ _ h=>h) (fun _ h=>h.elim) ?aF ?aB ?aS ?aL ?_;(case aR=>exact bP af.out);(case aB=>exact(oB u));(case aF=>exact(fun _ _=>trivial));(case aO=>exact(oR V));(case aS=>exact(bm (oB u)));(case aL=>have:=ai.out;omega);intro ar av ho hb hg hat;rw[←aj.out]at ho;have J:=A_ (hb);have K:=A_ (ho);clear u V;have u:=J;have ad:=K;clear J K ho hb hg hat))
  go_ret;exact⟨_,eR,oR ad,oB u⟩
 ·rw[au c2]at H;exact absurd H (by simp)
def cn.f (a0:Int) (a1:Int) (a2:Int):Option (Bool):=if a0≥a1 then(some (decide (a0≤a2)))else(some false)
theorem cn.c (a0:Int) (a1:Int) (a2:Int) (r:Bool) (w:World) (h:cn.f a0 a1 a2=some r):
  Calls Tryz.prog 88 #[.int .i64 a0,.int .i64 a1,.int .i64 a2] w fun e w'=>e= .returned (.bool r)∧bw w w':=by
 have H:(if a0≥a1 then(some (decide (a0≤a2)))else(some false))=some r:=h;clear h;by_cases c4:a0≥a1
 ·rw[aq c4]at H;have u:decide (a1≤a0)=true:=ag c4;clear c4;obtain rfl:=aC H;go_enter Tryz.func88,Tryz.ntmps88;go_wp2;go_ret;exact⟨eS,by repeat(first|exact bw.refl _|apply bw.step)⟩
 ·rw[au c4]at H;have u:decide (a1≤a0)=false:=ay c4;clear c4;obtain rfl:=aC H;go_enter Tryz.func88,Tryz.ntmps88;go_wp2;go_ret;exact⟨eS,by repeat(first|exact bw.refl _|apply bw.step)⟩
def kf.f (a0:Int) (a1:Int):Option (Int):=(cy.f a0).bind fun u=>(if u=true then((eZ.f a1).bind fun z=>(if z=true then(some (wrap64 (Int.tdiv (wrap64 (a0*(wrap64 (1000+(wrap64 (2*(wrap64 (a1-15)))))))) 1000)))else(some 0)))else(some 0))
theorem kf.c (a0:Int) (a1:Int) (r:Int) (w:World) (h:kf.f a0 a1=some r):
  Calls Tryz.prog 42 #[.int .i64 a0,.int .i64 a1] w fun e w'=>e= .returned (.int .i64 r)∧bw w w':=by
 have H:((cy.f a0).bind fun z=>(if z=true then((eZ.f a1).bind fun D=>(if D=true then(some (wrap64 (Int.tdiv (wrap64 (a0*(wrap64 (1000+(wrap64 (2*(wrap64 (a1-15)))))))) 1000)))else(some 0)))else(some 0)))=some r:=h;clear h;replace H:=az H;obtain⟨z,F,H⟩:=H
 (try dsimp only at H)
 have u:=A_ F;clear F;by_cases c4:z=true
 ·subst c4;rw[aq rfl]at H;replace H:=az H;obtain⟨D,I,H⟩:=H
  (try dsimp only at H)
  have G:=A_ I;clear I;by_cases c6:D=true
  ·subst c6;rw[aq rfl]at H;obtain rfl:=aC H;go_enter Tryz.func42,Tryz.ntmps42
   go_wp2_with (first|((with_reducible refine bC (f:=90) rfl ?_);refine gL (some 6) Tryz.func90 #[.int .i64 a0] ?_;(with_reducible refine(cy.c a0 true _ u.out).mono ?_);rintro e w' ⟨rfl,⟨nd,rfl⟩⟩;refine⟨_,rfl,?_⟩)|(go_at_call 78;(with_reducible refine(eZ.c a1 true _ G.out).mono ?_);rintro e w' ⟨rfl,⟨nd,rfl⟩⟩))
   go_ret;exact⟨eS,by repeat(first|exact bw.refl _|apply bw.step)⟩
  ·replace c6:=Bool.eq_false_iff.mpr c6;subst c6;rw[au (show¬(false=true)by decide)]at H;obtain rfl:=aC H;go_enter Tryz.func42,Tryz.ntmps42
   go_wp2_with (first|((with_reducible refine bC (f:=90) rfl ?_);refine gL (some 6) Tryz.func90 #[.int .i64 a0] ?_;(with_reducible refine(cy.c a0 true _ u.out).mono ?_);rintro e w' ⟨rfl,⟨nd,rfl⟩⟩;refine⟨_,rfl,?_⟩)|(go_at_call 78;(with_reducible refine(eZ.c a1 false _ G.out).mono ?_);rintro e w' ⟨rfl,⟨nd,rfl⟩⟩))
   go_ret;exact⟨eS,by repeat(first|exact bw.refl _|apply bw.step)⟩
 ·replace c4:=Bool.eq_false_iff.mpr c4;subst c4;rw[au (show¬(false=true)by decide)]at H;obtain rfl:=aC H;go_enter Tryz.func42,Tryz.ntmps42
  go_wp2_with (first|((with_reducible refine bC (f:=90) rfl ?_);refine gL (some 6) Tryz.func90 #[.int .i64 a0] ?_;(with_reducible refine(cy.c a0 false _ u.out).mono ?_);rintro e w' ⟨rfl,⟨nd,rfl⟩⟩;refine⟨_,rfl,?_⟩))
  go_ret;exact⟨eS,by repeat(first|exact bw.refl _|apply bw.step)⟩
def gv.f (a0:Bool):Option (Int):=if a0=true then(some 1)else(some 0)
theorem gv.c (a0:Bool) (r:Int) (w:World) (h:gv.f a0=some r):
  Calls Tryz.prog 58 #[.bool a0] w fun e w'=>e= .returned (.int .i64 r)∧bw w w':=by
 have H:(if a0=true then(some 1)else(some 0))=some r:=h;clear h;by_cases c2:a0=true
 ·subst c2;rw[aq rfl]at H;obtain rfl:=aC H;go_enter Tryz.func58,Tryz.ntmps58;go_wp2;go_ret;exact⟨eS,by repeat(first|exact bw.refl _|apply bw.step)⟩
 ·replace c2:=Bool.eq_false_iff.mpr c2;subst c2;rw[au (show¬(false=true)by decide)]at H;obtain rfl:=aC H;go_enter Tryz.func58,Tryz.ntmps58;go_wp2;go_ret;exact⟨eS,by repeat(first|exact bw.refl _|apply bw.step)⟩
def kF.f (u:Int) (I:Int) (z:Int) (D:Int) (F:Int) (J:Int) (G:Int) (H:Int):Option (Bool):=if z=G then(if D=H then(if u=F then(some (decide (I<J)))else(some (decide (u<F))))else(some (decide (D<H))))else(some (decide (z>G)))
theorem kF.c (O:Int) (am:Int) (U:Int) (V:Int) (X:Int) (ao:Int) (Y:Int) (Z:Int) (r:Bool) (w:World) (h:kF.f O am U V X ao Y Z=some r):
  Calls Tryz.prog 140 #[.agg #[.int .i64 O,.int .i64 am,.int .i64 U,.int .i64 V],.agg #[.int .i64 X,.int .i64 ao,.int .i64 Y,.int .i64 Z]] w fun e w'=>e= .returned (.bool r)∧Below w.heap.size w w':=by
 have b4:=Tryz.underlying104;have z:=A_ (Below.refl w.heap.size w);have H:(if U=Y then(if V=Z then(if O=X then(some (decide (am<ao)))else(some (decide (O<X))))else(some (decide (V<Z))))else(some (decide (U>Y))))=some r:=h;clear h;by_cases c3:U=Y
 ·rw[aq c3]at H;have aB:(U==Y)=true:=beq_iff_eq.mpr c3;have aD:(U != Y)=false:=bne_eq_false_iff_eq.mpr c3;clear c3;by_cases c4:V=Z
  ·rw[aq c4]at H;have aE:(V==Z)=true:=beq_iff_eq.mpr c4;have aF:(V != Z)=false:=bne_eq_false_iff_eq.mpr c4;clear c4;by_cases c5:O=X
   ·rw[aq c5]at H;have aG:(O==X)=true:=beq_iff_eq.mpr c5;have aH:(O != X)=false:=bne_eq_false_iff_eq.mpr c5;clear c5;obtain rfl:=aC H;go_enter Tryz.func140,Tryz.ntmps140
    go_wp2_with (first|((with_reducible refine aJ (N:=2) rfl ?_);refine bX (N:=2) (cs:= #[.int .i64 O,.int .i64 am,.int .i64 U,.int .i64 V]) (t:=104) ?_;intro ad hg b' F hb;have G:=A_ (bn (oB z) hb);have I:=A_ (F);have J:=A_ ((by rw[hg];exact(bm (oB z)):w.heap.size≤ad));have K:=A_ ((by rw[hg];exact(bm (oB z)):w.heap.size≤ad));clear z;have z:=G;have u:=I;have av:=J;have ap:=K;clear G I J K hb F hg)|((with_reducible refine aJ (N:=3) rfl ?_);refine bX (N:=3) (cs:= #[.int .i64 X,.int .i64 ao,.int .i64 Y,.int .i64 Z]) (t:=104) ?_;intro af hg w7 F hb;have G:=A_ (bb u hb);have I:=A_ (bn (oB z) hb);have J:=A_ (F);have K:=A_ ((by rw[hg];exact(bm (oB z)):w.heap.size≤af));have ah:=A_ ((by rw[hg];exact(bm (oB z)):w.heap.size≤af));have ai:=A_ (nL u hg);have aj:=A_ (nG u hg);clear u z;have u:=G;have z:=I;have D:=J;have aw:=K;have ar:=ah;have ak:=ai;have al:=aj;clear G I J K ah ai aj hb F hg;have bZ:=ak.out;have b3:=al.out;have bf:=cz u 0;have bg:=cz u 1;have bh:=cz u 2;have bk:=cz u 3;have bR:=aK u.out 0;have bS:=aK u.out 1;have bT:=aK u.out 2;have bU:=aK u.out 3;have aI:=cz D 0;have aL:=cz D 1;have aM:=cz D 2;have aN:=cz D 3;have bl:=aK D.out 0;have bo:=aK D.out 1;have bp:=aK D.out 2;have bq:=aK D.out 3))
    go_ret;exact⟨eR,oB z⟩
   ·rw[au c5]at H;have aG:(O==X)=false:=beq_eq_false_iff_ne.mpr c5;have aH:(O != X)=true:=bne_iff_ne.mpr c5;obtain rfl:=aC H;go_enter Tryz.func140,Tryz.ntmps140
    go_wp2_with (first|((with_reducible refine aJ (N:=2) rfl ?_);refine bX (N:=2) (cs:= #[.int .i64 O,.int .i64 am,.int .i64 U,.int .i64 V]) (t:=104) ?_;intro ad hg b5 F hb;have G:=A_ (bn (oB z) hb);have I:=A_ (F);have J:=A_ ((by rw[hg];exact(bm (oB z)):w.heap.size≤ad));have K:=A_ ((by rw[hg];exact(bm (oB z)):w.heap.size≤ad));clear z;have z:=G;have u:=I;have av:=J;have ap:=K;clear G I J K hb F hg)|((with_reducible refine aJ (N:=3) rfl ?_);refine bX (N:=3) (cs:= #[.int .i64 X,.int .i64 ao,.int .i64 Y,.int .i64 Z]) (t:=104) ?_;intro af hg b6 F hb;have G:=A_ (bb u hb);have I:=A_ (bn (oB z) hb);have J:=A_ (F);have K:=A_ ((by rw[hg];exact(bm (oB z)):w.heap.size≤af));have ah:=A_ ((by rw[hg];exact(bm (oB z)):w.heap.size≤af));have ai:=A_ (nL u hg);have aj:=A_ (nG u hg);clear u z;have u:=G;have z:=I;have D:=J;have aw:=K;have ar:=ah;have ak:=ai;have al:=aj;clear G I J K ah ai aj hb F hg;have bV:=ak.out;have b0:=al.out;have aO:=cz u 0;have aP:=cz u 1;have aQ:=cz u 2;have aR:=cz u 3;have br:=aK u.out 0;have bs:=aK u.out 1;have bt:=aK u.out 2;have bu:=aK u.out 3;have aS:=cz D 0;have aT:=cz D 1;have aU:=cz D 2;have aV:=cz D 3;have bv:=aK D.out 0;have bw:=aK D.out 1;have bx:=aK D.out 2;have bz:=aK D.out 3))
    go_ret;exact⟨eR,oB z⟩
  ·rw[au c4]at H;have aE:(V==Z)=false:=beq_eq_false_iff_ne.mpr c4;have aF:(V != Z)=true:=bne_iff_ne.mpr c4;obtain rfl:=aC H;go_enter Tryz.func140,Tryz.ntmps140
   go_wp2_with (first|((with_reducible refine aJ (N:=2) rfl ?_);refine bX (N:=2) (cs:= #[.int .i64 O,.int .i64 am,.int .i64 U,.int .i64 V]) (t:=104) ?_;intro ad hg b7 F hb;have G:=A_ (bn (oB z) hb);have I:=A_ (F);have J:=A_ ((by rw[hg];exact(bm (oB z)):w.heap.size≤ad));have K:=A_ ((by rw[hg];exact(bm (oB z)):w.heap.size≤ad));clear z;have z:=G;have u:=I;have av:=J;have ap:=K;clear G I J K hb F hg)|((with_reducible refine aJ (N:=3) rfl ?_);refine bX (N:=3) (cs:= #[.int .i64 X,.int .i64 ao,.int .i64 Y,.int .i64 Z]) (t:=104) ?_;intro af hg b8 F hb;have G:=A_ (bb u hb);have I:=A_ (bn (oB z) hb);have J:=A_ (F);have K:=A_ ((by rw[hg];exact(bm (oB z)):w.heap.size≤af));have ah:=A_ ((by rw[hg];exact(bm (oB z)):w.heap.size≤af));have ai:=A_ (nL u hg);have aj:=A_ (nG u hg);clear u z;have u:=G;have z:=I;have D:=J;have aw:=K;have ar:=ah;have ak:=ai;have al:=aj;clear G I J K ah ai aj hb F hg;have bW:=ak.out;have b1:=al.out;have aW:=cz u 0;have aX:=cz u 1;have aY:=cz u 2;have a0:=cz u 3;have bA:=aK u.out 0;have bB:=aK u.out 1;have bC:=aK u.out 2;have bD:=aK u.out 3;have a1:=cz D 0;have a2:=cz D 1;have a3:=cz D 2;have a4:=cz D 3;have bE:=aK D.out 0;have bF:=aK D.out 1;have bG:=aK D.out 2;have bH:=aK D.out 3))
   go_ret;exact⟨eR,oB z⟩
 ·rw[au c3]at H;have aB:(U==Y)=false:=beq_eq_false_iff_ne.mpr c3;have aD:(U != Y)=true:=bne_iff_ne.mpr c3;obtain rfl:=aC H;go_enter Tryz.func140,Tryz.ntmps140
  go_wp2_with (first|((with_reducible refine aJ (N:=2) rfl ?_);refine bX (N:=2) (cs:= #[.int .i64 O,.int .i64 am,.int .i64 U,.int .i64 V]) (t:=104) ?_;intro ad hg b9 F hb;have G:=A_ (bn (oB z) hb);have I:=A_ (F);have J:=A_ ((by rw[hg];exact(bm (oB z)):w.heap.size≤ad));have K:=A_ ((by rw[hg];exact(bm (oB z)):w.heap.size≤ad));clear z;have z:=G;have u:=I;have av:=J;have ap:=K;clear G I J K hb F hg)|((with_reducible refine aJ (N:=3) rfl ?_);refine bX (N:=3) (cs:= #[.int .i64 X,.int .i64 ao,.int .i64 Y,.int .i64 Z]) (t:=104) ?_;intro af hg b_ F hb;have G:=A_ (bb u hb);have I:=A_ (bn (oB z) hb);have J:=A_ (F);have K:=A_ ((by rw[hg];exact(bm (oB z)):w.heap.size≤af));have ah:=A_ ((by rw[hg];exact(bm (oB z)):w.heap.size≤af));have ai:=A_ (nL u hg);have aj:=A_ (nG u hg);clear u z;have u:=G;have z:=I;have D:=J;have aw:=K;have ar:=ah;have ak:=ai;have al:=aj;clear G I J K ah ai aj hb F hg;have bY:=ak.out;have b2:=al.out;have a5:=cz u 0;have a6:=cz u 1;have a7:=cz u 2;have a9:=cz u 3;have bI:=aK u.out 0;have bJ:=aK u.out 1;have bK:=aK u.out 2;have bL:=aK u.out 3;have a_:=cz D 0;have bc:=cz D 1;have bd:=cz D 2;have be:=cz D 3;have bM:=aK D.out 0;have bN:=aK D.out 1;have bP:=aK D.out 2;have bQ:=aK D.out 3))
  go_ret;exact⟨eR,oB z⟩
def jh (x:ai) (t:List Bool):Bool:=
  (decide (x.f2=1)||decide (x.f2=2))&&(decide (0≤x.f3∧x.f3≤5000)&&(decide (0≤x.f0∧x.f0≤11)&&(decide (0≤x.f1∧x.f1≤11)&&(decide (x.f1=(x.f0+1)%12)&&(t.getD x.f0.toNat false&& !t.getD x.f1.toNat false)))))
def iV:List ai→List Bool→Bool
  |[],_=>true
  |x::r,t=>jh x t&&iV r (t.set x.f1.toNat true)
def pQ (l:List ai):Bool:=iV l (true::List.replicate 11 false)&&decide (l.length≤11)
theorem vG {t:List Bool} {k:Nat} (hk:k<t.length) (h:t.getD k false=false):(t.set k true).count true=t.count true+1:=by
  rw[List.count_set hk];simp[List.getD_eq_getElem?_getD,hk]at h;simp[h]
def im.f (l0:List (ai)):Option (Bool):=some (pQ l0)
theorem im.c (U:Option Addr) (c0:Nat) (l0:List (ai)) (r:Bool) (w:World) (aE:Kd.C aU w U l0.length l0) (hc0:l0.length≤c0) (h:im.f l0=some r):
    Calls Tryz.prog 123 #[.slice U l0.length c0] w fun e w'=>e= .returned (.bool r)∧Below w.heap.size w w':=by
  have aO:=Tryz.underlying112;have H:=aC h;clear h;go_enter Tryz.func123,Tryz.ntmps123
  go_wp2_with (first|((with_reducible refine aJ (N:=6) rfl ?_);refine Kd.o8 Kd.bool _ 4 rfl (N:=6) rfl 148 _ _ rfl 12 rfl rfl Tryz.underlying148 (.bool false) 1 wo rfl (by decide) (by omega) false (ok:=fun _=>True) (bN:=fun _=>True) rfl (fun _ hk=>hk) trivial (by omega) (by omega) (Below.refl _ _) (Nat.le_refl _) ?_;intro v105 aW O hb aB aD;clear aB aD;have u:=A_ hb;obtain⟨J,ao,ap,Y,ar,am,aj⟩:=Kd.iN O (by decide);subst ap;have HO:=A_ O;have GB:=A_ Y;clear O ar am aj hb Y;have aL:(0<(List.replicate (Int.toNat 12) false).length)=True:=ax (by decide);obtain⟨ah,Z⟩:=Kd.fW false HO.out (0:Int) (by omega) (by decide);simp only[Int.toNat_zero]at ah Z))
  go_loopg [4] (l0.length+1) (fun aF v4 w'=>∃(i:Nat) (tn:List Bool),v4= .int .i64 (i:Int)∧ae (i+aF=l0.length+1)∧ae (i≤l0.length)∧ae (tn.length=12)∧ae (tn.count true=i+1)∧ae (Kd.R Kd.bool 4 w' w.heap.size (fun _=>True) (.slice (some ⟨J,0,none⟩) 12 ao) tn)∧ae ((iV (l0.drop i) tn&&decide (l0.length≤11))=r)∧ae (Below w.heap.size w w'))
  case atStart=>
    exact⟨0,true::List.replicate 11 false,rfl,⟨by omega⟩,⟨by omega⟩,⟨rfl⟩,⟨by decide⟩,⟨(Kd.kO HO.out (0:Int) true).1⟩,⟨by rw[←H];rfl⟩,⟨dA u.out GB.out⟩⟩
  case round=>
    obtain⟨i,tn,rfl,HK,aM,G,X,F,z,u⟩:=hrel;clear HO aL ah Z;by_cases hlt:i<l0.length;rotate_left
    · have hb3:decide ((i:Int)<(l0.length:Int))=false:=ay (by omega);have hb4:decide (i<l0.length)=false:=ay (by omega);have h1:=z.out;rw[List.drop_eq_nil_of_le (by omega)]at h1;by_cases h11:l0.length≤11
      · obtain rfl:true=r:=(by rw[←h1];simp[iV,h11]);have av:decide ((l0.length:Int)≤11)=true:=ag (by omega);have aw:decide (l0.length≤11)=true:=ag (by omega);clear h1;go_wp2;go_ret;exact⟨rfl,u.out⟩
      · obtain rfl:false=r:=(by rw[←h1];simp[iV,h11]);have av:decide ((l0.length:Int)≤11)=false:=ay (by omega);have aw:decide (l0.length≤11)=false:=ay (by omega);clear h1;go_wp2;go_ret;exact⟨rfl,u.out⟩
    · have hb3:decide ((i:Int)<(l0.length:Int))=true:=ag (by omega);have hb4:decide (i<l0.length)=true:=ag (by omega);obtain⟨ad,e,hx0,hx1,hx2,hx3⟩:=dU aE (i:Int) (by omega) (by omega);cases e;replace hx0:=hW u hx0;replace hx1:=hW u hx1;replace hx2:=hW u hx2;replace hx3:=hW u hx3;obtain⟨x,hx⟩:∃x,af l0 (i:Int)=x:=⟨_,rfl⟩;rw[hx]at hx0 hx1 hx2 hx3;simp only[Int.toNat_natCast]at hx0 hx1 hx2 hx3
      have hd:(iV (l0.drop i) tn&&decide (l0.length≤11))=(jh x tn&&(iV (l0.drop (i+1)) (tn.set x.f1.toNat true)&&decide (l0.length≤11))):=by
        rw[List.drop_eq_getElem_cons hlt];have e0:l0[i]=x:=(by rw[←hx];simp[af,List.getD_eq_getElem?_getD,hlt]);rw[e0];show(jh x tn&&iV _ _&&_)=_;rw[Bool.and_assoc]
      have aN:=A_ hx;clear hx;have HD:=A_ hd;clear hd
      have win:∀(a b c:Int) (d:Bool) (W:World),decide (b≤a∧a≤c)=d→Calls Tryz.prog 88 #[.int .i64 a,.int .i64 b,.int .i64 c] W fun e w'=>e= .returned (.bool d)∧bw W w':=fun a b c d W hd=>
        cn.c a b c d W (by rw[←hd];unfold cn.f;by_cases hh:b≤a<;>simp[hh])
      have tc:∀k,k<12→∀o:Obj,(wr.alloc o).cell? ⟨J,k,none⟩=some (.bool (tn.getD k false)):=fun k hk o=>by
        have K:=(Kd.fW false (Kd.fg F.out o) (k:Int) (by omega) (by omega)).1;simpa[jJ]using K
      have tf:∀k,k<12→∀o:Obj,(wr.alloc o).frozen? ⟨J,k,none⟩=false:=fun k hk o=>by
        have K:=(Kd.fW false (Kd.fg F.out o) (k:Int) (by omega) (by omega)).2;simpa using K
      by_cases q0:x.f2=1∨x.f2=2;rotate_left
      · have W0:=A_ fun W=>win x.f2 1 2 false W (ay (by omega));have D:=A_ q0;clear q0 win tc tf
        go_wp2_with (first|(go_at_call 88;(with_reducible refine(W0.out _).mono ?_);rintro e w' ⟨rfl,⟨nd,rfl⟩⟩))
        all_goals
          obtain rfl:false=r:=by
            rw[←z.out,HD.out];have:=D.out;simp only[not_or]at this;simp[jh,this.1,this.2]
          go_ret;exact⟨rfl,by repeat(first|exact u.out|apply bO|apply cN|apply cg)⟩
      have W0:=A_ fun W=>win x.f2 1 2 true W (ag (by omega));have ak:=A_ q0;clear q0;by_cases q1:0≤x.f3∧x.f3≤5000;rotate_left
      · have W1:=A_ fun W=>win x.f3 0 5000 false W (ay q1);have D:=A_ q1;clear q1 win tc tf
        go_wp2_with (first|(go_at_call 88;(with_reducible refine(W0.out _).mono ?_);rintro e w' ⟨rfl,⟨nd,rfl⟩⟩)|(go_at_call 88;(with_reducible refine(W1.out _).mono ?_);rintro e w' ⟨rfl,⟨nd,rfl⟩⟩))
        all_goals
          obtain rfl:false=r:=by
            rw[←z.out,HD.out];simp[jh,D.out]
          go_ret;exact⟨rfl,by repeat(first|exact u.out|apply bO|apply cN|apply cg)⟩
      have W1:=A_ fun W=>win x.f3 0 5000 true W (ag q1);by_cases q2:0≤x.f0∧x.f0≤11;rotate_left
      · have W2:=A_ fun W=>win x.f0 0 11 false W (ay q2);have D:=A_ q2;clear q1 q2 win tc tf
        go_wp2_with (first|(go_at_call 88;(with_reducible refine(W0.out _).mono ?_);rintro e w' ⟨rfl,⟨nd,rfl⟩⟩)|(go_at_call 88;(with_reducible refine(W1.out _).mono ?_);rintro e w' ⟨rfl,⟨nd,rfl⟩⟩)|(go_at_call 88;(with_reducible refine(W2.out _).mono ?_);rintro e w' ⟨rfl,⟨nd,rfl⟩⟩))
        all_goals
          obtain rfl:false=r:=by
            rw[←z.out,HD.out];simp[jh,D.out]
          go_ret;exact⟨rfl,by repeat(first|exact u.out|apply bO|apply cN|apply cg)⟩
      have W2:=A_ fun W=>win x.f0 0 11 true W (ag q2);clear win;obtain⟨aG,aP⟩:=q2;have al:=A_ q1;clear q1;by_cases q4:x.f1=(x.f0+1)%12;rotate_left
      · have aI:(x.f1==(x.f0+1)%12)=false:=beq_eq_false_iff_ne.mpr q4;have aK:(x.f1 != (x.f0+1)%12)=true:=bne_iff_ne.mpr q4;have I:=A_ q4;clear q4 tc tf
        go_wp2_with (first|(go_at_call 88;(with_reducible refine(W0.out _).mono ?_);rintro e w' ⟨rfl,⟨nd,rfl⟩⟩)|(go_at_call 88;(with_reducible refine(W1.out _).mono ?_);rintro e w' ⟨rfl,⟨nd,rfl⟩⟩)|(go_at_call 88;(with_reducible refine(W2.out _).mono ?_);rintro e w' ⟨rfl,⟨nd,rfl⟩⟩))
        all_goals
          obtain rfl:false=r:=by
            rw[←z.out,HD.out];simp[jh,I.out]
          go_ret;exact⟨rfl,by repeat(first|exact u.out|apply bO|apply cN|apply cg)⟩
      have aI:(x.f1==(x.f0+1)%12)=true:=beq_iff_eq.mpr q4;have aK:(x.f1 != (x.f0+1)%12)=false:=bne_eq_false_iff_eq.mpr q4;have aH:0≤x.f1:=(by omega);have aQ:x.f1≤11:=(by omega);have I:=A_ q4;clear q4;have hc0:=tc x.f0.toNat (by omega);have hc1:=tc x.f1.toNat (by omega);have hfz:=tf x.f1.toNat (by omega);clear tc tf;obtain⟨b0,hb0⟩:∃b,tn.getD x.f0.toNat false=b:=⟨_,rfl⟩;obtain⟨b1,hb1⟩:∃b,tn.getD x.f1.toNat false=b:=⟨_,rfl⟩;rw[hb0]at hc0;rw[hb1]at hc1;have V:=A_ hb0;have B1:=A_ hb1;clear hb0 hb1;have aR:=ag aG;have aS:decide (x.f0<12)=true:=ag (by omega);have aT:=ag aH;have aV:decide (x.f1<12)=true:=ag (by omega)
      go_wp2_with (first|(go_at_call 88;(with_reducible refine(W0.out _).mono ?_);rintro e w' ⟨rfl,⟨nd,rfl⟩⟩)|(go_at_call 88;(with_reducible refine(W1.out _).mono ?_);rintro e w' ⟨rfl,⟨nd,rfl⟩⟩)|(go_at_call 88;(with_reducible refine(W2.out _).mono ?_);rintro e w' ⟨rfl,⟨nd,rfl⟩⟩))
      all_goals first
        |(go_ret
          have e:false=r:=by
            have h3:=V.out;have h4:=B1.out;rw[←z.out,HD.out];unfold jh;rw[h3,h4];simp[*]
          subst e;exact⟨rfl,by repeat(first|exact u.out|apply bO|apply cN|apply cg)⟩)
        |(go_roundg (gk-1)
          case measure=>have:=HK.out;omega
          case rel=>
            have hi:i≤11:=(by have h1:=X.out;have h2:=G.out;have h3:=@List.count_le_length _ _ true tn;omega);have hn:(tn.set x.f1.toNat true).count true=i+1+1:=(by rw[vG (by have:=G.out;omega) (by rw[B1.out];first|assumption|simp[*]),X.out]);refine⟨i+1,tn.set x.f1.toNat true,by rw[show wrap64 ((i:Int)+1)=((i+1:Nat):Int)by unfold wrap64;omega],⟨by have:=HK.out;omega⟩,⟨by omega⟩,⟨by rw[List.length_set];exact G.out⟩,⟨hn⟩,⟨?_⟩,⟨?_⟩,⟨?_⟩⟩
            · refine(Kd.kO ?_ x.f1 true).1
              with_reducible repeat(first|apply Kd.fg|apply Kd.fX|apply Kd.dH)
              exact F.out
            · rw[←z.out,HD.out]
              have e:jh x tn=true:=by
                have h0:=ak.out;have h1:=I.out;have h2:=al.out;have h3:=V.out;have h4:=B1.out;unfold jh;rw[h3,h4];simp[*];omega
              rw[e,Bool.true_and]
            · refine dA ?_ GB.out
              repeat(first|exact u.out|apply bO|apply cN|apply cg))
def eE.l0:Nat→List (ai)→Int→Int→Option (Int)
 |0,_,_,_=>none
 |k+1,x0,x1,u=>if u<(x0.length:Int)then(if 0≤u then(if((af x0 u).f1)=x1 then(some u)else(eE.l0 k x0 x1 (wrap64 (u+1))))else(none))else(some (-1))
def eE.f (k:Nat) (l0:List (ai)) (a1:Int):Option (Int):=eE.l0 k l0 a1 0
theorem eE.c (k:Nat) (I:Option Addr) (c0:Nat) (l0:List (ai)) (a1:Int) (r:Int) (w:World) (O:Kd.C aU w I l0.length l0) (hc0:l0.length≤c0) (h:eE.f k l0 a1=some r):
  Calls Tryz.prog 124 #[.slice I l0.length c0,.int .i64 a1] w fun e w'=>e= .returned (.int .i64 r)∧bw w w':=by
 have K:=A_ O;have al:=A_ hc0;clear O hc0;have H:(eE.l0 k l0 a1 0)=some r:=h;clear h;have H':=A_ H;clear H;go_enter Tryz.func124,Tryz.ntmps124;go_wp2
 go_loopg [5] k (fun U v5 w'=>∃(u:Int),v5= .int .i64 u∧ae (eE.l0 U l0 a1 u=some r)∧ae (U≤k)∧bw w w')
 case atStart=>exact⟨(0),eS,H',⟨Nat.le_refl _⟩,by repeat(first|exact bw.refl _|apply bw.step)⟩
 case round=>
  clear H'
  try clear c1
  try clear p2
  obtain⟨u,rfl,F,J,⟨m1,rfl⟩⟩:=hrel;cases gk with
  |zero=>exact absurd F.out (by simp[eE.l0])
  |succ k1=>
   have H:=F.out;clear F;simp only[eE.l0]at H;by_cases c3:u<(l0.length:Int)
   ·rw[aq c3]at H;have X:decide (u<(l0.length:Int))=true:=ag c3;clear c3;by_cases c4:0≤u
    ·rw[aq c4]at H;have am:decide (0≤u)=true:=ag c4;clear c4;by_cases c5:((af l0 u).f1)=a1
     ·rw[aq c5]at H;have Y:(((af l0 u).f1)==a1)=true:=beq_iff_eq.mpr c5;have Z:(((af l0 u).f1) != a1)=false:=bne_eq_false_iff_eq.mpr c5;clear c5;obtain rfl:=aC H;have z:0≤(u:Int):=oD;have D:u<(l0.length:Int):=oD;obtain⟨V,G,ad,ah,aj,ak⟩:=dU K.out u z D;cases G;replace z:=ax z;replace D:=ax D;go_wp2;go_ret;exact⟨eS,by repeat(first|exact bw.refl _|apply bw.step)⟩
     ·rw[au c5]at H;have Y:(((af l0 u).f1)==a1)=false:=beq_eq_false_iff_ne.mpr c5;have Z:(((af l0 u).f1) != a1)=true:=bne_iff_ne.mpr c5;have H':=A_ H;clear H;have z:0≤(u:Int):=oD;have D:u<(l0.length:Int):=oD;obtain⟨V,G,ad,ah,aj,ak⟩:=dU K.out u z D;cases G;replace z:=ax z;replace D:=ax D;go_wp2
      go_roundg k1
      case measure=>have:=J.out;omega
      case rel=>exact⟨(wrap64 (u+1)),eS,H',⟨by have:=J.out;omega⟩,by repeat(first|exact bw.refl _|apply bw.step)⟩
    ·rw[au c4]at H;exact absurd H (by simp)
   ·rw[au c3]at H;have X:decide (u<(l0.length:Int))=false:=ay c3;clear c3;obtain rfl:=aC H;go_wp2;go_ret;exact⟨eS,by repeat(first|exact bw.refl _|apply bw.step)⟩
def cx.f (a0:Int):Option (Bool):=(cn.f a0 1 10000000).bind fun t108=>(some t108)
theorem cx.c (a0:Int) (r:Bool) (w:World) (h:cx.f a0=some r):
  Calls Tryz.prog 125 #[.int .i64 a0] w fun e w'=>e= .returned (.bool r)∧bw w w':=by
 have H:((cn.f a0 1 10000000).bind fun t108=>(some t108))=some r:=h;clear h;replace H:=az H;obtain⟨t108,u,H⟩:=H
 (try dsimp only at H)
 have A2:=A_ u;clear u;obtain rfl:=aC H;go_enter Tryz.func125,Tryz.ntmps125
 go_wp2_with (first|((with_reducible refine bC (f:=88) rfl ?_);refine gL (some 4) Tryz.func88 #[.int .i64 a0,.int .i64 1,.int .i64 10000000] ?_;(with_reducible refine(cn.c a0 1 10000000 t108 _ A2.out).mono ?_);rintro e w' ⟨rfl,⟨nd,rfl⟩⟩;refine⟨_,rfl,?_⟩))
 go_ret;exact⟨eS,by repeat(first|exact bw.refl _|apply bw.step)⟩
mutual
def cu.j0:Nat→Bool→List (ai)→Int→List Int→Option (Bool)
 |0,_,_,_,_=>none
 |k+1,F,u,z,D=>if F=true then(some false)else(cu.l0 k 0 u z D)
def cu.l0:Nat→Int→List (ai)→Int→List Int→Option (Bool)
 |0,_,_,_,_=>none
 |k+1,x3,z,D,u=>if x3<12 then((eE.f k z x3).bind fun t112=>(if x3=0 then(if 0≤x3 then(if x3<(u.length:Int)then((cx.f (rd u x3)).bind fun t114=>(if t114=true then(cu.l0 k (wrap64 (x3+1)) z D u)else(some false)))else(none))else(none))else(if t112≥0 then(if t112<D then(if 0≤x3 then(if x3<(u.length:Int)then((cx.f (rd u x3)).bind fun t116=>(if t116=true then(cu.l0 k (wrap64 (x3+1)) z D u)else(some false)))else(none))else(none))else(if 0≤x3 then(if x3<(u.length:Int)then(if(rd u x3)=0 then(cu.l0 k (wrap64 (x3+1)) z D u)else(some false))else(none))else(none)))else(if 0≤x3 then(if x3<(u.length:Int)then(if(rd u x3)=0 then(cu.l0 k (wrap64 (x3+1)) z D u)else(some false))else(none))else(none)))))else(some true)
end
def cu.f (k:Nat) (u:List (ai)) (z:Int) (D:List Int):Option (Bool):=(im.f u).bind fun t110=>(if t110=true then((cn.f z 0 (u.length:Int)).bind fun t111=>(if t111=true then(cu.j0 k ((D.length:Int) != 12) u z D)else(cu.j0 k true u z D)))else(cu.j0 k true u z D))
theorem cu.c (k:Nat) (I:Option Addr) (K:Nat) (F:List (ai)) (J:Int) (aG:Option Addr) (aH:Nat) (D:List Int) (r:Bool) (w:World) (bZ:Kd.C aU w I F.length F) (bo:F.length≤K) (b0:Kd.C (Kd.int .i64) w aG D.length D) (bp:D.length≤aH) (h:cu.f k F J D=some r):
  Calls Tryz.prog 86 #[.agg #[.slice I F.length K,.int .i64 J,.slice aG D.length aH]] w fun e w'=>e= .returned (.bool r)∧Below w.heap.size w w':=by
 have dp:=Tryz.underlying34;have U:=A_ bZ;have O:=A_ bo;clear bZ bo;have af:=A_ b0;have cj:=A_ bp;clear b0 bp;have G:=A_ (Below.refl w.heap.size w);have H:((im.f F).bind fun t110=>(if t110=true then((cn.f J 0 (F.length:Int)).bind fun t111=>(if t111=true then(cu.j0 k ((D.length:Int) != 12) F J D)else(cu.j0 k true F J D)))else(cu.j0 k true F J D)))=some r:=h;clear h;have a2:=A_ H;clear H;go_enter Tryz.func86,Tryz.ntmps86
 go_upto_region 1 with (first|((with_reducible refine aJ (N:=1) rfl ?_);(try(refine ke (by rfl) ?_;dsimp only));refine bX (N:=1) (cs:= #[.slice I F.length K,.int .i64 J,.slice aG D.length aH]) (t:=34) ?_;intro aY hg w3 bl hb;have V:=A_ (bn (oB G) hb);have X:=A_ (bl);have b2:=A_ ((by rw[hg];exact(bm (oB G)):w.heap.size≤aY));have b3:=A_ ((by rw[hg];exact(bm (oB G)):w.heap.size≤aY));clear G;have G:=V;have u:=X;have ci:=b2;have ch:=b3;clear V X b2 b3 hb bl hg))
 (try simp only[Act.put,List.setIfInBounds_toArray,List.set_cons_zero,List.set_cons_succ])
 go_cut [24] (fun v24 wc=>∃(al:Nat) (a0:Bool),v24= .bool a0∧ae (cu.j0 al a0 F J D=some r)∧ae (al≤k)∧ae (wc.heap[aY]? =some (.cells #[(.slice I F.length K),.int .i64 J,(.slice aG D.length aH)] 34 (0,0)))∧ae (Below w.heap.size w wc))
 case first=>
  have H:=a2.out;clear a2;replace H:=az H;obtain⟨t110,bg,H⟩:=H
  (try dsimp only at H)
  have a1:=A_ bg;clear bg;by_cases c5:t110=true
  ·subst c5;rw[aq rfl]at H;replace H:=az H;obtain⟨t111,bk,H⟩:=H
   (try dsimp only at H)
   have bh:=A_ bk;clear bk;by_cases c7:t111=true
   ·subst c7;rw[aq rfl]at H;have H':=A_ H;clear H;have bE:=cz u 0;have bF:=cz u 1;have bG:=cz u 2;have bV:=aK u.out 0;have bW:=aK u.out 1;have bY:=aK u.out 2
    go_wp2_with (first|((with_reducible refine bC (f:=123) rfl ?_);refine gL (some 8) Tryz.func123 #[.slice I F.length K] ?_;(with_reducible refine(im.c _ _ F true _ ?bc ?bf a1.out).mono ?_);(case bc=>exact bP U.out);(case bf=>exact O.out);rintro e dt ⟨rfl,hb⟩;refine⟨_,rfl,?_⟩;have V:=A_ (bb u hb);have X:=A_ (bn (oB G) hb);clear u G;have u:=V;have G:=X;clear V X;(try clear hb);(try clear hb2);(try clear hk);(try clear hi);have bq:=cz u 0;have br:=cz u 1;have bs:=cz u 2;have bH:=aK u.out 0;have bI:=aK u.out 1;have bJ:=aK u.out 2)|(go_at_call 88;(with_reducible refine(cn.c J 0 (F.length:Int) true _ bh.out).mono ?_);rintro e w' ⟨rfl,⟨nd,rfl⟩⟩))
    go_meet
    case rel=>exact⟨_,(((D.length:Int) != 12)),eS,H',⟨by first|omega|exact Nat.le_refl _⟩,⟨oK u⟩,⟨oB G⟩⟩
   ·replace c7:=Bool.eq_false_iff.mpr c7;subst c7;rw[au (show¬(false=true)by decide)]at H;have H':=A_ H;clear H;have bt:=cz u 0;have bu:=cz u 1;have bv:=cz u 2;have bK:=aK u.out 0;have bL:=aK u.out 1;have bM:=aK u.out 2
    go_wp2_with (first|((with_reducible refine bC (f:=123) rfl ?_);refine gL (some 8) Tryz.func123 #[.slice I F.length K] ?_;(with_reducible refine(im.c _ _ F true _ ?bc ?bf a1.out).mono ?_);(case bc=>exact bP U.out);(case bf=>exact O.out);rintro e dq ⟨rfl,hb⟩;refine⟨_,rfl,?_⟩;have V:=A_ (bb u hb);have X:=A_ (bn (oB G) hb);clear u G;have u:=V;have G:=X;clear V X;(try clear hb);(try clear hb2);(try clear hk);(try clear hi);have bw:=cz u 0;have bx:=cz u 1;have bz:=cz u 2;have bN:=aK u.out 0;have bQ:=aK u.out 1;have bR:=aK u.out 2)|(go_at_call 88;(with_reducible refine(cn.c J 0 (F.length:Int) false _ bh.out).mono ?_);rintro e w' ⟨rfl,⟨nd,rfl⟩⟩))
    go_meet
    case rel=>exact⟨_,(true),eS,H',⟨by first|omega|exact Nat.le_refl _⟩,⟨oK u⟩,⟨oB G⟩⟩
  ·replace c5:=Bool.eq_false_iff.mpr c5;subst c5;rw[au (show¬(false=true)by decide)]at H;have H':=A_ H;clear H;have bA:=cz u 0;have bB:=cz u 1;have bD:=cz u 2;have bS:=aK u.out 0;have bT:=aK u.out 1;have bU:=aK u.out 2
   go_wp2_with (first|((with_reducible refine bC (f:=123) rfl ?_);refine gL (some 8) Tryz.func123 #[.slice I F.length K] ?_;(with_reducible refine(im.c _ _ F false _ ?bc ?bf a1.out).mono ?_);(case bc=>exact bP U.out);(case bf=>exact O.out);rintro e dr ⟨rfl,hb⟩;refine⟨_,rfl,?_⟩;have V:=A_ (bb u hb);have X:=A_ (bn (oB G) hb);clear u G;have u:=V;have G:=X;clear V X;(try clear hb);(try clear hb2);(try clear hk);(try clear hi)))
   go_meet
   case rel=>exact⟨_,(true),eS,H',⟨by first|omega|exact Nat.le_refl _⟩,⟨oK u⟩,⟨oB G⟩⟩
 case rest=>
  clear a2
  try clear c1
  try clear p2
  try clear c5
  try clear c7
  try clear c8
  try clear c12
  try clear bq
  try clear br
  try clear bs
  try clear bt
  try clear bu
  try clear bv
  try clear bw
  try clear bx
  try clear bz
  try clear bA
  try clear bB
  try clear bD
  try clear bE
  try clear bF
  try clear bG
  try clear bH
  try clear bI
  try clear bJ
  try clear bK
  try clear bL
  try clear bM
  try clear bN
  try clear bQ
  try clear bR
  try clear bS
  try clear bT
  try clear bU
  try clear bV
  try clear bW
  try clear bY
  obtain⟨al,a0,rfl,ah,Z,u,G⟩:=hcut;cases al with
  |zero=>exact absurd ah.out (by simp[cu.j0])
  |succ b1=>
   have H:=ah.out;clear ah;simp only[cu.j0]at H;by_cases c16:a0=true
   ·subst c16;rw[aq rfl]at H;obtain rfl:=aC H;go_wp2;go_ret;exact⟨eR,oB G⟩
   ·replace c16:=Bool.eq_false_iff.mpr c16;subst c16;rw[au (show¬(false=true)by decide)]at H;have H':=A_ H;clear H;go_wp2
    go_loopg [3] b1 (fun al v3 w'=>∃(z:Int),v3= .int .i64 z∧ae (cu.l0 al z F J D=some r)∧ae (al≤b1)∧ae (w'.heap[aY]? =some (.cells #[(.slice I F.length K),.int .i64 J,(.slice aG D.length aH)] 34 (0,0)))∧ae (Below w.heap.size w w'))
    case atStart=>exact⟨(0),eS,H',⟨Nat.le_refl _⟩,⟨oK u⟩,⟨oB G⟩⟩
    case round=>
     clear H'
     try clear c1
     try clear p2
     try clear c5
     try clear c7
     try clear c8
     try clear c12
     try clear c16
     try clear bq
     try clear br
     try clear bs
     try clear bt
     try clear bu
     try clear bv
     try clear bw
     try clear bx
     try clear bz
     try clear bA
     try clear bB
     try clear bD
     try clear bE
     try clear bF
     try clear bG
     try clear bH
     try clear bI
     try clear bJ
     try clear bK
     try clear bL
     try clear bM
     try clear bN
     try clear bQ
     try clear bR
     try clear bS
     try clear bT
     try clear bU
     try clear bV
     try clear bW
     try clear bY
     try clear p2
     obtain⟨z,rfl,ah,ad,u,G⟩:=hrel;cases gk with
     |zero=>exact absurd ah.out (by simp[cu.l0])
     |succ k2=>
      have H:=ah.out;clear ah;simp only[cu.l0]at H;by_cases c17:z<12
      ·rw[aq c17]at H;have b8:decide (z<12)=true:=ag c17;clear c17;replace H:=az H;obtain⟨t112,a7,H⟩:=H
       (try dsimp only at H)
       have Y:=A_ a7;clear a7;by_cases c19:z=0
       ·rw[aq c19]at H;have b9:(z==0)=true:=beq_iff_eq.mpr c19;have b_:(z != 0)=false:=bne_eq_false_iff_eq.mpr c19;clear c19;by_cases c20:0≤z
        ·rw[aq c20]at H;have ck:decide (0≤z)=true:=ag c20;clear c20;by_cases aO:z<(D.length:Int)
         ·rw[aq aO]at H;have cl:decide (z<(D.length:Int))=true:=ag aO;clear aO;replace H:=az H;obtain⟨t114,a_,H⟩:=H
          (try dsimp only at H)
          have a9:=A_ a_;clear a_;by_cases aP:t114=true
          ·subst aP;rw[aq rfl]at H;have H':=A_ H;clear H;have cw:=cz u 0;have cy:=cz u 1;have cA:=cz u 2;have cX:=aK u.out 0;have cY:=aK u.out 1;have cZ:=aK u.out 2
           go_wp2_with (first|((with_reducible refine bC (f:=124) rfl ?_);refine gL (some 32) Tryz.func124 #[.slice I F.length K,.int .i64 z] ?_;(with_reducible refine(eE.c k2 _ _ F z t112 _ ?bc ?bf Y.out).mono ?_);(case bc=>exact bP U.out);(case bf=>exact O.out);rintro e w' ⟨rfl,⟨nd,rfl⟩⟩;refine⟨_,rfl,?_⟩;have am:0≤(z:Int):=oD;have av:z<(D.length:Int):=oD;obtain⟨b4,a3,aI⟩:=Kd.dV af.out z am av;cases a3;replace aI:=hW G aI;replace am:=ax am;replace av:=ax av)|(go_at_call 125;(with_reducible refine(cx.c (rd D z) true _ a9.out).mono ?_);rintro e w' ⟨rfl,⟨nd,rfl⟩⟩))
           go_roundg k2
           case measure=>have:=Z.out;have:=ad.out;omega
           case rel=>exact⟨(wrap64 (z+1)),eS,H',⟨by have:=Z.out;have:=ad.out;omega⟩,⟨oK u⟩,⟨oB G⟩⟩
          ·replace aP:=Bool.eq_false_iff.mpr aP;subst aP;rw[au (show¬(false=true)by decide)]at H;obtain rfl:=aC H;have cB:=cz u 0;have cC:=cz u 1;have cD:=cz u 2;have c0:=aK u.out 0;have c3:=aK u.out 1;have c4:=aK u.out 2
           go_wp2_with (first|((with_reducible refine bC (f:=124) rfl ?_);refine gL (some 32) Tryz.func124 #[.slice I F.length K,.int .i64 z] ?_;(with_reducible refine(eE.c k2 _ _ F z t112 _ ?bc ?bf Y.out).mono ?_);(case bc=>exact bP U.out);(case bf=>exact O.out);rintro e w' ⟨rfl,⟨nd,rfl⟩⟩;refine⟨_,rfl,?_⟩;have am:0≤(z:Int):=oD;have av:z<(D.length:Int):=oD;obtain⟨b4,a3,aI⟩:=Kd.dV af.out z am av;cases a3;replace aI:=hW G aI;replace am:=ax am;replace av:=ax av)|(go_at_call 125;(with_reducible refine(cx.c (rd D z) false _ a9.out).mono ?_);rintro e w' ⟨rfl,⟨nd,rfl⟩⟩))
           go_ret;exact⟨eR,oB G⟩
         ·rw[au aO]at H;exact absurd H (by simp)
        ·rw[au c20]at H;exact absurd H (by simp)
       ·rw[au c19]at H;have b9:(z==0)=false:=beq_eq_false_iff_ne.mpr c19;have b_:(z != 0)=true:=bne_iff_ne.mpr c19;by_cases aE:t112≥0
        ·rw[aq aE]at H;have b':decide (0≤t112)=true:=ag aE;clear aE;by_cases aF:t112<J
         ·rw[aq aF]at H;have ca:decide (t112<J)=true:=ag aF;clear aF;by_cases aQ:0≤z
          ·rw[aq aQ]at H;have cm:decide (0≤z)=true:=ag aQ;clear aQ;by_cases aR:z<(D.length:Int)
           ·rw[aq aR]at H;have co:decide (z<(D.length:Int))=true:=ag aR;clear aR;replace H:=az H;obtain⟨t116,be,H⟩:=H
            (try dsimp only at H)
            have bd:=A_ be;clear be;by_cases aS:t116=true
            ·subst aS;rw[aq rfl]at H;have H':=A_ H;clear H;have cE:=cz u 0;have cF:=cz u 1;have cG:=cz u 2;have c6:=aK u.out 0;have c9:=aK u.out 1;have c_:=aK u.out 2
             go_wp2_with (first|((with_reducible refine bC (f:=124) rfl ?_);refine gL (some 32) Tryz.func124 #[.slice I F.length K,.int .i64 z] ?_;(with_reducible refine(eE.c k2 _ _ F z t112 _ ?bc ?bf Y.out).mono ?_);(case bc=>exact bP U.out);(case bf=>exact O.out);rintro e w' ⟨rfl,⟨nd,rfl⟩⟩;refine⟨_,rfl,?_⟩;have ao:0≤(z:Int):=oD;have aw:z<(D.length:Int):=oD;obtain⟨b5,a4,aL⟩:=Kd.dV af.out z ao aw;cases a4;replace aL:=hW G aL;replace ao:=ax ao;replace aw:=ax aw)|(go_at_call 125;(with_reducible refine(cx.c (rd D z) true _ bd.out).mono ?_);rintro e w' ⟨rfl,⟨nd,rfl⟩⟩))
             go_roundg k2
             case measure=>have:=Z.out;have:=ad.out;omega
             case rel=>exact⟨(wrap64 (z+1)),eS,H',⟨by have:=Z.out;have:=ad.out;omega⟩,⟨oK u⟩,⟨oB G⟩⟩
            ·replace aS:=Bool.eq_false_iff.mpr aS;subst aS;rw[au (show¬(false=true)by decide)]at H;obtain rfl:=aC H;have cH:=cz u 0;have cI:=cz u 1;have cJ:=cz u 2;have c':=aK u.out 0;have da:=aK u.out 1;have db:=aK u.out 2
             go_wp2_with (first|((with_reducible refine bC (f:=124) rfl ?_);refine gL (some 32) Tryz.func124 #[.slice I F.length K,.int .i64 z] ?_;(with_reducible refine(eE.c k2 _ _ F z t112 _ ?bc ?bf Y.out).mono ?_);(case bc=>exact bP U.out);(case bf=>exact O.out);rintro e w' ⟨rfl,⟨nd,rfl⟩⟩;refine⟨_,rfl,?_⟩;have ao:0≤(z:Int):=oD;have aw:z<(D.length:Int):=oD;obtain⟨b5,a4,aL⟩:=Kd.dV af.out z ao aw;cases a4;replace aL:=hW G aL;replace ao:=ax ao;replace aw:=ax aw)|(go_at_call 125;(with_reducible refine(cx.c (rd D z) false _ bd.out).mono ?_);rintro e w' ⟨rfl,⟨nd,rfl⟩⟩))
             go_ret;exact⟨eR,oB G⟩
           ·rw[au aR]at H;exact absurd H (by simp)
          ·rw[au aQ]at H;exact absurd H (by simp)
         ·rw[au aF]at H;have ca:decide (t112<J)=false:=ay aF;clear aF;by_cases aT:0≤z
          ·rw[aq aT]at H;have cp:decide (0≤z)=true:=ag aT;clear aT;by_cases aV:z<(D.length:Int)
           ·rw[aq aV]at H;have cq:decide (z<(D.length:Int))=true:=ag aV;clear aV;by_cases aj:(rd D z)=0
            ·rw[aq aj]at H;have cb:((rd D z)==0)=true:=beq_iff_eq.mpr aj;have cc:((rd D z) != 0)=false:=bne_eq_false_iff_eq.mpr aj;clear aj;have H':=A_ H;clear H;have cK:=cz u 0;have cL:=cz u 1;have cM:=cz u 2;have dc:=aK u.out 0;have dd:=aK u.out 1;have de:=aK u.out 2
             go_wp2_with (first|((with_reducible refine bC (f:=124) rfl ?_);refine gL (some 32) Tryz.func124 #[.slice I F.length K,.int .i64 z] ?_;(with_reducible refine(eE.c k2 _ _ F z t112 _ ?bc ?bf Y.out).mono ?_);(case bc=>exact bP U.out);(case bf=>exact O.out);rintro e w' ⟨rfl,⟨nd,rfl⟩⟩;refine⟨_,rfl,?_⟩;have ap:0≤(z:Int):=oD;have aB:z<(D.length:Int):=oD;obtain⟨b6,a5,aM⟩:=Kd.dV af.out z ap aB;cases a5;replace aM:=hW G aM;replace ap:=ax ap;replace aB:=ax aB))
             go_roundg k2
             case measure=>have:=Z.out;have:=ad.out;omega
             case rel=>exact⟨(wrap64 (z+1)),eS,H',⟨by have:=Z.out;have:=ad.out;omega⟩,⟨oK u⟩,⟨oB G⟩⟩
            ·rw[au aj]at H;have cb:((rd D z)==0)=false:=beq_eq_false_iff_ne.mpr aj;have cc:((rd D z) != 0)=true:=bne_iff_ne.mpr aj;obtain rfl:=aC H;have cO:=cz u 0;have cP:=cz u 1;have cQ:=cz u 2;have df:=aK u.out 0;have dg:=aK u.out 1;have dh:=aK u.out 2
             go_wp2_with (first|((with_reducible refine bC (f:=124) rfl ?_);refine gL (some 32) Tryz.func124 #[.slice I F.length K,.int .i64 z] ?_;(with_reducible refine(eE.c k2 _ _ F z t112 _ ?bc ?bf Y.out).mono ?_);(case bc=>exact bP U.out);(case bf=>exact O.out);rintro e w' ⟨rfl,⟨nd,rfl⟩⟩;refine⟨_,rfl,?_⟩;have ap:0≤(z:Int):=oD;have aB:z<(D.length:Int):=oD;obtain⟨b6,a5,aM⟩:=Kd.dV af.out z ap aB;cases a5;replace aM:=hW G aM;replace ap:=ax ap;replace aB:=ax aB))
             go_ret;exact⟨eR,oB G⟩
           ·rw[au aV]at H;exact absurd H (by simp)
          ·rw[au aT]at H;exact absurd H (by simp)
        ·rw[au aE]at H;have b':decide (0≤t112)=false:=ay aE;clear aE;by_cases aW:0≤z
         ·rw[aq aW]at H;have cr:decide (0≤z)=true:=ag aW;clear aW;by_cases aX:z<(D.length:Int)
          ·rw[aq aX]at H;have cv:decide (z<(D.length:Int))=true:=ag aX;clear aX;by_cases ak:(rd D z)=0
           ·rw[aq ak]at H;have ce:((rd D z)==0)=true:=beq_iff_eq.mpr ak;have cf:((rd D z) != 0)=false:=bne_eq_false_iff_eq.mpr ak;clear ak;have H':=A_ H;clear H;have cR:=cz u 0;have cS:=cz u 1;have cT:=cz u 2;have di:=aK u.out 0;have dj:=aK u.out 1;have dk:=aK u.out 2
            go_wp2_with (first|((with_reducible refine bC (f:=124) rfl ?_);refine gL (some 32) Tryz.func124 #[.slice I F.length K,.int .i64 z] ?_;(with_reducible refine(eE.c k2 _ _ F z t112 _ ?bc ?bf Y.out).mono ?_);(case bc=>exact bP U.out);(case bf=>exact O.out);rintro e w' ⟨rfl,⟨nd,rfl⟩⟩;refine⟨_,rfl,?_⟩;have ar:0≤(z:Int):=oD;have aD:z<(D.length:Int):=oD;obtain⟨b7,a6,aN⟩:=Kd.dV af.out z ar aD;cases a6;replace aN:=hW G aN;replace ar:=ax ar;replace aD:=ax aD))
            go_roundg k2
            case measure=>have:=Z.out;have:=ad.out;omega
            case rel=>exact⟨(wrap64 (z+1)),eS,H',⟨by have:=Z.out;have:=ad.out;omega⟩,⟨oK u⟩,⟨oB G⟩⟩
           ·rw[au ak]at H;have ce:((rd D z)==0)=false:=beq_eq_false_iff_ne.mpr ak;have cf:((rd D z) != 0)=true:=bne_iff_ne.mpr ak;obtain rfl:=aC H;have cU:=cz u 0;have cV:=cz u 1;have cW:=cz u 2;have dl:=aK u.out 0;have dm:=aK u.out 1;have dn:=aK u.out 2
            go_wp2_with (first|((with_reducible refine bC (f:=124) rfl ?_);refine gL (some 32) Tryz.func124 #[.slice I F.length K,.int .i64 z] ?_;(with_reducible refine(eE.c k2 _ _ F z t112 _ ?bc ?bf Y.out).mono ?_);(case bc=>exact bP U.out);(case bf=>exact O.out);rintro e w' ⟨rfl,⟨nd,rfl⟩⟩;refine⟨_,rfl,?_⟩;have ar:0≤(z:Int):=oD;have aD:z<(D.length:Int):=oD;obtain⟨b7,a6,aN⟩:=Kd.dV af.out z ar aD;cases a6;replace aN:=hW G aN;replace ar:=ax ar;replace aD:=ax aD))
            go_ret;exact⟨eR,oB G⟩
          ·rw[au aX]at H;exact absurd H (by simp)
         ·rw[au aW]at H;exact absurd H (by simp)
      ·rw[au c17]at H;have b8:decide (z<12)=false:=ay c17;clear c17;obtain rfl:=aC H;go_wp2;go_ret;exact⟨eR,oB G⟩
mutual
def cm.j0:Nat→Int→Int→Int→Bool→Option (Int)
 |0,_,_,_,_=>none
 |k+1,x0,x1,x2,u=>if u=true then(some 0)else(if x1=1 then((cx.f (wrap64 (Int.tdiv (mx 0 (wrap64 ((wrap64 (3*x0))-x2))) 2))).bind fun t121=>(if t121=true then(some (wrap64 (Int.tdiv (mx 0 (wrap64 ((wrap64 (3*x0))-x2))) 2)))else(some 0)))else(if x1=2 then((cx.f (wrap64 (Int.tdiv (mx 0 (wrap64 ((wrap64 (3*x0))-x2))) 4))).bind fun t122=>(if t122=true then(some (wrap64 (Int.tdiv (mx 0 (wrap64 ((wrap64 (3*x0))-x2))) 4)))else(some 0)))else(if x1=3 then(cm.j1 k x0 x1 x2 0 (x2==0))else(cm.j1 k x0 x1 x2 0 false))))
def cm.j1:Nat→Int→Int→Int→Int→Bool→Option (Int)
 |0,_,_,_,_,_=>none
 |k+1,x0,x1,x2,u,z=>if z=true then((cx.f (wrap64 (2*x0))).bind fun t123=>(if t123=true then(some (wrap64 (2*x0)))else(some 0)))else(if x1=4 then(cm.j2 k x0 u (x2==0))else(cm.j2 k x0 u false))
def cm.j2:Nat→Int→Int→Bool→Option (Int)
 |0,_,_,_=>none
 |k+1,x0,u,z=>if z=true then((cx.f (wrap64 (Int.tdiv x0 2))).bind fun t124=>(if t124=true then(some (wrap64 (Int.tdiv x0 2)))else(some 0)))else((cx.f u).bind fun t125=>(if t125=true then(some u)else(some 0)))
end
def cm.f (k:Nat) (a0:Int) (a1:Int) (a2:Int):Option (Int):=(cx.f a0).bind fun t119=>(if t119=true then((cn.f a2 0 100000).bind fun t120=>(cm.j0 k a0 a1 a2 (!t120)))else(cm.j0 k a0 a1 a2 true))
theorem cm.c (k:Nat) (a0:Int) (a1:Int) (a2:Int) (r:Int) (w:World) (h:cm.f k a0 a1 a2=some r):
  Calls Tryz.prog 122 #[.int .i64 a0,.int .i64 a1,.int .i64 a2] w fun e w'=>e= .returned (.int .i64 r)∧Below w.heap.size w w':=by
 have u:=A_ (Below.refl w.heap.size w);have H:((cx.f a0).bind fun t119=>(if t119=true then((cn.f a2 0 100000).bind fun t120=>(cm.j0 k a0 a1 a2 (!t120)))else(cm.j0 k a0 a1 a2 true)))=some r:=h;clear h;have al:=A_ H;clear H;go_enter Tryz.func122,Tryz.ntmps122
 go_upto_region 1 with (fail)
 go_cut [15] (fun v15 wc=>∃(z:Nat) (af:Bool),v15= .bool af∧ae (cm.j0 z a0 a1 a2 af=some r)∧ae (z≤k)∧ae (Below w.heap.size w wc))
 case first=>
  have H:=al.out;clear al;replace H:=az H;obtain⟨t119,aN,H⟩:=H
  (try dsimp only at H)
  have aM:=A_ aN;clear aN;by_cases c6:t119=true
  ·subst c6;rw[aq rfl]at H;replace H:=az H;obtain⟨t120,aO,H⟩:=H
   (try dsimp only at H)
   have aS:=A_ aO;clear aO;have H':=A_ H;clear H
   go_wp2_with (first|((with_reducible refine bC (f:=125) rfl ?_);refine gL (some 9) Tryz.func125 #[.int .i64 a0] ?_;(with_reducible refine(cx.c a0 true _ aM.out).mono ?_);rintro e w' ⟨rfl,⟨nd,rfl⟩⟩;refine⟨_,rfl,?_⟩)|(go_at_call 88;(with_reducible refine(cn.c a2 0 100000 t120 _ aS.out).mono ?_);rintro e w' ⟨rfl,⟨nd,rfl⟩⟩))
   go_meet
   case rel=>exact⟨_,(!t120),eS,H',⟨by first|omega|exact Nat.le_refl _⟩,⟨oB u⟩⟩
  ·replace c6:=Bool.eq_false_iff.mpr c6;subst c6;rw[au (show¬(false=true)by decide)]at H;have H':=A_ H;clear H
   go_wp2_with (first|((with_reducible refine bC (f:=125) rfl ?_);refine gL (some 9) Tryz.func125 #[.int .i64 a0] ?_;(with_reducible refine(cx.c a0 false _ aM.out).mono ?_);rintro e w' ⟨rfl,⟨nd,rfl⟩⟩;refine⟨_,rfl,?_⟩))
   go_meet
   case rel=>exact⟨_,(true),eS,H',⟨by first|omega|exact Nat.le_refl _⟩,⟨oB u⟩⟩
 case rest=>
  clear al
  try clear c1
  try clear p2
  try clear c6
  obtain⟨z,af,rfl,D,X,u⟩:=hcut;cases z with
  |zero=>exact absurd D.out (by simp[cm.j0])
  |succ aU=>
   have H:=D.out;clear D;simp only[cm.j0]at H;by_cases c8:af=true
   ·subst c8;rw[aq rfl]at H;obtain rfl:=aC H;go_wp2;go_ret;exact⟨eR,oB u⟩
   ·replace c8:=Bool.eq_false_iff.mpr c8;subst c8;rw[au (show¬(false=true)by decide)]at H;by_cases c9:a1=1
    ·rw[aq c9]at H;have ar:(a1==1)=true:=beq_iff_eq.mpr c9;have av:(a1 != 1)=false:=bne_eq_false_iff_eq.mpr c9;clear c9;obtain⟨K,I⟩:∃aw:Int,(mx 0 (wrap64 ((wrap64 (3*a0))-a2)))=aw:=⟨_,rfl⟩;replace H:((cx.f (wrap64 (Int.tdiv (K) 2))).bind fun t121=>(if t121=true then(some (wrap64 (Int.tdiv (K) 2)))else(some 0)))=some r:=by first|(rw[I]at H;exact H)|(simp only[I]at H ⊢;exact H)
     have aW:(if 0<(wrap64 ((wrap64 (3*a0))-a2))then(wrap64 ((wrap64 (3*a0))-a2))else 0)=K:=I;replace H:=az H;obtain⟨t121,aD,H⟩:=H
     (try dsimp only at H)
     have aB:=A_ aD;clear aD;by_cases c12:t121=true
     ·subst c12;rw[aq rfl]at H;obtain rfl:=aC H
      go_wp2_with (first|((with_reducible refine bC (f:=125) rfl ?_);refine jz (some 53) rfl rfl Tryz.func125 (by kernel_rfl) rfl #[.int .i64 (wrap64 (Int.tdiv (K) 2))] rfl (by(try simp only[List.map_toArray,List.map_cons,List.map_nil]);first|done|(simp only[I];rfl)|rfl|(simp only[List.length_drop,List.length_take];rfl)) ?_;(with_reducible refine(cx.c (wrap64 (Int.tdiv (K) 2)) true _ aB.out).mono ?_);rintro e w' ⟨rfl,⟨nd,rfl⟩⟩;refine⟨_,rfl,?_⟩))
      go_ret;exact⟨by first|rfl|(simp[dL,dM]<;>rfl)|(simp only[←I];first|rfl|(simp[dL,dM]<;>rfl))|(simp[*,dL,dM]<;>rfl),oB u⟩
     ·replace c12:=Bool.eq_false_iff.mpr c12;subst c12;rw[au (show¬(false=true)by decide)]at H;obtain rfl:=aC H
      go_wp2_with (first|((with_reducible refine bC (f:=125) rfl ?_);refine jz (some 53) rfl rfl Tryz.func125 (by kernel_rfl) rfl #[.int .i64 (wrap64 (Int.tdiv (K) 2))] rfl (by(try simp only[List.map_toArray,List.map_cons,List.map_nil]);first|done|(simp only[I];rfl)|rfl|(simp only[List.length_drop,List.length_take];rfl)) ?_;(with_reducible refine(cx.c (wrap64 (Int.tdiv (K) 2)) false _ aB.out).mono ?_);rintro e w' ⟨rfl,⟨nd,rfl⟩⟩;refine⟨_,rfl,?_⟩))
      go_ret;exact⟨by first|rfl|(simp[dL,dM]<;>rfl)|(simp only[←I];first|rfl|(simp[dL,dM]<;>rfl))|(simp[*,dL,dM]<;>rfl),oB u⟩
    ·rw[au c9]at H;have ar:(a1==1)=false:=beq_eq_false_iff_ne.mpr c9;have av:(a1 != 1)=true:=bne_iff_ne.mpr c9;by_cases c13:a1=2
     ·rw[aq c13]at H;have am:(a1==2)=true:=beq_iff_eq.mpr c13;have ao:(a1 != 2)=false:=bne_eq_false_iff_eq.mpr c13;clear c13;obtain⟨O,J⟩:∃aw:Int,(mx 0 (wrap64 ((wrap64 (3*a0))-a2)))=aw:=⟨_,rfl⟩;replace H:((cx.f (wrap64 (Int.tdiv (O) 4))).bind fun t122=>(if t122=true then(some (wrap64 (Int.tdiv (O) 4)))else(some 0)))=some r:=by first|(rw[J]at H;exact H)|(simp only[J]at H ⊢;exact H)
      have aX:(if 0<(wrap64 ((wrap64 (3*a0))-a2))then(wrap64 ((wrap64 (3*a0))-a2))else 0)=O:=J;replace H:=az H;obtain⟨t122,aF,H⟩:=H
      (try dsimp only at H)
      have aE:=A_ aF;clear aF;by_cases c16:t122=true
      ·subst c16;rw[aq rfl]at H;obtain rfl:=aC H
       go_wp2_with (first|((with_reducible refine bC (f:=125) rfl ?_);refine jz (some 53) rfl rfl Tryz.func125 (by kernel_rfl) rfl #[.int .i64 (wrap64 (Int.tdiv (O) 4))] rfl (by(try simp only[List.map_toArray,List.map_cons,List.map_nil]);first|done|(simp only[J];rfl)|rfl|(simp only[List.length_drop,List.length_take];rfl)) ?_;(with_reducible refine(cx.c (wrap64 (Int.tdiv (O) 4)) true _ aE.out).mono ?_);rintro e w' ⟨rfl,⟨nd,rfl⟩⟩;refine⟨_,rfl,?_⟩))
       go_ret;exact⟨by first|rfl|(simp[dL,dM]<;>rfl)|(simp only[←J];first|rfl|(simp[dL,dM]<;>rfl))|(simp[*,dL,dM]<;>rfl),oB u⟩
      ·replace c16:=Bool.eq_false_iff.mpr c16;subst c16;rw[au (show¬(false=true)by decide)]at H;obtain rfl:=aC H
       go_wp2_with (first|((with_reducible refine bC (f:=125) rfl ?_);refine jz (some 53) rfl rfl Tryz.func125 (by kernel_rfl) rfl #[.int .i64 (wrap64 (Int.tdiv (O) 4))] rfl (by(try simp only[List.map_toArray,List.map_cons,List.map_nil]);first|done|(simp only[J];rfl)|rfl|(simp only[List.length_drop,List.length_take];rfl)) ?_;(with_reducible refine(cx.c (wrap64 (Int.tdiv (O) 4)) false _ aE.out).mono ?_);rintro e w' ⟨rfl,⟨nd,rfl⟩⟩;refine⟨_,rfl,?_⟩))
       go_ret;exact⟨by first|rfl|(simp[dL,dM]<;>rfl)|(simp only[←J];first|rfl|(simp[dL,dM]<;>rfl))|(simp[*,dL,dM]<;>rfl),oB u⟩
     ·rw[au c13]at H;have am:(a1==2)=false:=beq_eq_false_iff_ne.mpr c13;have ao:(a1 != 2)=true:=bne_iff_ne.mpr c13;have aj:=A_ H;clear H
      go_upto_region 8 with (fail)
      go_cut [34] (fun v34 wc=>∃(z:Nat) (ah:Bool),v34= .bool ah∧ae (cm.j1 z a0 a1 a2 0 ah=some r)∧ae (z≤aU)∧ae (Below w.heap.size w wc))
      case first=>
       have H:=aj.out;clear aj;by_cases c18:a1=3
       ·rw[aq c18]at H;have G:(a1==3)=true:=beq_iff_eq.mpr c18;have ap:(a1 != 3)=false:=bne_eq_false_iff_eq.mpr c18;clear c18
        (first|rw[G]|(simp only[cd,ct];rw[G])|skip)
        have H':=A_ H;clear H;go_wp2
        go_meet
        case rel=>exact⟨_,((a2==0)),eS,H',⟨by have:=X.out;first|omega|exact Nat.le_refl _⟩,⟨oB u⟩⟩
       ·rw[au c18]at H;have G:(a1==3)=false:=beq_eq_false_iff_ne.mpr c18;have ap:(a1 != 3)=true:=bne_iff_ne.mpr c18
        (first|rw[G]|(simp only[cd,ct];rw[G])|skip)
        have H':=A_ H;clear H;go_wp2
        go_meet
        case rel=>exact⟨_,(false),eS,H',⟨by have:=X.out;first|omega|exact Nat.le_refl _⟩,⟨oB u⟩⟩
      case rest=>
       clear aj
       try clear c1
       try clear p2
       try clear c6
       try clear aR
       try clear c8
       try clear c9
       try clear ar
       try clear av
       try clear c12
       try clear c13
       try clear am
       try clear ao
       try clear c16
       try clear c18
       try clear G
       try clear ap
       try clear p2
       obtain⟨z,ah,rfl,D,aP,u⟩:=hcut;cases z with
       |zero=>exact absurd D.out (by simp[cm.j1])
       |succ aT=>
        have H:=D.out;clear D;simp only[cm.j1]at H;by_cases c19:ah=true
        ·subst c19;rw[aq rfl]at H;replace H:=az H;obtain⟨t123,aH,H⟩:=H
         (try dsimp only at H)
         have aG:=A_ aH;clear aH;by_cases V:t123=true
         ·subst V;rw[aq rfl]at H;obtain rfl:=aC H
          go_wp2_with (first|((with_reducible refine bC (f:=125) rfl ?_);refine gL (some 53) Tryz.func125 #[.int .i64 (wrap64 (2*a0))] ?_;(with_reducible refine(cx.c (wrap64 (2*a0)) true _ aG.out).mono ?_);rintro e w' ⟨rfl,⟨nd,rfl⟩⟩;refine⟨_,rfl,?_⟩))
          go_ret;exact⟨eR,oB u⟩
         ·replace V:=Bool.eq_false_iff.mpr V;subst V;rw[au (show¬(false=true)by decide)]at H;obtain rfl:=aC H
          go_wp2_with (first|((with_reducible refine bC (f:=125) rfl ?_);refine gL (some 53) Tryz.func125 #[.int .i64 (wrap64 (2*a0))] ?_;(with_reducible refine(cx.c (wrap64 (2*a0)) false _ aG.out).mono ?_);rintro e w' ⟨rfl,⟨nd,rfl⟩⟩;refine⟨_,rfl,?_⟩))
          go_ret;exact⟨eR,oB u⟩
        ·replace c19:=Bool.eq_false_iff.mpr c19;subst c19;rw[au (show¬(false=true)by decide)]at H;have ak:=A_ H;clear H
         go_upto_region 10 with (fail)
         go_cut [43] (fun v43 wc=>∃(z:Nat) (ai:Bool),v43= .bool ai∧ae (cm.j2 z a0 0 ai=some r)∧ae (z≤aT)∧ae (Below w.heap.size w wc))
         case first=>
          have H:=ak.out;clear ak;by_cases F:a1=4
          ·rw[aq F]at H;have U:(a1==4)=true:=beq_iff_eq.mpr F;have aQ:(a1 != 4)=false:=bne_eq_false_iff_eq.mpr F;clear F
           (first|rw[U]|(simp only[cd,ct];rw[U])|skip)
           have H':=A_ H;clear H;go_wp2
           go_meet
           case rel=>exact⟨_,((a2==0)),eS,H',⟨by have:=X.out;have:=aP.out;first|omega|exact Nat.le_refl _⟩,⟨oB u⟩⟩
          ·rw[au F]at H;have U:(a1==4)=false:=beq_eq_false_iff_ne.mpr F;have aQ:(a1 != 4)=true:=bne_iff_ne.mpr F
           (first|rw[U]|(simp only[cd,ct];rw[U])|skip)
           have H':=A_ H;clear H;go_wp2
           go_meet
           case rel=>exact⟨_,(false),eS,H',⟨by have:=X.out;have:=aP.out;first|omega|exact Nat.le_refl _⟩,⟨oB u⟩⟩
         case rest=>
          clear ak
          try clear c1
          try clear c2
          try clear p2
          try clear c6
          try clear aR
          try clear c8
          try clear c9
          try clear ar
          try clear av
          try clear c12
          try clear c13
          try clear am
          try clear ao
          try clear c16
          try clear c18
          try clear G
          try clear ap
          try clear c19
          try clear V
          try clear F
          try clear U
          try clear aQ
          try clear p2
          try clear aR
          obtain⟨z,ai,rfl,D,aV,u⟩:=hcut;cases z with
          |zero=>exact absurd D.out (by simp[cm.j2])
          |succ aY=>
           have H:=D.out;clear D;simp only[cm.j2]at H;by_cases Y:ai=true
           ·subst Y;rw[aq rfl]at H;replace H:=az H;obtain⟨t124,aJ,H⟩:=H
            (try dsimp only at H)
            have aI:=A_ aJ;clear aJ;by_cases Z:t124=true
            ·subst Z;rw[aq rfl]at H;obtain rfl:=aC H
             go_wp2_with (first|((with_reducible refine bC (f:=125) rfl ?_);refine gL (some 53) Tryz.func125 #[.int .i64 (wrap64 (Int.tdiv a0 2))] ?_;(with_reducible refine(cx.c (wrap64 (Int.tdiv a0 2)) true _ aI.out).mono ?_);rintro e w' ⟨rfl,⟨nd,rfl⟩⟩;refine⟨_,rfl,?_⟩))
             go_ret;exact⟨eR,oB u⟩
            ·replace Z:=Bool.eq_false_iff.mpr Z;subst Z;rw[au (show¬(false=true)by decide)]at H;obtain rfl:=aC H
             go_wp2_with (first|((with_reducible refine bC (f:=125) rfl ?_);refine gL (some 53) Tryz.func125 #[.int .i64 (wrap64 (Int.tdiv a0 2))] ?_;(with_reducible refine(cx.c (wrap64 (Int.tdiv a0 2)) false _ aI.out).mono ?_);rintro e w' ⟨rfl,⟨nd,rfl⟩⟩;refine⟨_,rfl,?_⟩))
             go_ret;exact⟨eR,oB u⟩
           ·replace Y:=Bool.eq_false_iff.mpr Y;subst Y;rw[au (show¬(false=true)by decide)]at H;replace H:=az H;obtain⟨t125,aL,H⟩:=H
            (try dsimp only at H)
            have aK:=A_ aL;clear aL;by_cases ad:t125=true
            ·subst ad;rw[aq rfl]at H;obtain rfl:=aC H
             go_wp2_with (first|((with_reducible refine bC (f:=125) rfl ?_);refine gL (some 53) Tryz.func125 #[.int .i64 0] ?_;(with_reducible refine(cx.c 0 true _ aK.out).mono ?_);rintro e w' ⟨rfl,⟨nd,rfl⟩⟩;refine⟨_,rfl,?_⟩))
             go_ret;exact⟨eR,oB u⟩
            ·replace ad:=Bool.eq_false_iff.mpr ad;subst ad;rw[au (show¬(false=true)by decide)]at H;obtain rfl:=aC H
             go_wp2_with (first|((with_reducible refine bC (f:=125) rfl ?_);refine gL (some 53) Tryz.func125 #[.int .i64 0] ?_;(with_reducible refine(cx.c 0 false _ aK.out).mono ?_);rintro e w' ⟨rfl,⟨nd,rfl⟩⟩;refine⟨_,rfl,?_⟩))
             go_ret;exact⟨eR,oB u⟩
def iq.f (l0:List (ai)):Option ((List (ai))):=(some (([]:List (ai)):List (ai))).bind fun u=>(if u.length+l0.length<4398046511104 then(some (u++l0))else(none))
theorem iq.c (U:Option Addr) (c0:Nat) (l0:List (ai)) (r:List (ai)) (w:World) (Y:Kd.C aU w U l0.length l0) (hc0:l0.length≤c0) (h:iq.f l0=some r):
  Calls Tryz.prog 126 #[.slice U l0.length c0] w fun e w'=>∃Z:Value,e= .returned (Z)∧Kd.R aU 112 w' w.heap.size (fun _=>True) Z r∧Below w.heap.size w w':=by
 have af:=A_ Y;have ao:=A_ hc0;clear Y hc0;have u:=A_ (Below.refl w.heap.size w);have H:((some (([]:List (ai)):List (ai))).bind fun z=>(if z.length+l0.length<4398046511104 then(some (z++l0))else(none)))=some r:=h;clear h;obtain⟨z,G⟩:∃O:List (ai),O=(([]:List (ai))):=⟨_,rfl⟩;replace H:(if z.length+l0.length<4398046511104 then(some (z++l0))else(none))=some r:=by first|(rw[G];with_reducible exact H)|(have D:=(aA _ _).symm.trans H;rw[G];with_reducible exact D)|(have D:=(aA _ _).symm.trans H;with_reducible exact D)|with_reducible exact H|(rw[G];exact H)|exact H
 have X:=A_ G;clear G;by_cases c2:z.length+l0.length<4398046511104
 ·rw[aq c2]at H;have ah:=A_ c2;clear c2;obtain⟨am,I⟩:∃O:List (ai),O=(z++l0):=⟨_,rfl⟩;replace H:(some am)=some r:=by first|(rw[I];with_reducible exact H)|(have D:=(aA _ _).symm.trans H;rw[I];with_reducible exact D)|(have D:=(aA _ _).symm.trans H;with_reducible exact D)|with_reducible exact H|(rw[I];exact H)|exact H
  have aj:=A_ I;clear I;obtain rfl:=aC H;go_enter Tryz.func126,Tryz.ntmps126
  go_wp2_with (first|((with_reducible refine aJ (N:=3) rfl ?_);refine Kd.fE aU _ 112 ?hg (N:=3) ?hd (xs:=([]:List (ai))) (inner:=[]) (ok:=fun _=>True) (bN:=fun _=>True) ?hr ?hp (fun _ hk=>hk) trivial (Below.refl _ _) (Nat.le_refl _) (by simp) ?_;(case hd=>rfl);(case hg=>rfl);(case hr=>first|(go_simp;done)|(go_simp;rfl));(case hp=>exact(aY.none _ _));intro v145 w3 F hb ak al;clear ak al;(first|rw[←X.out]at F|(simp only[Int.reduceToNat]at F;rw[←X.out]at F));have J:=A_ (Kd.dg F (bm (oB u)));have K:=A_ (bn (oB u) hb);clear u;have V:=J;have u:=K;clear J K hb F)|((with_reducible refine iF (b:= .append) (xs:= #[.tmp 3,.tmp 4]) rfl ?_);at_builtin;refine Kd.mA aU (w0:=w) w.heap.size rfl (.tmp 3) (.tmp 4) 32 112 (.agg #[(.int .i64 0),(.int .i64 0),(.int .i64 0),(.int .i64 0)]) 32 rfl Tryz.underlying32 mS rfl (by decide) (by omega) v145 z l0 _ _ _ (fun _=>True) (fun _=>False) rfl rfl ?aO ?aR (fun _ _ h=>h) (fun _ h=>h.elim) ?aF ?aB ?aS ?aL ?_;(case aR=>exact bP af.out);(case aB=>exact(oB u));(case aF=>exact(fun _ _=>trivial));(case aO=>exact(oR V));(case aS=>exact(bm (oB u)));(case aL=>have:=ah.out;omega);intro v148 ap ho hb hg hat;rw[←aj.out]at ho;have J:=A_ (hb);have K:=A_ (ho);clear u V;have u:=J;have ad:=K;clear J K ho hb hg hat))
  go_ret;exact⟨_,eR,oR ad,oB u⟩
 ·rw[au c2]at H;exact absurd H (by simp)
def ml.f (l0:List Int):Option (List Int):=(some (([]:List Int):List Int)).bind fun u=>(if u.length+l0.length<17592186044416 then(some (u++l0))else(none))
theorem ml.c (U:Option Addr) (c0:Nat) (l0:List Int) (r:List Int) (w:World) (Y:Kd.C (Kd.int .i64) w U l0.length l0) (hc0:l0.length≤c0) (h:ml.f l0=some r):
  Calls Tryz.prog 127 #[.slice U l0.length c0] w fun e w'=>∃Z:Value,e= .returned (Z)∧Kd.R (Kd.int .i64) 3 w' w.heap.size (fun _=>True) Z r∧Below w.heap.size w w':=by
 have af:=A_ Y;have ao:=A_ hc0;clear Y hc0;have u:=A_ (Below.refl w.heap.size w);have H:((some (([]:List Int):List Int)).bind fun z=>(if z.length+l0.length<17592186044416 then(some (z++l0))else(none)))=some r:=h;clear h;obtain⟨z,G⟩:∃O:List Int,O=(([]:List Int)):=⟨_,rfl⟩;replace H:(if z.length+l0.length<17592186044416 then(some (z++l0))else(none))=some r:=by first|(rw[G];with_reducible exact H)|(have D:=(aA _ _).symm.trans H;rw[G];with_reducible exact D)|(have D:=(aA _ _).symm.trans H;with_reducible exact D)|with_reducible exact H|(rw[G];exact H)|exact H
 have X:=A_ G;clear G;by_cases c2:z.length+l0.length<17592186044416
 ·rw[aq c2]at H;have ah:=A_ c2;clear c2;obtain⟨am,I⟩:∃O:List Int,O=(z++l0):=⟨_,rfl⟩;replace H:(some am)=some r:=by first|(rw[I];with_reducible exact H)|(have D:=(aA _ _).symm.trans H;rw[I];with_reducible exact D)|(have D:=(aA _ _).symm.trans H;with_reducible exact D)|with_reducible exact H|(rw[I];exact H)|exact H
  have ai:=A_ I;clear I;obtain rfl:=aC H;go_enter Tryz.func127,Tryz.ntmps127
  go_wp2_with (first|((with_reducible refine aJ (N:=3) rfl ?_);refine Kd.fE (Kd.int .i64) _ 3 ?hg (N:=3) ?hd (xs:=([]:List Int)) (inner:=[]) (ok:=fun _=>True) (bN:=fun _=>True) ?hr ?hp (fun _ hk=>hk) trivial (Below.refl _ _) (Nat.le_refl _) (by simp) ?_;(case hd=>rfl);(case hg=>rfl);(case hr=>first|(go_simp;done)|(go_simp;rfl));(case hp=>exact(aY.none _ _));intro al w3 F hb aj ak;clear aj ak;(first|rw[←X.out]at F|(simp only[Int.reduceToNat]at F;rw[←X.out]at F));have J:=A_ (Kd.dg F (bm (oB u)));have K:=A_ (bn (oB u) hb);clear u;have V:=J;have u:=K;clear J K hb F)|((with_reducible refine iF (b:= .append) (xs:= #[.tmp 3,.tmp 4]) rfl ?_);at_builtin;refine Kd.mA (Kd.int .i64) (w0:=w) w.heap.size rfl (.tmp 3) (.tmp 4) 23 3 (.int .i64 0) 8 rfl Tryz.underlying23 info3 rfl (by decide) (by omega) al z l0 _ _ _ (fun _=>True) (fun _=>False) rfl rfl ?aO ?aR (fun _ _ h=>h) (fun _ h=>h.elim) ?aF ?aB ?aS ?aL ?_;(case aR=>exact bP af.out);(case aB=>exact(oB u));(case aF=>exact(fun _ _=>trivial));(case aO=>exact(oR V));(case aS=>exact(bm (oB u)));(case aL=>have:=ah.out;omega);intro v154 ap ho hb hg hat;rw[←ai.out]at ho;have J:=A_ (hb);have K:=A_ (ho);clear u V;have u:=J;have ad:=K;clear J K ho hb hg hat))
  go_ret;exact⟨_,eR,oR ad,oB u⟩
 ·rw[au c2]at H;exact absurd H (by simp)
def gG.f (l0:List (ah)):Option ((List (ah))):=(some (([]:List (ah)):List (ah))).bind fun u=>(if u.length+l0.length<4398046511104 then(some (u++l0))else(none))
theorem gG.c (U:Option Addr) (c0:Nat) (l0:List (ah)) (r:List (ah)) (w:World) (Y:Kd.C aT w U l0.length l0) (hc0:l0.length≤c0) (h:gG.f l0=some r):
  Calls Tryz.prog 96 #[.slice U l0.length c0] w fun e w'=>∃Z:Value,e= .returned (Z)∧Kd.R aT 104 w' w.heap.size (fun _=>True) Z r∧Below w.heap.size w w':=by
 have af:=A_ Y;have ap:=A_ hc0;clear Y hc0;have u:=A_ (Below.refl w.heap.size w);have H:((some (([]:List (ah)):List (ah))).bind fun z=>(if z.length+l0.length<4398046511104 then(some (z++l0))else(none)))=some r:=h;clear h;obtain⟨z,G⟩:∃O:List (ah),O=(([]:List (ah))):=⟨_,rfl⟩;replace H:(if z.length+l0.length<4398046511104 then(some (z++l0))else(none))=some r:=by first|(rw[G];with_reducible exact H)|(have D:=(aA _ _).symm.trans H;rw[G];with_reducible exact D)|(have D:=(aA _ _).symm.trans H;with_reducible exact D)|with_reducible exact H|(rw[G];exact H)|exact H
 have X:=A_ G;clear G;by_cases c2:z.length+l0.length<4398046511104
 ·rw[aq c2]at H;have ai:=A_ c2;clear c2;obtain⟨ao,I⟩:∃O:List (ah),O=(z++l0):=⟨_,rfl⟩;replace H:(some ao)=some r:=by first|(rw[I];with_reducible exact H)|(have D:=(aA _ _).symm.trans H;rw[I];with_reducible exact D)|(have D:=(aA _ _).symm.trans H;with_reducible exact D)|with_reducible exact H|(rw[I];exact H)|exact H
  have aj:=A_ I;clear I;obtain rfl:=aC H;go_enter Tryz.func96,Tryz.ntmps96
  go_wp2_with (first|((with_reducible refine aJ (N:=3) rfl ?_);refine Kd.fE aT _ 104 ?hg (N:=3) ?hd (xs:=([]:List (ah))) (inner:=[]) (ok:=fun _=>True) (bN:=fun _=>True) ?hr ?hp (fun _ hk=>hk) trivial (Below.refl _ _) (Nat.le_refl _) (by simp) ?_;(case hd=>rfl);(case hg=>rfl);(case hr=>first|(go_simp;done)|(go_simp;rfl));(case hp=>exact(aY.none _ _));intro am w3 F hb ak al;clear ak al;(first|rw[←X.out]at F|(simp only[Int.reduceToNat]at F;rw[←X.out]at F));have J:=A_ (Kd.dg F (bm (oB u)));have K:=A_ (bn (oB u) hb);clear u;have V:=J;have u:=K;clear J K hb F)|((with_reducible refine iF (b:= .append) (xs:= #[.tmp 3,.tmp 4]) rfl ?_);at_builtin;refine Kd.mA aT (w0:=w) w.heap.size rfl (.tmp 3) (.tmp 4) 35 104 (.agg #[(.int .i64 0),(.int .i64 0),(.int .i64 0),(.int .i64 0)]) 32 rfl Tryz.underlying35 lX rfl (by decide) (by omega) am z l0 _ _ _ (fun _=>True) (fun _=>False) rfl rfl ?aO ?aR (fun _ _ h=>h) (fun _ h=>h.elim) ?aF ?aB ?aS ?aL ?_;(case aR=>exact bP af.out);(case aB=>exact(oB u));(case aF=>exact(fun _ _=>trivial));(case aO=>exact(oR V));(case aS=>exact(bm (oB u)));(case aL=>have:=ai.out;omega);intro v168 ar ho hb hg hat;rw[←aj.out]at ho;have J:=A_ (hb);have K:=A_ (ho);clear u V;have u:=J;have ad:=K;clear J K ho hb hg hat))
  go_ret;exact⟨_,eR,oR ad,oB u⟩
 ·rw[au c2]at H;exact absurd H (by simp)
def mj.f (a0:Int) (a1:Int):Option (Int):=(cx.f a0).bind fun u=>(if u=true then((cn.f a1 (-10) 40).bind fun z=>(if z=true then(some (wrap64 (Int.tdiv (wrap64 (a0*(wrap64 (1000+(wrap64 (2*(wrap64 (a1-15)))))))) 1000)))else(some 0)))else(some 0))
theorem mj.c (a0:Int) (a1:Int) (r:Int) (w:World) (h:mj.f a0 a1=some r):
  Calls Tryz.prog 103 #[.int .i64 a0,.int .i64 a1] w fun e w'=>e= .returned (.int .i64 r)∧bw w w':=by
 have H:((cx.f a0).bind fun z=>(if z=true then((cn.f a1 (-10) 40).bind fun D=>(if D=true then(some (wrap64 (Int.tdiv (wrap64 (a0*(wrap64 (1000+(wrap64 (2*(wrap64 (a1-15)))))))) 1000)))else(some 0)))else(some 0)))=some r:=h;clear h;replace H:=az H;obtain⟨z,F,H⟩:=H
 (try dsimp only at H)
 have u:=A_ F;clear F;by_cases c4:z=true
 ·subst c4;rw[aq rfl]at H;replace H:=az H;obtain⟨D,I,H⟩:=H
  (try dsimp only at H)
  have G:=A_ I;clear I;by_cases c6:D=true
  ·subst c6;rw[aq rfl]at H;obtain rfl:=aC H;go_enter Tryz.func103,Tryz.ntmps103
   go_wp2_with (first|((with_reducible refine bC (f:=125) rfl ?_);refine gL (some 6) Tryz.func125 #[.int .i64 a0] ?_;(with_reducible refine(cx.c a0 true _ u.out).mono ?_);rintro e w' ⟨rfl,⟨nd,rfl⟩⟩;refine⟨_,rfl,?_⟩)|(go_at_call 88;(with_reducible refine(cn.c a1 (-10) 40 true _ G.out).mono ?_);rintro e w' ⟨rfl,⟨nd,rfl⟩⟩))
   go_ret;exact⟨eS,by repeat(first|exact bw.refl _|apply bw.step)⟩
  ·replace c6:=Bool.eq_false_iff.mpr c6;subst c6;rw[au (show¬(false=true)by decide)]at H;obtain rfl:=aC H;go_enter Tryz.func103,Tryz.ntmps103
   go_wp2_with (first|((with_reducible refine bC (f:=125) rfl ?_);refine gL (some 6) Tryz.func125 #[.int .i64 a0] ?_;(with_reducible refine(cx.c a0 true _ u.out).mono ?_);rintro e w' ⟨rfl,⟨nd,rfl⟩⟩;refine⟨_,rfl,?_⟩)|(go_at_call 88;(with_reducible refine(cn.c a1 (-10) 40 false _ G.out).mono ?_);rintro e w' ⟨rfl,⟨nd,rfl⟩⟩))
   go_ret;exact⟨eS,by repeat(first|exact bw.refl _|apply bw.step)⟩
 ·replace c4:=Bool.eq_false_iff.mpr c4;subst c4;rw[au (show¬(false=true)by decide)]at H;obtain rfl:=aC H;go_enter Tryz.func103,Tryz.ntmps103
  go_wp2_with (first|((with_reducible refine bC (f:=125) rfl ?_);refine gL (some 6) Tryz.func125 #[.int .i64 a0] ?_;(with_reducible refine(cx.c a0 false _ u.out).mono ?_);rintro e w' ⟨rfl,⟨nd,rfl⟩⟩;refine⟨_,rfl,?_⟩))
  go_ret;exact⟨eS,by repeat(first|exact bw.refl _|apply bw.step)⟩
def iK.f (a0:Bool):Option (Int):=if a0=true then(some 1)else(some 0)
theorem iK.c (a0:Bool) (r:Int) (w:World) (h:iK.f a0=some r):
  Calls Tryz.prog 53 #[.bool a0] w fun e w'=>e= .returned (.int .i64 r)∧bw w w':=by
 have H:(if a0=true then(some 1)else(some 0))=some r:=h;clear h;by_cases c2:a0=true
 ·subst c2;rw[aq rfl]at H;obtain rfl:=aC H;go_enter Tryz.func53,Tryz.ntmps53;go_wp2;go_ret;exact⟨eS,by repeat(first|exact bw.refl _|apply bw.step)⟩
 ·replace c2:=Bool.eq_false_iff.mpr c2;subst c2;rw[au (show¬(false=true)by decide)]at H;obtain rfl:=aC H;go_enter Tryz.func53,Tryz.ntmps53;go_wp2;go_ret;exact⟨eS,by repeat(first|exact bw.refl _|apply bw.step)⟩
def aZ (w0 W:World) (g:Nat) (f0:List Int) (f1:Int) (f2:Int):Prop:=∃u c0,W.heap[g]? =some (.cells #[.slice u f0.length c0,.int .i64 f1,.int .i64 f2] 132 (0,0))∧w0.heap.size≤g∧Kd.C (Kd.int .u8) w0 u f0.length f0
theorem aZ.grown {w0 W:World} {g:Nat} {f0:List Int} {f1:Int} {f2:Int} {W1:World} {row:Option Nat} (h:aZ w0 W g f0 f1 f2) (hw:W.grownBy W1 row) (hne:some g≠row):aZ w0 W1 g f0 f1 f2:=by
 obtain⟨u,c0,hb,hg,z⟩:=h;exact⟨u,c0,nV hb hw hne,hg,z⟩
theorem aZ.kept {w0 W:World} {g:Nat} {f0:List Int} {f1:Int} {f2:Int} {W1:World} {S:Nat→Prop} (h:aZ w0 W g f0 f1 f2) (hk:Kept W W1 S) (hne:¬S g):aZ w0 W1 g f0 f1 f2:=by
 obtain⟨u,c0,hb,hg,z⟩:=h;exact⟨u,c0,vr hb hk hne,hg,z⟩
theorem aZ.below {w0 W:World} {g:Nat} {f0:List Int} {f1:Int} {f2:Int} {W1:World} (h:aZ w0 W g f0 f1 f2) (hw:Below W.heap.size W W1):aZ w0 W1 g f0 f1 f2:=h.grown (rC hw none) (by simp)
theorem aZ.alloc {w0 W:World} {g:Nat} {f0:List Int} {f1:Int} {f2:Int} (h:aZ w0 W g f0 f1 f2) (o:Obj):aZ w0 (W.alloc o) g f0 f1 f2:=h.below (bO (Below.refl _ _) o)
theorem aZ.drewN {w0 W:World} {g:Nat} {f0:List Int} {f1:Int} {f2:Int} (h:aZ w0 W g f0 f1 f2) (m:Nat):aZ w0 (W.drewN m) g f0 f1 f2:=h
theorem aZ.drew {w0 W:World} {g:Nat} {f0:List Int} {f1:Int} {f2:Int} (h:aZ w0 W g f0 f1 f2):aZ w0 W.drew g f0 f1 f2:=h
theorem aZ.at_ {w0 W:World} {g:Nat} {f0:List Int} {f1:Int} {f2:Int} {w':World} {m:Nat} (hq:W.drewN m=w') (h:aZ w0 W g f0 f1 f2):aZ w0 w' g f0 f1 f2:=by subst hq;exact aZ.drewN h m
theorem aZ.apart {w0 W:World} {g:Nat} {f0:List Int} {f1:Int} {f2:Int} {α:Type} {d:Kd α} {e:Nat} {base:Nat} {ok:Nat→Prop} {v:Value} {xs:List α} (h:aZ w0 W g f0 f1 f2) (ho:d.R e W base ok v xs) (ht:∀q,q∈e::d.E→q≠132):d.R e W base (fun k=>ok k∧k≠g) v xs:=by
 obtain⟨u,c0,hb,hg,z⟩:=h;exact Kd.jW ho hb ht
theorem aZ.kp {w0 W:World} {g:Nat} {f0:List Int} {f1:Int} {f2:Int} {α:Type} {d:Kd α} {e:Nat} {base:Nat} {ok:Nat→Prop} {v:Value} {xs:List α} (h:aZ w0 W g f0 f1 f2) (ho:d.R e W base ok v xs) (ht:e≠132):some g≠v.ownBlock:=by
 obtain⟨u,c0,hb,hg,z⟩:=h;exact Kd.jV ho hb ht
theorem aZ.lt {w0 W:World} {g:Nat} {f0:List Int} {f1:Int} {f2:Int} (h:aZ w0 W g f0 f1 f2):g<W.heap.size:=by
 obtain⟨u,c0,hb,hg,z⟩:=h;exact dB hb
theorem aZ.ge {w0 W:World} {g:Nat} {f0:List Int} {f1:Int} {f2:Int} (h:aZ w0 W g f0 f1 f2):w0.heap.size≤g:=by
 obtain⟨u,c0,hb,hg,z⟩:=h;exact hg
theorem aZ.rZ {w0 W:World} {g:Nat} {f0:List Int} {f1:Int} {f2:Int} {a:Nat} {cs:Array Value} {t:TypeId} {fr:Nat×Nat} (h:aZ w0 W g f0 f1 f2) (hb2:W.heap[a]? =some (.cells cs t fr)) (ht:t≠132):g≠a:=by
 obtain⟨u,c0,hb,hg,z⟩:=h;rintro rfl;rw[hb]at hb2;injection hb2 with hb2;injection hb2 with _ ht2;exact ht ht2.symm
theorem aZ.far {w0 W:World} {g:Nat} {f0:List Int} {f1:Int} {f2:Int} {p:Addr} (h:aZ w0 W g f0 f1 f2) (hne:g≠p.block) (u:Value):aZ w0 (W.setCell p u) g f0 f1 f2:=by
 obtain⟨z,c0,hb,hg,D⟩:=h;exact⟨z,c0,fF hb hne u,hg,D⟩
theorem qY {W:World} {g:Nat} {u:Option Addr} {c0:Nat} {f0:List Int} {f1:Int} {f2:Int} (h:W.heap[g]? =some (.cells #[.slice u f0.length c0,.int .i64 f1,.int .i64 f2] 132 (0,0))):W.cell? ⟨g,0,none⟩=some (.slice u f0.length c0):=(cA h 0).trans rfl
theorem qZ {W:World} {g:Nat} {u:Option Addr} {c0:Nat} {f0:List Int} {f1:Int} {f2:Int} (h:W.heap[g]? =some (.cells #[.slice u f0.length c0,.int .i64 f1,.int .i64 f2] 132 (0,0))):W.cell? ⟨g,1,none⟩=some (.int .i64 f1):=(cA h 1).trans rfl
theorem aZ.yv {w0 W:World} {g:Nat} {f0:List Int} {f1:Int} {f2:Int} (h:aZ w0 W g f0 f1 f2) (x:Int):aZ w0 (W.setCell ⟨g,1,none⟩ (.int .i64 x)) g f0 x f2:=by
 obtain⟨u,c0,hb,hg,z⟩:=h;exact⟨u,c0,by simpa using mI hb 1 (.int .i64 x),hg,z⟩
theorem q9 {W:World} {g:Nat} {u:Option Addr} {c0:Nat} {f0:List Int} {f1:Int} {f2:Int} (h:W.heap[g]? =some (.cells #[.slice u f0.length c0,.int .i64 f1,.int .i64 f2] 132 (0,0))):W.cell? ⟨g,2,none⟩=some (.int .i64 f2):=(cA h 2).trans rfl
theorem aZ.yw {w0 W:World} {g:Nat} {f0:List Int} {f1:Int} {f2:Int} (h:aZ w0 W g f0 f1 f2) (x:Int):aZ w0 (W.setCell ⟨g,2,none⟩ (.int .i64 x)) g f0 f1 x:=by
 obtain⟨u,c0,hb,hg,z⟩:=h;exact⟨u,c0,by simpa using mI hb 2 (.int .i64 x),hg,z⟩
theorem b7 {p q:Prop} (h:ae p) (k:p→q:=by intro h_;repeat(first|(with_reducible first|exact h_|apply aZ.alloc|apply aZ.drewN|apply aZ.drew|apply aZ.yv|apply aZ.yw|refine aZ.far ?_ (ae.out (self:=by assumption)) _)|exact h_)):q:=k h.out
theorem cL {p q:Prop} (h:ae p) (k:p→q:=by intro h_;repeat(first|(with_reducible first|exact h_|apply bO|apply cN|apply cg|refine dA ?_ (ae.out (self:=by assumption))|refine dA ?_ (by(try dsimp only);exact aZ.ge (ae.out (self:=by assumption))))|exact h_)):q:=k h.out
def fL.l0:Nat→List Int→Int→Int→Option (List Int×Int×Int)
 |0,_,_,_=>none
 |k+1,x0,x3,u=>if u<(x0.length:Int)then(if u<4000 then(if 0≤u then(fL.l0 k x0 (Go.bits .and .i64 (wrap64 ((wrap64 ((wrap64 (x3*131))+(wrap64 (rd x0 u))))+7)) 1073741823) (wrap64 (u+1)))else(none))else(some (x0,0,x3)))else(some (x0,0,x3))
def fL.f (k:Nat) (l0:List Int):Option (List Int×Int×Int):=fL.l0 k l0 (wrap64 (98939+(l0.length:Int))) 0
theorem fL.c (k:Nat) (O:Option Addr) (c0:Nat) (l0:List Int) (r1:List Int) (r2:Int) (r3:Int) (w0 w:World) (hB:Below w0.heap.size w0 w) (X:Kd.C (Kd.int .u8) w0 O l0.length l0) (hc0:l0.length≤c0) (h:fL.f k l0=some (r1,r2,r3)):
  Calls Tryz.prog 72 #[.slice O l0.length c0] w fun e w'=>∃V:Nat,e= .returned (.pointer (some ⟨V,0,none⟩))∧aZ w0 w' V r1 r2 r3∧Below w0.heap.size w0 w'∧Below w.heap.size w w':=by
 have am:=Tryz.underlying132;have I:=A_ X;have ai:=A_ hc0;clear X hc0;have D:=A_ (Below.refl w.heap.size w);have aj:=A_ hB.size;have z:=A_ hB;clear hB;have H:(fL.l0 k l0 (wrap64 (98939+(l0.length:Int))) 0)=some (r1,r2,r3):=h;clear h;have H':=A_ H;clear H;go_enter Tryz.func72,Tryz.ntmps72;go_wp2
 go_loopg [3,4] k (fun Z v3 v4 w'=>∃(F:Int) (u:Int),v3= .int .i64 F∧v4= .int .i64 u∧ae (fL.l0 Z l0 F u=some (r1,r2,r3))∧ae (Z≤k)∧ae (Below w0.heap.size w0 w')∧ae (Below w.heap.size w w'))
 case atStart=>exact⟨(wrap64 (98939+(l0.length:Int))),(0),eS,eS,H',⟨Nat.le_refl _⟩,⟨oB z⟩,⟨D.out⟩⟩
 case round=>
  clear H' z D;obtain⟨F,u,rfl,rfl,G,U,z,D⟩:=hrel;cases gk with
  |zero=>exact absurd G.out (by simp[fL.l0])
  |succ k1=>
   have H:=G.out;clear G;simp only[fL.l0]at H;by_cases c2:u<(l0.length:Int)
   ·rw[aq c2]at H;have ad:decide (u<(l0.length:Int))=true:=ag c2;clear c2;by_cases c3:u<4000
    ·rw[aq c3]at H;have af:decide (u<4000)=true:=ag c3;clear c3;by_cases c4:0≤u
     ·rw[aq c4]at H;have al:decide (0≤u)=true:=ag c4;clear c4;have H':=A_ H;clear H;have J:0≤(u:Int):=oD;have K:u<(l0.length:Int):=oD;obtain⟨ak,ah,Y⟩:=Kd.dV I.out u J K;cases ah;replace Y:=nb z.out Y;replace J:=ax J;replace K:=ax K;go_wp2
      go_roundg k1
      case measure=>have:=U.out;omega
      case rel=>exact⟨(Go.bits .and .i64 (wrap64 ((wrap64 ((wrap64 (F*131))+(wrap64 (rd l0 u))))+7)) 1073741823),(wrap64 (u+1)),eS,eS,H',⟨by have:=U.out;omega⟩,⟨oB z⟩,D⟩
     ·rw[au c4]at H;exact absurd H (by simp)
    ·rw[au c3]at H;have af:decide (u<4000)=false:=ay c3;clear c3;simp only[Option.some.injEq,Prod.mk.injEq]at H;obtain⟨rfl,rfl,rfl⟩:=H;go_wp2;go_ret;exact⟨_,rfl,⟨_,_,by simpa using heap_alloc_new _ _,z.out.size,I.out⟩,bO z.out _,bO D.out _⟩
   ·rw[au c2]at H;have ad:decide (u<(l0.length:Int))=false:=ay c2;clear c2;simp only[Option.some.injEq,Prod.mk.injEq]at H;obtain⟨rfl,rfl,rfl⟩:=H;go_wp2;go_ret;exact⟨_,rfl,⟨_,_,by simpa using heap_alloc_new _ _,z.out.size,I.out⟩,bO z.out _,bO D.out _⟩
def fl.f (D:List Int) (z:Int) (u:Int):Option (Int×Int×Int):=if z<(D.length:Int)then(if 0≤z then(some (Go.bits .and .i64 (wrap64 ((Go.bits .and .i64 (Go.bits .xor .i64 ((wrap64 ((wrap64 (u*6364136223846793005))+1442695040888963407))/8589934592) ((wrap64 ((wrap64 (u*6364136223846793005))+1442695040888963407))/35184372088832)) 255)+(wrap64 (rd D z)))) 255,wrap64 (z+1),wrap64 ((wrap64 (u*6364136223846793005))+1442695040888963407)))else(none))else(some (Go.bits .and .i64 (Go.bits .xor .i64 ((wrap64 ((wrap64 (u*6364136223846793005))+1442695040888963407))/8589934592) ((wrap64 ((wrap64 (u*6364136223846793005))+1442695040888963407))/35184372088832)) 255,z,wrap64 ((wrap64 (u*6364136223846793005))+1442695040888963407)))
theorem fl.c (g:Nat) (D:List Int) (u:Int) (z:Int) (r1:Int) (r2:Int) (r3:Int) (w0 w:World) (hI:aZ w0 w g D u z) (hB:Below w0.heap.size w0 w) (h:fl.f D u z=some (r1,r2,r3)):
  Calls Tryz.prog 119 #[.pointer (some ⟨g,0,none⟩)] w fun e w'=>e= .returned (.int .i64 r1)∧aZ w0 w' g D r2 r3∧Below w0.heap.size w0 w'∧a8 w w' g none:=by
 have J:=A_ hI;have HK:=A_ (a8.refl w g none);have ak:=A_ hB.size;clear hI;have am:=A_ hB.size;have O:=A_ hB;clear hB;have H:(if u<(D.length:Int)then(if 0≤u then(some (Go.bits .and .i64 (wrap64 ((Go.bits .and .i64 (Go.bits .xor .i64 ((wrap64 ((wrap64 (z*6364136223846793005))+1442695040888963407))/8589934592) ((wrap64 ((wrap64 (z*6364136223846793005))+1442695040888963407))/35184372088832)) 255)+(wrap64 (rd D u)))) 255,wrap64 (u+1),wrap64 ((wrap64 (z*6364136223846793005))+1442695040888963407)))else(none))else(some (Go.bits .and .i64 (Go.bits .xor .i64 ((wrap64 ((wrap64 (z*6364136223846793005))+1442695040888963407))/8589934592) ((wrap64 ((wrap64 (z*6364136223846793005))+1442695040888963407))/35184372088832)) 255,u,wrap64 ((wrap64 (z*6364136223846793005))+1442695040888963407))))=some (r1,r2,r3):=h;clear h;by_cases c2:u<(D.length:Int)
 ·rw[aq c2]at H;have Z:decide (u<(D.length:Int))=true:=ag c2;clear c2;by_cases c3:0≤u
  ·rw[aq c3]at H;have ao:decide (0≤u)=true:=ag c3;clear c3;simp only[Option.some.injEq,Prod.mk.injEq]at H;obtain⟨rfl,rfl,rfl⟩:=H;obtain⟨ai,ap,F,af,X⟩:=J.out;have av:=qY F;have aw:=qZ F;have aB:=q9 F;have aG:=aK F 1;have aH:=aK F 2;clear F af;have U:0≤(u:Int):=oD;have V:u<(D.length:Int):=oD;obtain⟨Y,ad,I⟩:=Kd.dV X u U V;cases ad;have K:Y.block≠g:=Nat.ne_of_lt (Nat.lt_of_lt_of_le (by have:=World.block_lt_of_cell? _ _ I;first|rwa [add_block]at this|exact this) (aZ.ge J.out));replace I:=nb O.out I;replace I:=(cell_far (p:=⟨g,2,none⟩) (by first|(rw[add_block];exact K)|(show(Addr.add _ _).block≠_;rw[add_block];exact K)|exact K) (.int .i64 (wrap64 ((wrap64 (z*6364136223846793005))+1442695040888963407)))).trans I
   (try have aL:=fun(n_:Nat)=>(show(((w.drewN n_).setCell ⟨g,2,none⟩ (.int .i64 (wrap64 ((wrap64 (z*6364136223846793005))+1442695040888963407))))).cell? _=some _ from I))
   clear K;replace U:=ax U;replace V:=ax V;go_enter Tryz.func119,Tryz.ntmps119;go_wp2
   repeat(go_quiet (fail);try go_wp2)
   go_ret;exact⟨eR,b7 J,cL O,cB HK⟩
  ·rw[au c3]at H;exact absurd H (by simp)
 ·rw[au c2]at H;have Z:decide (u<(D.length:Int))=false:=ay c2;clear c2;simp only[Option.some.injEq,Prod.mk.injEq]at H;obtain⟨rfl,rfl,rfl⟩:=H;obtain⟨aj,ar,G,ah,al⟩:=J.out;have aD:=qY G;have aE:=qZ G;have aF:=q9 G;have aI:=aK G 1;have aJ:=aK G 2;clear G ah;go_enter Tryz.func119,Tryz.ntmps119;go_wp2
  repeat(go_quiet (fail);try go_wp2)
  go_ret;exact⟨eR,b7 J,cL O,cB HK⟩
def cf.f (u:List Int) (I:Int) (J:Int) (a1:Int):Option (Int×Int×Int):=if a1≤0 then(some (0,I,J))else(if a1≤256 then((fl.f u I J).bind fun z=>(if a1=0 then(none)else(some (Int.tmod z.1 a1,z.2.1,z.2.2))))else((fl.f u I J).bind fun D=>((fl.f u D.2.1 D.2.2).bind fun F=>((fl.f u F.2.1 F.2.2).bind fun G=>((fl.f u G.2.1 G.2.2).bind fun H=>(if a1=0 then(none)else(some (Int.tmod (wrap64 ((wrap64 ((wrap64 ((wrap64 (D.1*16777216))+(wrap64 (F.1*65536))))+(wrap64 (G.1*256))))+H.1)) a1,H.2.1,H.2.2))))))))
theorem cf.c (g:Nat) (I:List Int) (J:Int) (K:Int) (a1:Int) (r1:Int) (r2:Int) (r3:Int) (w0 w:World) (hI:aZ w0 w g I J K) (hB:Below w0.heap.size w0 w) (h:cf.f I J K a1=some (r1,r2,r3)):
  Calls Tryz.prog 75 #[.pointer (some ⟨g,0,none⟩),.int .i64 a1] w fun e w'=>e= .returned (.int .i64 r1)∧aZ w0 w' g I r2 r3∧Below w0.heap.size w0 w'∧a8 w w' g none:=by
 have z:=A_ hI;have HK:=A_ (a8.refl w g none);have aP:=A_ hB.size;clear hI;have aQ:=A_ hB.size;have u:=A_ hB;clear hB;have H:(if a1≤0 then(some (0,J,K))else(if a1≤256 then((fl.f I J K).bind fun O=>(if a1=0 then(none)else(some (Int.tmod O.1 a1,O.2.1,O.2.2))))else((fl.f I J K).bind fun U=>((fl.f I U.2.1 U.2.2).bind fun V=>((fl.f I V.2.1 V.2.2).bind fun X=>((fl.f I X.2.1 X.2.2).bind fun Y=>(if a1=0 then(none)else(some (Int.tmod (wrap64 ((wrap64 ((wrap64 ((wrap64 (U.1*16777216))+(wrap64 (V.1*65536))))+(wrap64 (X.1*256))))+Y.1)) a1,Y.2.1,Y.2.2)))))))))=some (r1,r2,r3):=h;clear h;by_cases c3:a1≤0
 ·rw[aq c3]at H;have aE:decide (a1≤0)=true:=ag c3;clear c3;simp only[Option.some.injEq,Prod.mk.injEq]at H;obtain⟨rfl,rfl,rfl⟩:=H;go_enter Tryz.func75,Tryz.ntmps75;go_wp2;go_ret;exact⟨eR,b7 z,cL u,cB HK⟩
 ·rw[au c3]at H;have aE:decide (a1≤0)=false:=ay c3;clear c3;by_cases c4:a1≤256
  ·rw[aq c4]at H;have aF:decide (a1≤256)=true:=ag c4;clear c4;replace H:=az H;obtain⟨⟨aG,aH,aI⟩,af,H⟩:=H
   (try dsimp only at H)
   have aw:=A_ af;clear af;by_cases c6:a1=0
   ·rw[aq c6]at H;exact absurd H (by simp)
   ·rw[au c6]at H;have aT:(a1==0)=false:=beq_eq_false_iff_ne.mpr c6;have aU:(a1 != 0)=true:=bne_iff_ne.mpr c6;simp only[Option.some.injEq,Prod.mk.injEq]at H;obtain⟨rfl,rfl,rfl⟩:=H;go_enter Tryz.func75,Tryz.ntmps75
    go_wp2_with (first|((with_reducible refine bC (f:=119) rfl ?_);refine gL (some 14) Tryz.func119 #[.pointer (some ⟨g,0,none⟩)] ?_;(with_reducible refine(fl.c g I J K aG aH aI w0 _ ?bc ?bf aw.out).mono ?_);(case bc=>exact b7 z);(case bf=>exact cL u);rintro e w7 ⟨rfl,hi,hb,hk⟩;refine⟨_,rfl,?_⟩;have D:=A_ (a8.trans (cB HK) hk (.inl rfl));have F:=A_ (hb);have G:=A_ (hi);clear HK u z;have HK:=D;have u:=F;have z:=G;clear D F G;(try clear hb);(try clear hb2);(try clear hk);(try clear hi)))
    go_ret;exact⟨eR,b7 z,cL u,cB HK⟩
  ·rw[au c4]at H;have aF:decide (a1≤256)=false:=ay c4;clear c4;replace H:=az H;obtain⟨⟨aJ,aj,ak⟩,ah,H⟩:=H
   (try dsimp only at H)
   have aB:=A_ ah;clear ah;replace H:=az H;obtain⟨⟨aK,al,am⟩,ai,H⟩:=H
   (try dsimp only at H)
   have aD:=A_ ai;clear ai;replace H:=az H;obtain⟨⟨aL,ao,ap⟩,Z,H⟩:=H
   (try dsimp only at H)
   have ar:=A_ Z;clear Z;replace H:=az H;obtain⟨⟨aM,aN,aO⟩,ad,H⟩:=H
   (try dsimp only at H)
   have av:=A_ ad;clear ad;by_cases c12:a1=0
   ·rw[aq c12]at H;exact absurd H (by simp)
   ·rw[au c12]at H;have aR:(a1==0)=false:=beq_eq_false_iff_ne.mpr c12;have aS:(a1 != 0)=true:=bne_iff_ne.mpr c12;simp only[Option.some.injEq,Prod.mk.injEq]at H;obtain⟨rfl,rfl,rfl⟩:=H;go_enter Tryz.func75,Tryz.ntmps75
    go_wp2_with (first|((with_reducible refine bC (f:=119) rfl ?_);refine gL (some 18) Tryz.func119 #[.pointer (some ⟨g,0,none⟩)] ?_;(with_reducible refine(fl.c g I J K aJ aj ak w0 _ ?bc ?bf aB.out).mono ?_);(case bc=>exact b7 z);(case bf=>exact cL u);rintro e aV ⟨rfl,hi,hb,hk⟩;refine⟨_,rfl,?_⟩;have D:=A_ (a8.trans (cB HK) hk (.inl rfl));have F:=A_ (hb);have G:=A_ (hi);clear HK u z;have HK:=D;have u:=F;have z:=G;clear D F G;(try clear hb);(try clear hb2);(try clear hk);(try clear hi))|((with_reducible refine bC (f:=119) rfl ?_);refine gL (some 20) Tryz.func119 #[.pointer (some ⟨g,0,none⟩)] ?_;(with_reducible refine(fl.c g I aj ak aK al am w0 _ ?bc ?bf aD.out).mono ?_);(case bc=>exact b7 z);(case bf=>exact cL u);rintro e aW ⟨rfl,hi,hb,hk⟩;refine⟨_,rfl,?_⟩;have D:=A_ (a8.trans (cB HK) hk (.inl rfl));have F:=A_ (hb);have G:=A_ (hi);clear HK u z;have HK:=D;have u:=F;have z:=G;clear D F G;(try clear hb);(try clear hb2);(try clear hk);(try clear hi))|((with_reducible refine bC (f:=119) rfl ?_);refine gL (some 22) Tryz.func119 #[.pointer (some ⟨g,0,none⟩)] ?_;(with_reducible refine(fl.c g I al am aL ao ap w0 _ ?bc ?bf ar.out).mono ?_);(case bc=>exact b7 z);(case bf=>exact cL u);rintro e aX ⟨rfl,hi,hb,hk⟩;refine⟨_,rfl,?_⟩;have D:=A_ (a8.trans (cB HK) hk (.inl rfl));have F:=A_ (hb);have G:=A_ (hi);clear HK u z;have HK:=D;have u:=F;have z:=G;clear D F G;(try clear hb);(try clear hb2);(try clear hk);(try clear hi))|((with_reducible refine bC (f:=119) rfl ?_);refine gL (some 24) Tryz.func119 #[.pointer (some ⟨g,0,none⟩)] ?_;(with_reducible refine(fl.c g I ao ap aM aN aO w0 _ ?bc ?bf av.out).mono ?_);(case bc=>exact b7 z);(case bf=>exact cL u);rintro e aY ⟨rfl,hi,hb,hk⟩;refine⟨_,rfl,?_⟩;have D:=A_ (a8.trans (cB HK) hk (.inl rfl));have F:=A_ (hb);have G:=A_ (hi);clear HK u z;have HK:=D;have u:=F;have z:=G;clear D F G;(try clear hb);(try clear hb2);(try clear hk);(try clear hi)))
    go_ret;exact⟨eR,b7 z,cL u,cB HK⟩
def je.f (z:List Int) (D:Int) (F:Int) (a1:Int):Option (Bool×Int×Int):=(cf.f z D F a1).bind fun u=>(some ((u.1==0),u.2.1,u.2.2))
theorem je.c (g:Nat) (u:List Int) (F:Int) (G:Int) (a1:Int) (r1:Bool) (r2:Int) (r3:Int) (w0 w:World) (hI:aZ w0 w g u F G) (hB:Below w0.heap.size w0 w) (h:je.f u F G a1=some (r1,r2,r3)):
  Calls Tryz.prog 115 #[.pointer (some ⟨g,0,none⟩),.int .i64 a1] w fun e w'=>e= .returned (.bool r1)∧aZ w0 w' g u r2 r3∧Below w0.heap.size w0 w'∧a8 w w' g none:=by
 have D:=A_ hI;have HK:=A_ (a8.refl w g none);have ad:=A_ hB.size;clear hI;have af:=A_ hB.size;have z:=A_ hB;clear hB;have H:((cf.f u F G a1).bind fun I=>(some ((I.1==0),I.2.1,I.2.2)))=some (r1,r2,r3):=h;clear h;replace H:=az H;obtain⟨⟨X,Y,Z⟩,J,H⟩:=H
 (try dsimp only at H)
 have V:=A_ J;clear J;simp only[Option.some.injEq,Prod.mk.injEq]at H;obtain⟨rfl,rfl,rfl⟩:=H;go_enter Tryz.func115,Tryz.ntmps115
 go_wp2_with (first|((with_reducible refine bC (f:=75) rfl ?_);refine gL (some 7) Tryz.func75 #[.pointer (some ⟨g,0,none⟩),.int .i64 a1] ?_;(with_reducible refine(cf.c g u F G a1 X Y Z w0 _ ?bc ?bf V.out).mono ?_);(case bc=>exact b7 D);(case bf=>exact cL z);rintro e w4 ⟨rfl,hi,hb,hk⟩;refine⟨_,rfl,?_⟩;have K:=A_ (a8.trans (cB HK) hk (.inl rfl));have O:=A_ (hb);have U:=A_ (hi);clear HK z D;have HK:=K;have z:=O;have D:=U;clear K O U;(try clear hb);(try clear hb2);(try clear hk);(try clear hi)))
 go_ret;exact⟨eR,b7 D,cL z,cB HK⟩
mutual
def cw.j0:Nat→Int→List (ai)→Bool→Option (List Int×Bool)
 |0,_,_,_=>none
 |k+1,x0,x1,z=>if z=true then(some ((([]:List Int)),false))else(if 12≤35184372088832 then((some (List.replicate 12 0:List Int)).bind fun u=>(if 0<(u.length:Int)then(cw.l0 k x1 (u.set (0:Int).toNat x0) 0)else(none)))else(none))
def cw.l0:Nat→List (ai)→List Int→Int→Option (List Int×Bool)
 |0,_,_,_=>none
 |k+1,x1,z,u=>if u<(x1.length:Int)then(if 0≤u then(if 0≤((af x1 u).f0)then(if((af x1 u).f0)<(z.length:Int)then((cm.f k (rd z ((af x1 u).f0)) ((af x1 u).f2) ((af x1 u).f3)).bind fun D=>(if D=0 then(some ((([]:List Int)),false))else(if 0≤((af x1 u).f1)then(if((af x1 u).f1)<(z.length:Int)then(cw.l0 k x1 (z.set (((af x1 u).f1):Int).toNat D) (wrap64 (u+1)))else(none))else(none))))else(none))else(none))else(none))else(some (z,true))
end
def cw.f (k:Nat) (a0:Int) (l1:List (ai)):Option (List Int×Bool):=(im.f l1).bind fun u=>(if u=true then((cx.f a0).bind fun z=>(cw.j0 k a0 l1 (!z)))else(cw.j0 k a0 l1 true))
def cw.T8:Bool×List (List Nat×List Nat):=(true,[([],[]),([],[]),([],[]),([1,2],[1,2]),([3],[3]),([4],[4]),([0,5],[0,5]),([6],[6]),([],[]),([],[]),([8,9],[8,9]),([10],[10]),([11],[11]),([],[]),([],[]),([13,14],[13,14]),([15],[15]),([16],[16]),([7,12,17],[7,12,17]),([18,18,0,1,2,3,4,5,6,7,8,9,10,11,12,13,14,15,16,17,18],[18])])
def cw.B8:List Nat:=[0,0,0,6,14,30,63,127,0,0,768,1792,3840,0,0,24576,57344,122880,262143,524287]
theorem cw.iw:a6 .any (opsOf Tryz.f150 8)=cw.T8:=by kernel_rfl
theorem cw.hE:bT cw.T8.2 cw.B8=true:=by kernel_rfl
theorem cw.c (k:Nat) (a0:Int) (bt:Option Addr) (c1:Nat) (l1:List (ai)) (r1:List Int) (r2:Bool) (w:World) (hr1:Kd.C aU w bt l1.length l1) (hc1:l1.length≤c1) (h:cw.f k a0 l1=some (r1,r2)):
  Calls Tryz.prog 150 #[.int .i64 a0,.slice bt l1.length c1] w fun e w'=>∃cv:Value,e= .returned (.tuple #[cv,.bool r2])∧Kd.R (Kd.int .i64) 3 w' w.heap.size (fun _=>True) cv r1∧Below w.heap.size w w':=by
 have ad:=A_ hr1;have b_:=A_ hc1;clear hr1 hc1;have z:=A_ (Below.refl w.heap.size w);have H:((im.f l1).bind fun bZ=>(if bZ=true then((cx.f a0).bind fun bD=>(cw.j0 k a0 l1 (!bD)))else(cw.j0 k a0 l1 true)))=some (r1,r2):=h;clear h;have bF:=A_ H;clear H;go_enter Tryz.func150,Tryz.ntmps150
 go_upto_region 1 with (fail)
 go_cut [16] (fun v16 wc=>∃(aK:Nat) (bE:Bool),v16= .bool bE∧ae (cw.j0 aK a0 l1 bE=some (r1,r2))∧ae (aK≤k)∧ae (Below w.heap.size w wc))
 case first=>
  have H:=bF.out;clear bF;replace H:=az H;obtain⟨bZ,b7,H⟩:=H
  (try dsimp only at H)
  have b6:=A_ b7;clear b7;by_cases c5:bZ=true
  ·subst c5;rw[aq rfl]at H;replace H:=az H;obtain⟨bD,b8,H⟩:=H
   (try dsimp only at H)
   have cA:=A_ b8;clear b8;have H':=A_ H;clear H
   go_wp2_with (first|((with_reducible refine bC (f:=123) rfl ?_);refine gL (some 10) Tryz.func123 #[.slice bt l1.length c1] ?_;(with_reducible refine(im.c _ _ l1 true _ ?bc ?bf b6.out).mono ?_);(case bc=>exact bP ad.out);(case bf=>exact b_.out);rintro e w7 ⟨rfl,hb⟩;refine⟨_,rfl,?_⟩;have G:=A_ (bn (oB z) hb);clear z;have z:=G;clear G;(try clear hb);(try clear hb2);(try clear hk);(try clear hi))|(go_at_call 125;(with_reducible refine(cx.c a0 bD _ cA.out).mono ?_);rintro e w' ⟨rfl,⟨nd,rfl⟩⟩))
   go_meet
   case rel=>exact⟨_,(!bD),eS,H',⟨by first|omega|exact Nat.le_refl _⟩,⟨oB z⟩⟩
  ·replace c5:=Bool.eq_false_iff.mpr c5;subst c5;rw[au (show¬(false=true)by decide)]at H;have H':=A_ H;clear H
   go_wp2_with (first|((with_reducible refine bC (f:=123) rfl ?_);refine gL (some 10) Tryz.func123 #[.slice bt l1.length c1] ?_;(with_reducible refine(im.c _ _ l1 false _ ?bc ?bf b6.out).mono ?_);(case bc=>exact bP ad.out);(case bf=>exact b_.out);rintro e dm ⟨rfl,hb⟩;refine⟨_,rfl,?_⟩;have G:=A_ (bn (oB z) hb);clear z;have z:=G;clear G;(try clear hb);(try clear hb2);(try clear hk);(try clear hi)))
   go_meet
   case rel=>exact⟨_,(true),eS,H',⟨by first|omega|exact Nat.le_refl _⟩,⟨oB z⟩⟩
 case rest=>
  clear bF
  try clear c1
  try clear p2
  try clear c5
  obtain⟨aK,bE,rfl,aG,ca,z⟩:=hcut;cases aK with
  |zero=>exact absurd aG.out (by simp[cw.j0])
  |succ bB=>
   have H:=aG.out;clear aG;simp only[cw.j0]at H;by_cases c9:bE=true
   ·subst c9;rw[aq rfl]at H;obtain⟨cU,bk⟩:∃aF:List Int,aF=(([]:List Int)):=⟨_,rfl⟩;replace H:(some (cU,false))=some (r1,r2):=by first|(rw[bk];with_reducible exact H)|(have O:=(aA _ _).symm.trans H;rw[bk];with_reducible exact O)|(have O:=(aA _ _).symm.trans H;with_reducible exact O)|with_reducible exact H|(rw[bk];exact H)|exact H
    have cc:=A_ bk;clear bk;simp only[Option.some.injEq,Prod.mk.injEq]at H;obtain⟨rfl,rfl⟩:=H
    go_wp2_with (first|((with_reducible refine aJ (N:=17) rfl ?_);refine Kd.fE (Kd.int .i64) _ 3 ?hg (N:=17) ?hd (xs:=([]:List Int)) (inner:=[]) (ok:=fun _=>True) (bN:=fun _=>True) ?hr ?hp (fun _ hk=>hk) trivial (Below.refl _ _) (Nat.le_refl _) (by simp) ?_;(case hd=>rfl);(case hg=>rfl);(case hr=>first|(go_simp;done)|(go_simp;rfl));(case hp=>exact(aY.none _ _));intro dc dh aX hb aV aW;clear aV aW;(first|rw[←cc.out]at aX|(simp only[Int.reduceToNat]at aX;rw[←cc.out]at aX));have G:=A_ (Kd.dg aX (bm (oB z)));have J:=A_ (bn (oB z) hb);clear z;have cB:=G;have z:=J;clear G J hb aX))
    go_ret2;exact⟨_,eR,oR cB,oB z⟩
   ·replace c9:=Bool.eq_false_iff.mpr c9;subst c9;rw[au (show¬(false=true)by decide)]at H;by_cases c12:12≤35184372088832
    ·rw[aq c12]at H;have cG:=ax c12;have cH:decide (12≤35184372088832)=true:=ag c12;clear c12;obtain⟨Z,bl⟩:∃aF:List Int,aF=(List.replicate 12 0):=⟨_,rfl⟩;replace H:(if 0<(Z.length:Int)then(cw.l0 bB l1 (Z.set (0:Int).toNat a0) 0)else(none))=some (r1,r2):=by first|(rw[bl];with_reducible exact H)|(have O:=(aA _ _).symm.trans H;rw[bl];with_reducible exact O)|(have O:=(aA _ _).symm.trans H;with_reducible exact O)|with_reducible exact H|(rw[bl];exact H)|exact H
     have ce:=A_ bl;clear bl;by_cases c13:0<(Z.length:Int)
     ·rw[aq c13]at H;have cI:decide (0<(Z.length:Int))=true:=ag c13;have cK:decide (0<Z.length)=true:=ag (by omega);clear c13;obtain⟨b2,bo⟩:∃aF:List Int,aF=(Z.set (0:Int).toNat a0):=⟨_,rfl⟩;replace H:(cw.l0 bB l1 b2 0)=some (r1,r2):=by first|(rw[bo];with_reducible exact H)|(have O:=(aA _ _).symm.trans H;rw[bo];with_reducible exact O)|(have O:=(aA _ _).symm.trans H;with_reducible exact O)|with_reducible exact H|(rw[bo];exact H)|exact H
      have cD:=A_ bo;clear bo;have H':=A_ H;clear H
      go_wp2_with (first|((with_reducible refine aJ (N:=18) rfl ?_);refine Kd.o8 (Kd.int .i64) _ 3 rfl (N:=18) rfl 23 _ _ rfl 12 rfl rfl Tryz.underlying23 (.int .i64 0) 8 info3 rfl (by decide) (by omega) 0 (ok:=fun _=>True) (bN:=fun _=>True) rfl (fun _ hk=>hk) trivial (by omega) (by omega) (Below.refl _ _) (Nat.le_refl _) ?_;intro dd cy a1 hb aV aW;clear aV aW;(first|rw[←ce.out]at a1|(simp only[Int.reduceToNat]at a1;rw[←ce.out]at a1));have G:=A_ (Kd.dg a1 (bm (oB z)));have J:=A_ (bn (oB z) hb);clear z;have aH:=G;have z:=J;clear G J hb a1;have br:0≤(0:Int):=(by omega);have bs:(0:Int)<((Z.length:Int):Int):=oD;have cT:(0<Z.length)=True:=ax (by omega);obtain⟨V,bM,ch,ci,cS,c4,b'⟩:=Kd.iN aH.out (by omega);(first|cases ch|(injection ch with bz cR cQ;(first|subst bz|(injection bz with bz;subst bz));subst cQ;clear cR));have b9:=A_ ci;have cW:=A_ b';clear ci cS b';obtain⟨bU,cj⟩:=Kd.fW 0 aH.out (0:Int) br bs;(try rw[show((0:Int)).toNat=0 from rfl]at bU);(try simp only[Nat.reduceMul,Nat.zero_mul,Nat.zero_add,Nat.reduceAdd]at bU);(try rw[show((0:Int)).toNat=0 from rfl]at cj);(try simp only[Nat.reduceMul,Nat.zero_mul,Nat.zero_add,Nat.reduceAdd]at cj);replace br:=ax br;replace bs:=ax bs;obtain⟨cq,cr⟩:=Kd.fW 0 aH.out (0:Int) (by omega) (oD);(try simp only[Int.reduceToNat,Int.toNat_zero,Int.toNat_ofNat,Nat.reduceMul,Nat.zero_mul,Nat.zero_add]at cq cr);(try rw[show((0:Int)).toNat=0 from rfl]at cq);(try rw[show((0:Int)).toNat=0 from rfl]at cr);have bG:=Kd.kO aH.out (0:Int) a0)|((with_reducible refine ju (t:=3) (p:=21) rfl ?_);refine jP (t:=3) (p:=21) (v:= ?zz) (w1:=(cy.setCell ⟨V,(0:Int).toNat,none⟩ (.int .i64 a0))) ?hg ?ho ?hn ?hr ?_;(case ho=>rfl);(case hg=>rfl);(case hn=>rfl);(case hr=>first|(go_simp;done)|(go_simp;rfl));intro b0 hw;have hg:cy.grownBy b0 (some V):=(by rw[hw];exact bG.2);have a2:Kd.R (Kd.int .i64) 3 b0 w.heap.size (fun _=>True) (.slice (some ⟨V,0,none⟩) Z.length bM) b2:=(by rw[hw,cD.out];exact bG.1);clear bG;have G:=A_ (a2);have J:=A_ ((by rw[hw];exact dA (z.out) b9.out:Below w.heap.size w b0));clear aH z;have aH:=G;have z:=J;clear G J hg hw a2))
      go_loopg [7] bB (fun aK v7 w'=>∃(U:List Int) (u:Int),v7= .int .i64 u∧ae (cw.l0 aK l1 U u=some (r1,r2))∧ae (aK≤bB)∧ae (Kd.R (Kd.int .i64) 3 w' w.heap.size (fun _=>True) (.slice (some ⟨V,0,none⟩) Z.length bM) U)∧ae (Below w.heap.size w w'))
      case atStart=>exact⟨(b2),(0),eS,H',⟨Nat.le_refl _⟩,⟨oR aH⟩,⟨oB z⟩⟩
      case round=>
       clear H'
       try clear c1
       try clear p1
       try clear q1
       try clear hx1
       try clear db
       try clear p2
       try clear c5
       try clear c9
       try clear c12
       try clear cG
       try clear cH
       try clear c13
       try clear cI
       try clear cK
       try clear br
       try clear bs
       try clear c8
       try clear cT
       try clear c6
       try clear c15
       try clear bU
       try clear br
       try clear p2
       try clear bs
       obtain⟨U,u,rfl,aG,cb,I,z⟩:=hrel;have bA:=(Kd.cp I.out).1;rw[bA]at I
       (try simp only[bA])
       cases gk with
       |zero=>exact absurd aG.out (by simp[cw.l0])
       |succ k2=>
        have H:=aG.out;clear aG;simp only[cw.l0]at H;by_cases c19:u<(l1.length:Int)
        ·rw[aq c19]at H;have cL:decide (u<(l1.length:Int))=true:=ag c19;clear c19;by_cases c20:0≤u
         ·rw[aq c20]at H;have cX:decide (0≤u)=true:=ag c20;clear c20;by_cases bu:0≤((af l1 u).f0)
          ·rw[aq bu]at H;have cY:decide (0≤((af l1 u).f0))=true:=ag bu;clear bu;by_cases bv:((af l1 u).f0)<(U.length:Int)
           ·rw[aq bv]at H;have cZ:decide (((af l1 u).f0)<(U.length:Int))=true:=ag bv;clear bv;replace H:=az H;obtain⟨Y,b5,H⟩:=H
            (try dsimp only at H)
            have b4:=A_ b5;clear b5;by_cases aI:Y=0
            ·rw[aq aI]at H;have cM:(Y==0)=true:=beq_iff_eq.mpr aI;have cO:(Y != 0)=false:=bne_eq_false_iff_eq.mpr aI;clear aI;obtain⟨cV,bp⟩:∃aF:List Int,aF=(([]:List Int)):=⟨_,rfl⟩;replace H:(some (cV,false))=some (r1,r2):=by first|(rw[bp];with_reducible exact H)|(have O:=(aA _ _).symm.trans H;rw[bp];with_reducible exact O)|(have O:=(aA _ _).symm.trans H;with_reducible exact O)|with_reducible exact H|(rw[bp];exact H)|exact H
             have cf:=A_ bp;clear bp;simp only[Option.some.injEq,Prod.mk.injEq]at H;obtain⟨rfl,rfl⟩:=H
             try go_wp2
             have G:=A_ (Kd.dH I.out);have J:=A_ (cg z.out);clear I z;have I:=G;have z:=J;clear G J;have aL:0≤(u:Int):=oD;have aP:u<(l1.length:Int):=oD;obtain⟨D,bQ,aj,ak,al,am⟩:=dU ad.out u aL aP;have a6:=am;have a5:=al;have a4:=ak;have a3:=aj;cases bQ;replace aj:=hW z aj;replace ak:=hW z ak;replace al:=hW z al;replace am:=hW z am;replace aL:=ax aL;replace aP:=ax aP;have aM:0≤(((af l1 u).f0):Int):=oD;have aQ:((af l1 u).f0)<(U.length:Int):=oD;obtain⟨bJ,bR,X⟩:=Kd.dV (Kd.cp I.out).2.2 ((af l1 u).f0) aM aQ;obtain rfl:(⟨V,0,none⟩:Addr)=bJ:=(by injection bR)
             (first|simp only[add_plain]at X|simp only[nO]at X|simp only[Addr.add,Nat.zero_add]at X|skip)
             replace aM:=ax aM;replace aQ:=ax aQ;have aN:0≤(u:Int):=oD;have aR:u<(l1.length:Int):=oD;obtain⟨bK,bS,ao,ap,ar,av⟩:=dU ad.out u aN aR;have bb:=av;have a_:=ar;have a9:=ap;have a7:=ao;obtain rfl:D=bK:=(by injection bS);replace ao:=hW z ao;replace ap:=hW z ap;replace ar:=hW z ar;replace av:=hW z av;replace aN:=ax aN;replace aR:=ax aR;have aO:0≤(u:Int):=oD;have aS:u<(l1.length:Int):=oD;obtain⟨bL,bT,aw,aB,aD,aE⟩:=dU ad.out u aO aS;have bh:=aE;have bg:=aD;have be:=aB;have bd:=aw;obtain rfl:D=bL:=(by injection bT);replace aw:=hW z aw;replace aB:=hW z aB;replace aD:=hW z aD;replace aE:=hW z aE;replace aO:=ax aO;replace aS:=ax aS;refine fB (n:=20) (S:=fun w'=>w'.cell? (D.add ((u).toNat*4))=some (.int .i64 ((af l1 u).f0))∧w'.cell? ⟨(D.add ((u).toNat*4)).block,(D.add ((u).toNat*4)).off+1,none⟩=some (.int .i64 ((af l1 u).f1))∧w'.cell? ⟨(D.add ((u).toNat*4)).block,(D.add ((u).toNat*4)).off+2,none⟩=some (.int .i64 ((af l1 u).f2))∧w'.cell? ⟨(D.add ((u).toNat*4)).block,(D.add ((u).toNat*4)).off+3,none⟩=some (.int .i64 ((af l1 u).f3))∧w'.cell? ⟨V,(((af l1 u).f0)).toNat,none⟩=some (.int .i64 (rd U ((af l1 u).f0)))∧w'.cell? (D.add ((u).toNat*4))=some (.int .i64 ((af l1 u).f0))∧w'.cell? ⟨(D.add ((u).toNat*4)).block,(D.add ((u).toNat*4)).off+1,none⟩=some (.int .i64 ((af l1 u).f1))∧w'.cell? ⟨(D.add ((u).toNat*4)).block,(D.add ((u).toNat*4)).off+2,none⟩=some (.int .i64 ((af l1 u).f2))∧w'.cell? ⟨(D.add ((u).toNat*4)).block,(D.add ((u).toNat*4)).off+3,none⟩=some (.int .i64 ((af l1 u).f3))∧w'.cell? (D.add ((u).toNat*4))=some (.int .i64 ((af l1 u).f0))∧w'.cell? ⟨(D.add ((u).toNat*4)).block,(D.add ((u).toNat*4)).off+1,none⟩=some (.int .i64 ((af l1 u).f1))∧w'.cell? ⟨(D.add ((u).toNat*4)).block,(D.add ((u).toNat*4)).off+2,none⟩=some (.int .i64 ((af l1 u).f2))∧w'.cell? ⟨(D.add ((u).toNat*4)).block,(D.add ((u).toNat*4)).off+3,none⟩=some (.int .i64 ((af l1 u).f3))) (ds:=[]) #[false,false,false,false,false,false,false,false,false,false,false,false,false,false,false,false,false,false,false,false] (by kernel_rfl) rfl rfl ⟨(hW z a3),(hW z a4),(hW z a5),(hW z a6),X,(hW z a7),(hW z a9),(hW z a_),(hW z bb),(hW z bd),(hW z be),(hW z bg),(hW z bh)⟩ (fun hHeld=> ?_);refine fU cw.iw cw.hE (fun F ah=> ?_);generalize wr.drew=di at I z aj ak al am X ao ap ar av aw aB aD aE hHeld ⊢;refine pA 0 (some 28) F.out ?_;refine pA 1 (some 29) F.out ?_;refine pA 2 (some 30) F.out ?_;refine pA 3 (some 31) F.out ?_;refine pA 4 (some 32) F.out ?_;refine pA 8 (some 36) F.out ?_;refine pA 9 (some 37) F.out ?_;refine pA 10 (some 38) F.out ?_;refine pA 11 (some 39) F.out ?_;refine pA 13 (some 41) F.out ?_;refine pA 14 (some 42) F.out ?_;refine pA 15 (some 43) F.out ?_;refine pA 16 (some 44) F.out ?_;refine pT 5 (some 33) F.out ah.out hHeld ?_;refine pA 6 (some 34) F.out ?_;refine pT 7 (some 35) F.out ah.out hHeld ?_;refine pT 12 (some 40) F.out ah.out hHeld ?_;refine pT 17 (some 45) F.out ah.out hHeld ?_;refine dO (i:=18) (N:=some 46) #[true,true,true,true,true,true,true,true,true,true,true,true,true,true,true,true,true,true,true,false] rfl rfl (dn F.out (by kernel_rfl)) (by decide) (fun K hK=> ?_);refine df Tryz.func122 (by kernel_rfl) rfl #[.int .i64 (rd U ((af l1 u).f0)),.int .i64 ((af l1 u).f2),.int .i64 ((af l1 u).f3)] (by rfl) rfl rfl (by(try simp only[List.map_toArray,List.map_cons,List.map_nil]);first|done|rfl|(simp only[List.length_drop,List.length_take];rfl)) ?_
             with_reducible refine(cm.c k2 (rd U ((af l1 u).f0)) ((af l1 u).f2) ((af l1 u).f3) Y _ b4.out).mono ?_
             rintro e dj ⟨rfl,hb⟩;have bI:=(hb.cell (World.block_lt_of_cell? _ _ (hHeld.2.2.2.2.1))).trans (hHeld.2.2.2.2.1);refine⟨_,rfl,?_⟩;have G:=A_ (Kd.dG (oR I) hb);have J:=A_ (bn (oB z) hb);clear I z;have I:=G;have z:=J;clear G J
             (try clear hb)
             (try clear hb2)
             (try clear hk)
             (try clear hi)
             refine hK.out _ _ ⟨(hW z a3),(hW z a4),(hW z a5),(hW z a6),bI,(hW z a7),(hW z a9),(hW z a_),(hW z bb),(hW z bd),(hW z be),(hW z bg),(hW z bh)⟩ (fun hHeld=> ?_);clear hK K;refine dX (a':= ?_) ?_ ?_;rotate_left
             ·show Act.put _ (some 46) _=_;simp only[Act.put,List.setIfInBounds_toArray,List.set_cons_zero,List.set_cons_succ,cd,ct];rfl
             refine pA 19 (some 8) F.out ?_;refine eW (fp F.out (by kernel_rfl)) ?_
             try go_wp2_with (first|((with_reducible refine aJ (N:=49) rfl ?_);refine Kd.fE (Kd.int .i64) _ 3 ?hg (N:=49) ?hd (xs:=([]:List Int)) (inner:=[]) (ok:=fun _=>True) (bN:=fun _=>True) ?hr ?hp (fun _ hk=>hk) trivial (Below.refl _ _) (Nat.le_refl _) (by simp) ?_;(case hd=>rfl);(case hg=>rfl);(case hr=>first|(go_simp;done)|(go_simp;rfl));(case hp=>exact(aY.none _ _));intro de dk aT hb aV aW;clear aV aW;(first|rw[←cf.out]at aT|(simp only[Int.reduceToNat]at aT;rw[←cf.out]at aT));have G:=A_ (Kd.uC (oR I) (Kd.qy aT) hb);have J:=A_ (Kd.dg (Kd.uG aT (Kd.qz (oR I))) (bm (oB z)));have cu:=A_ (bn (oB z) hb);clear I z;have I:=G;have cC:=J;have z:=cu;clear G J cu hb aT))
             go_ret2;exact⟨_,eR,by(with_reducible repeat(first|apply Kd.fg|apply Kd.fX|apply Kd.dH));exact Kd.cJ cC.out (fun _ hk=>trivial),oB z⟩
            ·rw[au aI]at H;have cM:(Y==0)=false:=beq_eq_false_iff_ne.mpr aI;have cO:(Y != 0)=true:=bne_iff_ne.mpr aI;by_cases bw:0≤((af l1 u).f1)
             ·rw[aq bw]at H;have c0:decide (0≤((af l1 u).f1))=true:=ag bw;clear bw;by_cases bx:((af l1 u).f1)<(U.length:Int)
              ·rw[aq bx]at H;have c3:decide (((af l1 u).f1)<(U.length:Int))=true:=ag bx;clear bx;obtain⟨b3,bq⟩:∃aF:List Int,aF=(U.set (((af l1 u).f1):Int).toNat Y):=⟨_,rfl⟩;replace H:(cw.l0 k2 l1 b3 (wrap64 (u+1)))=some (r1,r2):=by first|(rw[bq];with_reducible exact H)|(have O:=(aA _ _).symm.trans H;rw[bq];with_reducible exact O)|(have O:=(aA _ _).symm.trans H;with_reducible exact O)|with_reducible exact H|(rw[bq];exact H)|exact H
               have cE:=A_ bq;clear bq;have H':=A_ H;clear H
               try go_wp2
               have G:=A_ (Kd.dH I.out);have J:=A_ (cg z.out);clear I z;have I:=G;have z:=J;clear G J;have aL:0≤(u:Int):=oD;have aP:u<(l1.length:Int):=oD;obtain⟨D,bQ,aj,ak,al,am⟩:=dU ad.out u aL aP;have a6:=am;have a5:=al;have a4:=ak;have a3:=aj;cases bQ;replace aj:=hW z aj;replace ak:=hW z ak;replace al:=hW z al;replace am:=hW z am;replace aL:=ax aL;replace aP:=ax aP;have aM:0≤(((af l1 u).f0):Int):=oD;have aQ:((af l1 u).f0)<(U.length:Int):=oD;obtain⟨bJ,bR,X⟩:=Kd.dV (Kd.cp I.out).2.2 ((af l1 u).f0) aM aQ;obtain rfl:(⟨V,0,none⟩:Addr)=bJ:=(by injection bR)
               (first|simp only[add_plain]at X|simp only[nO]at X|simp only[Addr.add,Nat.zero_add]at X|skip)
               replace aM:=ax aM;replace aQ:=ax aQ;have aN:0≤(u:Int):=oD;have aR:u<(l1.length:Int):=oD;obtain⟨bK,bS,ao,ap,ar,av⟩:=dU ad.out u aN aR;have bb:=av;have a_:=ar;have a9:=ap;have a7:=ao;obtain rfl:D=bK:=(by injection bS);replace ao:=hW z ao;replace ap:=hW z ap;replace ar:=hW z ar;replace av:=hW z av;replace aN:=ax aN;replace aR:=ax aR;have aO:0≤(u:Int):=oD;have aS:u<(l1.length:Int):=oD;obtain⟨bL,bT,aw,aB,aD,aE⟩:=dU ad.out u aO aS;have bh:=aE;have bg:=aD;have be:=aB;have bd:=aw;obtain rfl:D=bL:=(by injection bT);replace aw:=hW z aw;replace aB:=hW z aB;replace aD:=hW z aD;replace aE:=hW z aE;replace aO:=ax aO;replace aS:=ax aS;refine fB (n:=20) (S:=fun w'=>w'.cell? (D.add ((u).toNat*4))=some (.int .i64 ((af l1 u).f0))∧w'.cell? ⟨(D.add ((u).toNat*4)).block,(D.add ((u).toNat*4)).off+1,none⟩=some (.int .i64 ((af l1 u).f1))∧w'.cell? ⟨(D.add ((u).toNat*4)).block,(D.add ((u).toNat*4)).off+2,none⟩=some (.int .i64 ((af l1 u).f2))∧w'.cell? ⟨(D.add ((u).toNat*4)).block,(D.add ((u).toNat*4)).off+3,none⟩=some (.int .i64 ((af l1 u).f3))∧w'.cell? ⟨V,(((af l1 u).f0)).toNat,none⟩=some (.int .i64 (rd U ((af l1 u).f0)))∧w'.cell? (D.add ((u).toNat*4))=some (.int .i64 ((af l1 u).f0))∧w'.cell? ⟨(D.add ((u).toNat*4)).block,(D.add ((u).toNat*4)).off+1,none⟩=some (.int .i64 ((af l1 u).f1))∧w'.cell? ⟨(D.add ((u).toNat*4)).block,(D.add ((u).toNat*4)).off+2,none⟩=some (.int .i64 ((af l1 u).f2))∧w'.cell? ⟨(D.add ((u).toNat*4)).block,(D.add ((u).toNat*4)).off+3,none⟩=some (.int .i64 ((af l1 u).f3))∧w'.cell? (D.add ((u).toNat*4))=some (.int .i64 ((af l1 u).f0))∧w'.cell? ⟨(D.add ((u).toNat*4)).block,(D.add ((u).toNat*4)).off+1,none⟩=some (.int .i64 ((af l1 u).f1))∧w'.cell? ⟨(D.add ((u).toNat*4)).block,(D.add ((u).toNat*4)).off+2,none⟩=some (.int .i64 ((af l1 u).f2))∧w'.cell? ⟨(D.add ((u).toNat*4)).block,(D.add ((u).toNat*4)).off+3,none⟩=some (.int .i64 ((af l1 u).f3))) (ds:=[]) #[false,false,false,false,false,false,false,false,false,false,false,false,false,false,false,false,false,false,false,false] (by kernel_rfl) rfl rfl ⟨(hW z a3),(hW z a4),(hW z a5),(hW z a6),X,(hW z a7),(hW z a9),(hW z a_),(hW z bb),(hW z bd),(hW z be),(hW z bg),(hW z bh)⟩ (fun hHeld=> ?_);refine fU cw.iw cw.hE (fun F ah=> ?_);generalize wr.drew=dl at I z aj ak al am X ao ap ar av aw aB aD aE hHeld ⊢;refine pA 0 (some 28) F.out ?_;refine pA 1 (some 29) F.out ?_;refine pA 2 (some 30) F.out ?_;refine pA 3 (some 31) F.out ?_;refine pA 4 (some 32) F.out ?_;refine pA 8 (some 36) F.out ?_;refine pA 9 (some 37) F.out ?_;refine pA 10 (some 38) F.out ?_;refine pA 11 (some 39) F.out ?_;refine pA 13 (some 41) F.out ?_;refine pA 14 (some 42) F.out ?_;refine pA 15 (some 43) F.out ?_;refine pA 16 (some 44) F.out ?_;refine pT 5 (some 33) F.out ah.out hHeld ?_;refine pA 6 (some 34) F.out ?_;refine pT 7 (some 35) F.out ah.out hHeld ?_;refine pT 12 (some 40) F.out ah.out hHeld ?_;refine pT 17 (some 45) F.out ah.out hHeld ?_;refine dO (i:=18) (N:=some 46) #[true,true,true,true,true,true,true,true,true,true,true,true,true,true,true,true,true,true,true,false] rfl rfl (dn F.out (by kernel_rfl)) (by decide) (fun K hK=> ?_);refine df Tryz.func122 (by kernel_rfl) rfl #[.int .i64 (rd U ((af l1 u).f0)),.int .i64 ((af l1 u).f2),.int .i64 ((af l1 u).f3)] (by rfl) rfl rfl (by(try simp only[List.map_toArray,List.map_cons,List.map_nil]);first|done|rfl|(simp only[List.length_drop,List.length_take];rfl)) ?_
               with_reducible refine(cm.c k2 (rd U ((af l1 u).f0)) ((af l1 u).f2) ((af l1 u).f3) Y _ b4.out).mono ?_
               rintro e cz ⟨rfl,hb⟩;have bI:=(hb.cell (World.block_lt_of_cell? _ _ (hHeld.2.2.2.2.1))).trans (hHeld.2.2.2.2.1);refine⟨_,rfl,?_⟩;have G:=A_ (Kd.dG (oR I) hb);have J:=A_ (bn (oB z) hb);clear I z;have I:=G;have z:=J;clear G J
               (try clear hb)
               (try clear hb2)
               (try clear hk)
               (try clear hi)
               refine hK.out _ _ ⟨(hW z a3),(hW z a4),(hW z a5),(hW z a6),bI,(hW z a7),(hW z a9),(hW z a_),(hW z bb),(hW z bd),(hW z be),(hW z bg),(hW z bh)⟩ (fun hHeld=> ?_);clear hK K;refine dX (a':= ?_) ?_ ?_;rotate_left
               ·show Act.put _ (some 46) _=_;simp only[Act.put,List.setIfInBounds_toArray,List.set_cons_zero,List.set_cons_succ,cd,ct];rfl
               refine pA 19 (some 8) F.out ?_;refine eW (fp F.out (by kernel_rfl)) ?_;have bV:0≤(u:Int):=oD;have bX:u<(l1.length:Int):=oD;obtain⟨cF,cP,ck,cl,cn,co⟩:=dU ad.out u bV bX;obtain rfl:D=cF:=(by injection cP);replace ck:=hW z ck;replace cl:=hW z cl;replace cn:=hW z cn;replace co:=hW z co;replace bV:=ax bV;replace bX:=ax bX;have bW:0≤(((af l1 u).f1):Int):=oD;have bY:(((af l1 u).f1):Int)<((U.length:Int):Int):=oD;obtain⟨c_,c7⟩:=Kd.fW 0 I.out (((af l1 u).f1):Int) bW bY;replace bW:=ax bW;replace bY:=ax bY;obtain⟨c',da⟩:=Kd.fW 0 I.out (((af l1 u).f1):Int) (oD) (oD);have bH:=Kd.kO I.out (((af l1 u).f1):Int) Y
               try go_wp2_with (first|((with_reducible refine ju (t:=3) (p:=57) rfl ?_);refine jP (t:=3) (p:=57) (v:= ?zB) (w1:=(cz.setCell ⟨V,(((af l1 u).f1):Int).toNat,none⟩ (.int .i64 Y))) ?hg ?ho ?hn ?hr ?_;(case ho=>rfl);(case hg=>rfl);(case hn=>rfl);(case hr=>first|(go_simp;done)|(go_simp;rfl));intro b1 hw;have hg:cz.grownBy b1 (some V):=(by rw[hw];exact bH.2);have a2:Kd.R (Kd.int .i64) 3 b1 w.heap.size (fun _=>True) (.slice (some ⟨V,0,none⟩) U.length bM) b3:=(by rw[hw,cE.out];exact bH.1);clear bH;have G:=A_ (a2);have J:=A_ ((by rw[hw];exact dA (z.out) b9.out:Below w.heap.size w b1));clear I z;have I:=G;have z:=J;clear G J hg hw a2))
               (try simp only[←bA])
               go_roundg k2
               case measure=>have:=ca.out;have:=cb.out;omega
               case rel=>exact⟨(b3),(wrap64 (u+1)),eS,H',⟨by have:=ca.out;have:=cb.out;omega⟩,⟨by(try simp only[bA]);(with_reducible repeat(first|apply Kd.fg|apply Kd.fX|apply Kd.dH));exact I.out⟩,⟨oB z⟩⟩
              ·rw[au bx]at H;exact absurd H (by simp)
             ·rw[au bw]at H;exact absurd H (by simp)
           ·rw[au bv]at H;exact absurd H (by simp)
          ·rw[au bu]at H;exact absurd H (by simp)
         ·rw[au c20]at H;exact absurd H (by simp)
        ·rw[au c19]at H;have cL:decide (u<(l1.length:Int))=false:=ay c19;clear c19;simp only[Option.some.injEq,Prod.mk.injEq]at H;obtain⟨rfl,rfl⟩:=H;go_wp2;go_ret2;exact⟨_,eR,oR I,oB z⟩
     ·rw[au c13]at H;exact absurd H (by simp)
    ·rw[au c12]at H;exact absurd H (by simp)
def ew.l0:Nat→Int→List (ai)→Int→Option ((List (ai)))
 |0,_,_,_=>none
 |k+1,x0,x3,u=>if u<11 then((cn.f x0 0 5000).bind fun D=>(if D=true then((some (([1,2,1,2,1,2,2,1,2,1,2]:List Int):List Int)).bind fun z=>(if 0≤u then(if u<(z.length:Int)then(if x3.length<4398046511104 then(ew.l0 k x0 (x3++[(⟨u,wrap64 (u+1),rd z u,x0⟩:ai)]) (wrap64 (u+1)))else(none))else(none))else(none)))else(some x3)))else(some x3)
def ew.f (k:Nat) (a0:Int):Option ((List (ai))):=ew.l0 k a0 (([]:List (ai))) 0
theorem ew.c (k:Nat) (a0:Int) (r:List (ai)) (w:World) (h:ew.f k a0=some r):
  Calls Tryz.prog 136 #[.int .i64 a0] w fun e w'=>∃aE:Value,e= .returned (aE)∧Kd.R aU 112 w' w.heap.size (fun _=>True) aE r∧Below w.heap.size w w':=by
 have a4:=Tryz.underlying112;have z:=A_ (Below.refl w.heap.size w);have H:(ew.l0 k a0 (([]:List (ai))) 0)=some r:=h;clear h;obtain⟨aG,X⟩:∃af:List (ai),af=(([]:List (ai))):=⟨_,rfl⟩;replace H:(ew.l0 k a0 aG 0)=some r:=by first|(rw[X];with_reducible exact H)|(have D:=(aA _ _).symm.trans H;rw[X];with_reducible exact D)|(have D:=(aA _ _).symm.trans H;with_reducible exact D)|with_reducible exact H|(rw[X];exact H)|exact H
 have av:=A_ X;clear X;have H':=A_ H;clear H;go_enter Tryz.func136,Tryz.ntmps136
 go_wp2_with (first|((with_reducible refine aJ (N:=6) rfl ?_);refine Kd.fE aU _ 112 ?hg (N:=6) ?hd (xs:=([]:List (ai))) (inner:=[]) (ok:=fun _=>True) (bN:=fun _=>True) ?hr ?hp (fun _ hk=>hk) trivial (Below.refl _ _) (Nat.le_refl _) (by simp) ?_;(case hd=>rfl);(case hg=>rfl);(case hr=>first|(go_simp;done)|(go_simp;rfl));(case hp=>exact(aY.none _ _));intro a6 w2 V hb aj ak;clear aj ak;(first|rw[←av.out]at V|(simp only[Int.reduceToNat]at V;rw[←av.out]at V));have I:=A_ (Kd.dg V (bm (oB z)));have J:=A_ (bn (oB z) hb);clear z;have aI:=I;have z:=J;clear I J hb V))
 go_loopg [3,4] k (fun aD v3 v4 w'=>∃(K:List (ai)) (u:Int),v4= .int .i64 u∧ae (ew.l0 aD a0 K u=some r)∧ae (aD≤k)∧ae (Kd.R aU 112 w' w.heap.size (fun _=>True) v3 K)∧ae (Below w.heap.size w w'))
 case atStart=>exact⟨(aG),(0),eS,H',⟨Nat.le_refl _⟩,⟨oR aI⟩,⟨oB z⟩⟩
 case round=>
  clear H'
  try clear c1
  try clear p2
  obtain⟨K,u,rfl,ah,ar,G,z⟩:=hrel;cases gk with
  |zero=>exact absurd ah.out (by simp[ew.l0])
  |succ k1=>
   have H:=ah.out;clear ah;simp only[ew.l0]at H;by_cases c4:u<11
   ·rw[aq c4]at H;have aQ:decide (u<11)=true:=ag c4;clear c4;replace H:=az H;obtain⟨aV,ap,H⟩:=H
    (try dsimp only at H)
    have ao:=A_ ap;clear ap;by_cases c6:aV=true
    ·subst c6;rw[aq rfl]at H;obtain⟨F,Y⟩:∃af:List Int,af=(([1,2,1,2,1,2,2,1,2,1,2]:List Int)):=⟨_,rfl⟩;replace H:(if 0≤u then(if u<(F.length:Int)then(if K.length<4398046511104 then(ew.l0 k1 a0 (K++[(⟨u,wrap64 (u+1),rd F u,a0⟩:ai)]) (wrap64 (u+1)))else(none))else(none))else(none))=some r:=by first|(rw[Y];with_reducible exact H)|(have D:=(aA _ _).symm.trans H;rw[Y];with_reducible exact D)|(have D:=(aA _ _).symm.trans H;with_reducible exact D)|with_reducible exact H|(rw[Y];exact H)|exact H
     have aw:=A_ Y;clear Y;by_cases c7:0≤u
     ·rw[aq c7]at H;have a1:decide (0≤u)=true:=ag c7;clear c7;by_cases c8:u<(F.length:Int)
      ·rw[aq c8]at H;have a2:decide (u<(F.length:Int))=true:=ag c8;clear c8;by_cases c9:K.length<4398046511104
       ·rw[aq c9]at H;have aM:=A_ c9;clear c9;obtain⟨aH,Z⟩:∃af:List (ai),af=(K++[(⟨u,wrap64 (u+1),rd F u,a0⟩:ai)]):=⟨_,rfl⟩;replace H:(ew.l0 k1 a0 aH (wrap64 (u+1)))=some r:=by first|(rw[Z];with_reducible exact H)|(have D:=(aA _ _).symm.trans H;rw[Z];with_reducible exact D)|(have D:=(aA _ _).symm.trans H;with_reducible exact D)|with_reducible exact H|(rw[Z];exact H)|exact H
        have aN:=A_ Z;clear Z;have H':=A_ H;clear H
        go_wp2_with (first|(go_at_call 88;(with_reducible refine(cn.c a0 0 5000 true _ ao.out).mono ?_);rintro e w' ⟨rfl,⟨nd,rfl⟩⟩)|((with_reducible refine aJ (N:=15) rfl ?_);refine Kd.fE (Kd.int .i64) _ 3 ?hg (N:=15) ?hd (xs:=([1,2,1,2,1,2,2,1,2,1,2]:List Int)) (inner:=[.int .i64 1,.int .i64 2,.int .i64 1,.int .i64 2,.int .i64 1,.int .i64 2,.int .i64 2,.int .i64 1,.int .i64 2,.int .i64 1,.int .i64 2]) (ok:=fun _=>True) (bN:=fun _=>True) ?hr ?hp (fun _ hk=>hk) trivial (Below.refl _ _) (Nat.le_refl _) (by simp) ?_;(case hd=>rfl);(case hg=>rfl);(case hr=>first|(go_simp;done)|(go_simp;rfl));(case hp=>exact(aY.one (show Kd.M (Kd.int .i64) _ _ _ 1 [.int .i64 1]from rfl) (aY.one (show Kd.M (Kd.int .i64) _ _ _ 2 [.int .i64 2]from rfl) (aY.one (show Kd.M (Kd.int .i64) _ _ _ 1 [.int .i64 1]from rfl) (aY.one (show Kd.M (Kd.int .i64) _ _ _ 2 [.int .i64 2]from rfl) (aY.one (show Kd.M (Kd.int .i64) _ _ _ 1 [.int .i64 1]from rfl) (aY.one (show Kd.M (Kd.int .i64) _ _ _ 2 [.int .i64 2]from rfl) (aY.one (show Kd.M (Kd.int .i64) _ _ _ 2 [.int .i64 2]from rfl) (aY.one (show Kd.M (Kd.int .i64) _ _ _ 1 [.int .i64 1]from rfl) (aY.one (show Kd.M (Kd.int .i64) _ _ _ 2 [.int .i64 2]from rfl) (aY.one (show Kd.M (Kd.int .i64) _ _ _ 1 [.int .i64 1]from rfl) (aY.one (show Kd.M (Kd.int .i64) _ _ _ 2 [.int .i64 2]from rfl) (aY.none _ _)))))))))))));intro a7 a_ U hb aj ak;clear aj ak;(first|rw[←aw.out]at U|(simp only[Int.reduceToNat]at U;rw[←aw.out]at U));have I:=A_ (Kd.dG (oR G) hb);have J:=A_ (Kd.dg U (bm (oB z)));have ad:=A_ (bn (oB z) hb);clear G z;have G:=I;have O:=J;have z:=ad;clear I J ad hb U;obtain⟨aW,a3,aT⟩:=Kd.dz O.out;subst aT;have al:0≤(u:Int):=oD;have am:u<(F.length:Int):=oD;obtain⟨aX,aR,a5⟩:=Kd.dV (Kd.cp O.out).2.2 u al am;cases aR;replace al:=ax al;replace am:=ax am)|((with_reducible refine iF (b:= .append) (xs:= #[.tmp 19,.tmp 26]) rfl ?_);at_builtin;refine Kd.kM aU (w0:=w) w.heap.size rfl (.tmp 19) (.tmp 26) 32 112 (.agg #[(.int .i64 0),(.int .i64 0),(.int .i64 0),(.int .i64 0)]) 32 rfl Tryz.underlying32 mS rfl (by decide) (by omega) u3 K (⟨u,wrap64 (u+1),rd F u,a0⟩:ai) [.int .i64 u,.int .i64 (wrap64 (u+1)),.int .i64 (rd F u),.int .i64 a0] (fun _=>True) (fun _=>False) rfl rfl ?aP (fun _ hk=>hk.elim) ?aF ?aO ?aB ?aS ?aL ?_;(case aP=>exact og _ _ _ (⟨u,wrap64 (u+1),rd F u,a0⟩:ai));(case aB=>exact(oB z));(case aF=>exact(fun _ _=>trivial));(case aO=>exact(oR G));(case aS=>exact(bm (oB z)));(case aL=>have:=aM.out;omega);intro a9 bb ho hb hg hat;rw[←aN.out]at ho;have I:=A_ (Kd.nM (oR O) (Kd.nN (oR G)) (by decide) hg);have J:=A_ (hb);have ad:=A_ (ho);clear O z G;have O:=I;have z:=J;have aK:=ad;clear I J ad ho hb hg hat))
        go_roundg k1
        case measure=>have:=ar.out;omega
        case rel=>exact⟨(aH),(wrap64 (u+1)),eS,H',⟨by have:=ar.out;omega⟩,⟨oR aK⟩,⟨oB z⟩⟩
       ·rw[au c9]at H;exact absurd H (by simp)
      ·rw[au c8]at H;exact absurd H (by simp)
     ·rw[au c7]at H;exact absurd H (by simp)
    ·replace c6:=Bool.eq_false_iff.mpr c6;subst c6;rw[au (show¬(false=true)by decide)]at H;obtain rfl:=aC H
     go_wp2_with (first|(go_at_call 88;(with_reducible refine(cn.c a0 0 5000 false _ ao.out).mono ?_);rintro e w' ⟨rfl,⟨nd,rfl⟩⟩))
     go_ret;exact⟨_,eR,oR G,oB z⟩
   ·rw[au c4]at H;have aQ:decide (u<11)=false:=ay c4;clear c4;obtain rfl:=aC H;go_wp2;go_ret;exact⟨_,eR,oR G,oB z⟩
def jO.f (z:List Int) (D:Int) (F:Int) (l1:List Int):Option (Int×Int×Int):=(cf.f z D F (l1.length:Int)).bind fun u=>(if 0≤u.1 then(if u.1<(l1.length:Int)then(some (rd l1 u.1,u.2.1,u.2.2))else(none))else(none))
theorem jO.c (g:Nat) (D:List Int) (I:Int) (J:Int) (K:Option Addr) (c1:Nat) (l1:List Int) (r1:Int) (r2:Int) (r3:Int) (w0 w:World) (hI:aZ w0 w g D I J) (hB:Below w0.heap.size w0 w) (hr1:Kd.C (Kd.int .i64) w K l1.length l1) (hc1:l1.length≤c1) (O:∀ad,K=some ad→0<l1.length→ad.block≠g) (h:jO.f D I J l1=some (r1,r2,r3)):
  Calls Tryz.prog 139 #[.pointer (some ⟨g,0,none⟩),.slice K l1.length c1] w fun e w'=>e= .returned (.int .i64 r1)∧aZ w0 w' g D r2 r3∧Below w0.heap.size w0 w'∧a8 w w' g none:=by
 have aj:=A_ hr1;have ap:=A_ hc1;clear hr1 hc1;have G:=A_ hI;have HK:=A_ (a8.refl w g none);have ar:=A_ hB.size;clear hI;have av:=A_ hB.size;have F:=A_ hB;clear hB;have H:((cf.f D I J (l1.length:Int)).bind fun z=>(if 0≤z.1 then(if z.1<(l1.length:Int)then(some (rd l1 z.1,z.2.1,z.2.2))else(none))else(none)))=some (r1,r2,r3):=h;clear h;replace H:=az H;obtain⟨⟨u,am,ao⟩,X,H⟩:=H
 (try dsimp only at H)
 have ai:=A_ X;clear X;by_cases c4:0≤u
 ·rw[aq c4]at H;have aw:decide (0≤u)=true:=ag c4;clear c4;by_cases c5:u<(l1.length:Int)
  ·rw[aq c5]at H;have aB:decide (u<(l1.length:Int))=true:=ag c5;clear c5;simp only[Option.some.injEq,Prod.mk.injEq]at H;obtain⟨rfl,rfl,rfl⟩:=H;go_enter Tryz.func139,Tryz.ntmps139
   go_wp2_with (first|((with_reducible refine bC (f:=75) rfl ?_);refine gL (some 9) Tryz.func75 #[.pointer (some ⟨g,0,none⟩),.int .i64 (l1.length:Int)] ?_;(with_reducible refine(cf.c g D I J (l1.length:Int) u am ao w0 _ ?bc ?bf ai.out).mono ?_);(case bc=>exact b7 G);(case bf=>exact cL F);rintro e aD ⟨rfl,hi,hb,hk⟩;refine⟨_,rfl,?_⟩;have Z:=A_ (a8.trans (cB HK) hk (.inl rfl));have af:=A_ (hb);have ah:=A_ (hi);clear HK F G;have HK:=Z;have F:=af;have G:=ah;clear Z af ah;(try clear hb);(try clear hb2);(try clear hk);(try clear hi);have U:0≤(u:Int):=oD;have V:u<(l1.length:Int):=oD;obtain⟨ak,al,Y⟩:=Kd.dV aj.out u U V;cases al;replace Y:=wK HK.out Y (by first|(rw[add_block];exact O _ rfl (by omega))|exact O _ rfl (by omega)|exact O ak rfl (by omega));replace U:=ax U;replace V:=ax V))
   go_ret;exact⟨eR,b7 G,cL F,cB HK⟩
  ·rw[au c5]at H;exact absurd H (by simp)
 ·rw[au c4]at H;exact absurd H (by simp)
def ey.l0:Nat→List (ai)→Int→List Int→Int→Int→Option ((List (ai))×Int×Int)
 |0,_,_,_,_,_=>none
 |k+1,x3,u,z,J,K=>if u<(x3.length:Int)then((cf.f z J K 1500).bind fun I=>(if 0≤u then((some (x3.set (u:Int).toNat (⟨(af x3 u).f0,(af x3 u).f1,(af x3 u).f2,I.1⟩:ai):List (ai))).bind fun G=>((je.f z I.2.1 I.2.2 5).bind fun F=>(if F.1=true then(ey.l0 k (G.set (u:Int).toNat (⟨(af G u).f0,(af G u).f1,2,(af G u).f3⟩:ai)) (wrap64 (u+1)) z F.2.1 F.2.2)else(ey.l0 k G (wrap64 (u+1)) z F.2.1 F.2.2))))else(none)))else((cf.f z J K 12).bind fun H=>((jO.f z H.2.1 H.2.2 (([11,11,11,H.1]:List Int))).bind fun D=>(if 0≤D.1 then(if D.1≤(x3.length:Int)then(some ((x3.take (D.1:Int).toNat),D.2.1,D.2.2))else(none))else(none))))
def ey.f (k:Nat) (u:List Int) (z:Int) (D:Int):Option ((List (ai))×Int×Int):=(ew.f k 0).bind fun F=>(ey.l0 k F 0 u z D)
theorem ey.c (k:Nat) (g:Nat) (V:List Int) (bb:Int) (bd:Int) (r1:List (ai)) (r2:Int) (r3:Int) (w0 w:World) (hI:aZ w0 w g V bb bd) (hB:Below w0.heap.size w0 w) (h:ey.f k V bb bd=some (r1,r2,r3)):
  Calls Tryz.prog 137 #[.pointer (some ⟨g,0,none⟩)] w fun e w'=>∃ca:Value,e= .returned (ca)∧Kd.R aU 112 w' w.heap.size (fun _=>True) ca r1∧aZ w0 w' g V r2 r3∧Below w0.heap.size w0 w'∧a8 w w' g none:=by
 have F:=A_ hI;have HK:=A_ (a8.refl w g none);have bh:=A_ hB.size;clear hI;have c5:=A_ hB.size;have G:=A_ hB;clear hB;have H:((ew.f k 0).bind fun be=>(ey.l0 k be 0 V bb bd))=some (r1,r2,r3):=h;clear h;replace H:=az H;obtain⟨be,bF,H⟩:=H
 (try dsimp only at H)
 have A2:=A_ bF;clear bF;have H':=A_ H;clear H;go_enter Tryz.func137,Tryz.ntmps137
 go_wp2_with (first|((with_reducible refine bC (f:=136) rfl ?_);refine gL (some 5) Tryz.func136 #[.int .i64 0] ?_;(with_reducible refine(ew.c k 0 be _ A2.out).mono ?_);rintro e w3 ⟨cZ,rfl,b6,hb⟩;refine⟨_,rfl,?_⟩;have J:=A_ (Kd.dg b6 (l4 (w:=w) (g:=g) (row:=none) (by repeat(first|(with_reducible first|exact HK.out|apply a8.kz|apply lh|apply lg|apply kj)|exact HK.out))));have K:=A_ (aZ.below (b7 F) hb);have O:=A_ (a8.trans (cB HK) (a8.ko hb g none) (.inl rfl));have U:=A_ (bn (cL G) hb);clear F HK G;have ck:=J;have F:=K;have HK:=O;have G:=U;clear J K O U;(try clear hb);(try clear hb2);(try clear hk);(try clear hi);(try clear b6)))
 go_loopg [4] k (fun b9 v4 w'=>∃(D:List (ai)) (u:Int) (ap:Int) (ar:Int),v4= .int .i64 u∧ae (ey.l0 b9 D u V ap ar=some (r1,r2,r3))∧ae (b9≤k)∧ae (Kd.R aU 112 w' w.heap.size (fun _=>True) cZ D)∧ae (aZ w0 w' g V ap ar)∧ae (a8 w w' g none)∧ae (Below w0.heap.size w0 w'))
 case atStart=>exact⟨(be),(0),(bb),(bd),eS,H',⟨Nat.le_refl _⟩,⟨oR ck⟩,⟨b7 F⟩,⟨cB HK⟩,⟨cL G⟩⟩
 case round=>
  clear H'
  try clear c1
  try clear p2
  obtain⟨D,u,ap,ar,rfl,bg,a7,z,F,HK,G⟩:=hrel;cases gk with
  |zero=>exact absurd bg.out (by simp[ey.l0])
  |succ k1=>
   have H:=bg.out;clear bg;simp only[ey.l0]at H;by_cases c4:u<(D.length:Int)
   ·rw[aq c4]at H;have cn:decide (u<(D.length:Int))=true:=ag c4;clear c4;replace H:=az H;obtain⟨⟨ah,aE,aF⟩,bJ,H⟩:=H
    (try dsimp only at H)
    have bI:=A_ bJ;clear bJ;by_cases c6:0≤u
    ·rw[aq c6]at H;have da:decide (0≤u)=true:=ag c6;clear c6;obtain⟨X,aX⟩:∃aG:List (ai),aG=(D.set (u:Int).toNat (⟨(af D u).f0,(af D u).f1,(af D u).f2,ah⟩:ai)):=⟨_,rfl⟩;replace H:((je.f V aE aF 5).bind fun aL=>(if aL.1=true then(ey.l0 k1 (X.set (u:Int).toNat (⟨(af X u).f0,(af X u).f1,2,(af X u).f3⟩:ai)) (wrap64 (u+1)) V aL.2.1 aL.2.2)else(ey.l0 k1 X (wrap64 (u+1)) V aL.2.1 aL.2.2)))=some (r1,r2,r3):=by first|(rw[aX];with_reducible exact H)|(have Y:=(aA _ _).symm.trans H;rw[aX];with_reducible exact Y)|(have Y:=(aA _ _).symm.trans H;with_reducible exact Y)|with_reducible exact H|(rw[aX];exact H)|exact H
     have bT:=A_ aX;clear aX;replace H:=az H;obtain⟨⟨cY,a4,a5⟩,bL,H⟩:=H
     (try dsimp only at H)
     have bK:=A_ bL;clear bL;by_cases c9:cY=true
     ·subst c9;rw[aq rfl]at H;obtain⟨bE,a0⟩:∃aG:List (ai),aG=(X.set (u:Int).toNat (⟨(af X u).f0,(af X u).f1,2,(af X u).f3⟩:ai)):=⟨_,rfl⟩;replace H:(ey.l0 k1 bE (wrap64 (u+1)) V a4 a5)=some (r1,r2,r3):=by first|(rw[a0];with_reducible exact H)|(have Y:=(aA _ _).symm.trans H;rw[a0];with_reducible exact Y)|(have Y:=(aA _ _).symm.trans H;with_reducible exact Y)|with_reducible exact H|(rw[a0];exact H)|exact H
      have cm:=A_ a0;clear a0;have H':=A_ H;clear H;obtain⟨c0,a9,cw⟩:=Kd.dz z.out;subst cw
      go_wp2_with (first|((with_reducible refine bC (f:=75) rfl ?_);refine gL (some 15) Tryz.func75 #[.pointer (some ⟨g,0,none⟩),.int .i64 1500] ?_;(with_reducible refine(cf.c g V ap ar 1500 ah aE aF w0 _ ?bc ?bf bI.out).mono ?_);(case bc=>exact b7 F);(case bf=>exact cL G);rintro e aj ⟨rfl,hi,hb,hk⟩;refine⟨_,rfl,?_⟩;have J:=A_ (Kd.cJ (Kd.jl (aZ.apart (show aZ w0 _ g V ap ar from b7 F) (oR z) (by decide)) hk (fun _ h=>h.2)) (fun _ h=>h.1));have K:=A_ (a8.trans (cB HK) hk (.inl rfl));have O:=A_ (hb);have U:=A_ (hi);clear z HK G F;have z:=J;have HK:=K;have G:=O;have F:=U;clear J K O U;(try clear hb);(try clear hb2);(try clear hk);(try clear hi);have aB:0≤(u:Int):=oD;have aD:(u:Int)<((D.length:Int):Int):=oD;obtain⟨I,cv,aO,aP,bq,cq,aI⟩:=Kd.iN z.out (by omega);(first|cases aO|(injection aO with ao bp bo;(first|subst ao|(injection ao with ao;subst ao));subst bo;clear bp));have a6:=A_ aP;have cj:=A_ aI;clear aP bq aI;obtain⟨co,bu,aQ,Z,ad⟩:=Kd.gZ z.out cG (u:Int) aB aD;obtain rfl:=lZ aQ;have cU:aj.cell? ⟨I,(u:Int).toNat*4,none⟩=some (.int .i64 ((af D u).f0)):=Z 0 _ rfl;have cV:aj.cell? ⟨I,(u:Int).toNat*4+1,none⟩=some (.int .i64 ((af D u).f1)):=Z 1 _ rfl;have cW:aj.cell? ⟨I,(u:Int).toNat*4+2,none⟩=some (.int .i64 ((af D u).f2)):=Z 2 _ rfl;have cX:aj.cell? ⟨I,(u:Int).toNat*4+3,none⟩=some (.int .i64 ((af D u).f3)):=Z 3 _ rfl;have cH:aj.frozen? ⟨I,(u:Int).toNat*4,none⟩=false:=ad 0;have cI:aj.frozen? ⟨I,(u:Int).toNat*4+1,none⟩=false:=ad 1;have cK:aj.frozen? ⟨I,(u:Int).toNat*4+2,none⟩=false:=ad 2;have cM:aj.frozen? ⟨I,(u:Int).toNat*4+3,none⟩=false:=ad 3;clear bu Z ad aQ;replace aB:=ax aB;replace aD:=ax aD;have bM:=A_ (show Kd.R aU 112 aj w.heap.size (fun _=>True) (.slice (some ⟨I,0,none⟩) D.length a9) D from(oR z));obtain⟨dc,bZ,bW,br,b2⟩:=Kd.gZ bM.out cG (u:Int) (oD) (by have h_:(u:Int)<((D.length:Int):Int):=oD;first|exact h_|(have e_:=(Kd.cp z.out).1;omega)|simpa using h_);obtain rfl:=lZ bW;have bk:=Kd.lO bM.out (u:Int) (oD) (by have h_:(u:Int)<((D.length:Int):Int):=oD;first|exact h_|(have e_:=(Kd.cp z.out).1;omega)|simpa using h_) (seg:=[.int .i64 ah]) (j:=3) bZ br (show 4≤4 from by decide) (x':=(⟨(af D u).f0,(af D u).f1,(af D u).f2,ah⟩:ai)) (og _ _ _ (⟨(af D u).f0,(af D u).f1,(af D u).f2,ah⟩:ai)) (fun _ hk=>hk);have cR:=br 3 _ rfl;(try simp only[show(aU).sz=4 from rfl,Nat.mul_one,Nat.add_zero]at cR);have cD:=b2 3;(try simp only[show(aU).sz=4 from rfl,Nat.mul_one,Nat.add_zero]at cD);clear bZ br b2 bW)|((with_reducible refine ju (t:=3) (p:=17) rfl ?_);refine jP (t:=3) (p:=17) (v:= ?zw) (w1:=(aj.setCell ⟨I,(u:Int).toNat*4+3,none⟩ (.int .i64 ah))) ?hg ?ho ?hn ?hr ?_;(case ho=>rfl);(case hg=>rfl);(case hn=>rfl);(case hr=>first|(go_simp;done)|(go_simp;rfl));intro bz hw;have hg:aj.grownBy bz (some I):=(by rw[hw];exact bk.2);have av:Kd.R aU 112 bz w.heap.size (fun _=>True) (.slice (some ⟨I,0,none⟩) D.length a9) X:=(by rw[hw,bT.out];exact bk.1);clear bk;have J:=A_ (av);have K:=A_ (aZ.grown (b7 F) hg (aZ.kp F.out z.out (by decide)));have O:=A_ ((by rw[hw];exact dA (G.out) (Nat.le_trans bh.out a6.out):Below w0.heap.size w0 bz));have U:=A_ (a8.trans (cB HK) (a8.l8 hg g) (Kd.nJ z.out));clear z F G HK;have z:=J;have F:=K;have G:=O;have HK:=U;clear J K O U hg hw av)|((with_reducible refine bC (f:=115) rfl ?_);refine gL (some 19) Tryz.func115 #[.pointer (some ⟨g,0,none⟩),.int .i64 5] ?_;(with_reducible refine(je.c g V aE aF 5 true a4 a5 w0 _ ?bc ?bf bK.out).mono ?_);(case bc=>exact b7 F);(case bf=>exact cL G);rintro e ak ⟨rfl,hi,hb,hk⟩;refine⟨_,rfl,?_⟩;have J:=A_ (Kd.cJ (Kd.jl (aZ.apart (show aZ w0 _ g V aE aF from b7 F) (oR z) (by decide)) hk (fun _ h=>h.2)) (fun _ h=>h.1));have K:=A_ (a8.trans (cB HK) hk (.inl rfl));have O:=A_ (hb);have U:=A_ (hi);clear z HK G F;have z:=J;have HK:=K;have G:=O;have F:=U;clear J K O U;(try clear hb);(try clear hb2);(try clear hk);(try clear hi);have bv:0≤(u:Int):=oD;have bw:(u:Int)<((D.length:Int):Int):=oD;obtain⟨db,cA,bV,aR,aS⟩:=Kd.gZ z.out cG (u:Int) bv bw;obtain rfl:=lZ bV;have dk:ak.cell? ⟨I,(u:Int).toNat*4,none⟩=some (.int .i64 ((af X u).f0)):=aR 0 _ rfl;have dl:ak.cell? ⟨I,(u:Int).toNat*4+1,none⟩=some (.int .i64 ((af X u).f1)):=aR 1 _ rfl;have dm:ak.cell? ⟨I,(u:Int).toNat*4+2,none⟩=some (.int .i64 ((af X u).f2)):=aR 2 _ rfl;have dn:ak.cell? ⟨I,(u:Int).toNat*4+3,none⟩=some (.int .i64 ((af X u).f3)):=aR 3 _ rfl;have df:ak.frozen? ⟨I,(u:Int).toNat*4,none⟩=false:=aS 0;have dh:ak.frozen? ⟨I,(u:Int).toNat*4+1,none⟩=false:=aS 1;have di:ak.frozen? ⟨I,(u:Int).toNat*4+2,none⟩=false:=aS 2;have dj:ak.frozen? ⟨I,(u:Int).toNat*4+3,none⟩=false:=aS 3;clear cA aR aS bV;replace bv:=ax bv;replace bw:=ax bw;have bP:=A_ (show Kd.R aU 112 ak w.heap.size (fun _=>True) (.slice (some ⟨I,0,none⟩) D.length a9) X from(oR z));obtain⟨dd,b0,bX,bs,b3⟩:=Kd.gZ bP.out cG (u:Int) (oD) (by have h_:(u:Int)<((D.length:Int):Int):=oD;first|exact h_|(have e_:=(Kd.cp z.out).1;omega)|simpa using h_);obtain rfl:=lZ bX;have bl:=Kd.lO bP.out (u:Int) (oD) (by have h_:(u:Int)<((D.length:Int):Int):=oD;first|exact h_|(have e_:=(Kd.cp z.out).1;omega)|simpa using h_) (seg:=[.int .i64 2]) (j:=2) b0 bs (show 3≤4 from by decide) (x':=(⟨(af X u).f0,(af X u).f1,2,(af X u).f3⟩:ai)) (og _ _ _ (⟨(af X u).f0,(af X u).f1,2,(af X u).f3⟩:ai)) (fun _ hk=>hk);have cS:=bs 2 _ rfl;(try simp only[show(aU).sz=4 from rfl,Nat.mul_one,Nat.add_zero]at cS);have cE:=b3 2;(try simp only[show(aU).sz=4 from rfl,Nat.mul_one,Nat.add_zero]at cE);clear b0 bs b3 bX)|((with_reducible refine ju (t:=3) (p:=23) rfl ?_);refine jP (t:=3) (p:=23) (v:= ?zy) (w1:=(ak.setCell ⟨I,(u:Int).toNat*4+2,none⟩ (.int .i64 2))) ?hg ?ho ?hn ?hr ?_;(case ho=>rfl);(case hg=>rfl);(case hn=>rfl);(case hr=>first|(go_simp;done)|(go_simp;rfl));intro bA hw;have hg:ak.grownBy bA (some I):=(by rw[hw];exact bl.2);have av:Kd.R aU 112 bA w.heap.size (fun _=>True) (.slice (some ⟨I,0,none⟩) D.length a9) bE:=(by rw[hw,cm.out];exact bl.1);clear bl;have J:=A_ (av);have K:=A_ (aZ.grown (b7 F) hg (aZ.kp F.out z.out (by decide)));have O:=A_ ((by rw[hw];exact dA (G.out) (Nat.le_trans bh.out a6.out):Below w0.heap.size w0 bA));have U:=A_ (a8.trans (cB HK) (a8.l8 hg g) (Kd.nJ z.out));clear z F G HK;have z:=J;have F:=K;have G:=O;have HK:=U;clear J K O U hg hw av))
      go_roundg k1
      case measure=>have:=a7.out;omega
      case rel=>exact⟨(bE),(wrap64 (u+1)),(a4),(a5),eS,H',⟨by have:=a7.out;omega⟩,⟨oR z⟩,⟨b7 F⟩,⟨cB HK⟩,⟨cL G⟩⟩
     ·replace c9:=Bool.eq_false_iff.mpr c9;subst c9;rw[au (show¬(false=true)by decide)]at H;have H':=A_ H;clear H;obtain⟨c3,bU,cx⟩:=Kd.dz z.out;subst cx
      go_wp2_with (first|((with_reducible refine bC (f:=75) rfl ?_);refine gL (some 15) Tryz.func75 #[.pointer (some ⟨g,0,none⟩),.int .i64 1500] ?_;(with_reducible refine(cf.c g V ap ar 1500 ah aE aF w0 _ ?bc ?bf bI.out).mono ?_);(case bc=>exact b7 F);(case bf=>exact cL G);rintro e al ⟨rfl,hi,hb,hk⟩;refine⟨_,rfl,?_⟩;have J:=A_ (Kd.cJ (Kd.jl (aZ.apart (show aZ w0 _ g V ap ar from b7 F) (oR z) (by decide)) hk (fun _ h=>h.2)) (fun _ h=>h.1));have K:=A_ (a8.trans (cB HK) hk (.inl rfl));have O:=A_ (hb);have U:=A_ (hi);clear z HK G F;have z:=J;have HK:=K;have G:=O;have F:=U;clear J K O U;(try clear hb);(try clear hb2);(try clear hk);(try clear hi);have aB:0≤(u:Int):=oD;have aD:(u:Int)<((D.length:Int):Int):=oD;obtain⟨I,cv,aO,aP,bq,cq,aI⟩:=Kd.iN z.out (by omega);(first|cases aO|(injection aO with ao bp bo;(first|subst ao|(injection ao with ao;subst ao));subst bo;clear bp));have a6:=A_ aP;have cj:=A_ aI;clear aP bq aI;obtain⟨co,bu,aQ,Z,ad⟩:=Kd.gZ z.out cG (u:Int) aB aD;obtain rfl:=lZ aQ;have cU:al.cell? ⟨I,(u:Int).toNat*4,none⟩=some (.int .i64 ((af D u).f0)):=Z 0 _ rfl;have cV:al.cell? ⟨I,(u:Int).toNat*4+1,none⟩=some (.int .i64 ((af D u).f1)):=Z 1 _ rfl;have cW:al.cell? ⟨I,(u:Int).toNat*4+2,none⟩=some (.int .i64 ((af D u).f2)):=Z 2 _ rfl;have cX:al.cell? ⟨I,(u:Int).toNat*4+3,none⟩=some (.int .i64 ((af D u).f3)):=Z 3 _ rfl;have cH:al.frozen? ⟨I,(u:Int).toNat*4,none⟩=false:=ad 0;have cI:al.frozen? ⟨I,(u:Int).toNat*4+1,none⟩=false:=ad 1;have cK:al.frozen? ⟨I,(u:Int).toNat*4+2,none⟩=false:=ad 2;have cM:al.frozen? ⟨I,(u:Int).toNat*4+3,none⟩=false:=ad 3;clear bu Z ad aQ;replace aB:=ax aB;replace aD:=ax aD;have bQ:=A_ (show Kd.R aU 112 al w.heap.size (fun _=>True) (.slice (some ⟨I,0,none⟩) D.length bU) D from(oR z));obtain⟨de,b1,bY,bt,b4⟩:=Kd.gZ bQ.out cG (u:Int) (oD) (by have h_:(u:Int)<((D.length:Int):Int):=oD;first|exact h_|(have e_:=(Kd.cp z.out).1;omega)|simpa using h_);obtain rfl:=lZ bY;have bm:=Kd.lO bQ.out (u:Int) (oD) (by have h_:(u:Int)<((D.length:Int):Int):=oD;first|exact h_|(have e_:=(Kd.cp z.out).1;omega)|simpa using h_) (seg:=[.int .i64 ah]) (j:=3) b1 bt (show 4≤4 from by decide) (x':=(⟨(af D u).f0,(af D u).f1,(af D u).f2,ah⟩:ai)) (og _ _ _ (⟨(af D u).f0,(af D u).f1,(af D u).f2,ah⟩:ai)) (fun _ hk=>hk);have cT:=bt 3 _ rfl;(try simp only[show(aU).sz=4 from rfl,Nat.mul_one,Nat.add_zero]at cT);have cF:=b4 3;(try simp only[show(aU).sz=4 from rfl,Nat.mul_one,Nat.add_zero]at cF);clear b1 bt b4 bY)|((with_reducible refine ju (t:=3) (p:=17) rfl ?_);refine jP (t:=3) (p:=17) (v:= ?zA) (w1:=(al.setCell ⟨I,(u:Int).toNat*4+3,none⟩ (.int .i64 ah))) ?hg ?ho ?hn ?hr ?_;(case ho=>rfl);(case hg=>rfl);(case hn=>rfl);(case hr=>first|(go_simp;done)|(go_simp;rfl));intro bB hw;have hg:al.grownBy bB (some I):=(by rw[hw];exact bm.2);have av:Kd.R aU 112 bB w.heap.size (fun _=>True) (.slice (some ⟨I,0,none⟩) D.length bU) X:=(by rw[hw,bT.out];exact bm.1);clear bm;have J:=A_ (av);have K:=A_ (aZ.grown (b7 F) hg (aZ.kp F.out z.out (by decide)));have O:=A_ ((by rw[hw];exact dA (G.out) (Nat.le_trans bh.out a6.out):Below w0.heap.size w0 bB));have U:=A_ (a8.trans (cB HK) (a8.l8 hg g) (Kd.nJ z.out));clear z F G HK;have z:=J;have F:=K;have G:=O;have HK:=U;clear J K O U hg hw av)|((with_reducible refine bC (f:=115) rfl ?_);refine gL (some 19) Tryz.func115 #[.pointer (some ⟨g,0,none⟩),.int .i64 5] ?_;(with_reducible refine(je.c g V aE aF 5 false a4 a5 w0 _ ?bc ?bf bK.out).mono ?_);(case bc=>exact b7 F);(case bf=>exact cL G);rintro e dr ⟨rfl,hi,hb,hk⟩;refine⟨_,rfl,?_⟩;have J:=A_ (Kd.cJ (Kd.jl (aZ.apart (show aZ w0 _ g V aE aF from b7 F) (oR z) (by decide)) hk (fun _ h=>h.2)) (fun _ h=>h.1));have K:=A_ (a8.trans (cB HK) hk (.inl rfl));have O:=A_ (hb);have U:=A_ (hi);clear z HK G F;have z:=J;have HK:=K;have G:=O;have F:=U;clear J K O U;(try clear hb);(try clear hb2);(try clear hk);(try clear hi)))
      go_roundg k1
      case measure=>have:=a7.out;omega
      case rel=>exact⟨(X),(wrap64 (u+1)),(a4),(a5),eS,H',⟨by have:=a7.out;omega⟩,⟨oR z⟩,⟨b7 F⟩,⟨cB HK⟩,⟨cL G⟩⟩
    ·rw[au c6]at H;exact absurd H (by simp)
   ·rw[au c4]at H;have cn:decide (u<(D.length:Int))=false:=ay c4;clear c4;replace H:=az H;obtain⟨⟨aH,a2,a3⟩,bG,H⟩:=H
    (try dsimp only at H)
    have cc:=A_ bG;clear bG;obtain⟨bD,aV⟩:∃aG:List Int,aG=(([11,11,11,aH]:List Int)):=⟨_,rfl⟩;replace H:((jO.f V a2 a3 bD).bind fun aK=>(if 0≤aK.1 then(if aK.1≤(D.length:Int)then(some ((D.take (aK.1:Int).toNat),aK.2.1,aK.2.2))else(none))else(none)))=some (r1,r2,r3):=by first|(rw[aV];with_reducible exact H)|(have Y:=(aA _ _).symm.trans H;rw[aV];with_reducible exact Y)|(have Y:=(aA _ _).symm.trans H;with_reducible exact Y)|with_reducible exact H|(rw[aV];exact H)|exact H
    have bR:=A_ aV;clear aV;replace H:=az H;obtain⟨⟨am,b_,b'⟩,bH,H⟩:=H
    (try dsimp only at H)
    have ce:=A_ bH;clear bH;by_cases aM:0≤am
    ·rw[aq aM]at H;have c7:=ax aM;have c8:decide (0≤am)=true:=ag aM;clear aM;by_cases aN:am≤(D.length:Int)
     ·rw[aq aN]at H;have c_:=ax aN;have c':decide (am≤(D.length:Int))=true:=ag aN;clear aN;obtain⟨cb,aW⟩:∃aG:List (ai),aG=(D.take (am:Int).toNat):=⟨_,rfl⟩;replace H:(some (cb,b_,b'))=some (r1,r2,r3):=by first|(rw[aW];with_reducible exact H)|(have Y:=(aA _ _).symm.trans H;rw[aW];with_reducible exact Y)|(have Y:=(aA _ _).symm.trans H;with_reducible exact Y)|with_reducible exact H|(rw[aW];exact H)|exact H
      have bS:=A_ aW;clear aW;simp only[Option.some.injEq,Prod.mk.injEq]at H;obtain⟨rfl,rfl,rfl⟩:=H;obtain⟨ch,cr,cy⟩:=Kd.dz z.out;subst cy
      go_wp2_with (first|((with_reducible refine bC (f:=75) rfl ?_);refine gL (some 27) Tryz.func75 #[.pointer (some ⟨g,0,none⟩),.int .i64 12] ?_;(with_reducible refine(cf.c g V ap ar 12 aH a2 a3 w0 _ ?bc ?bf cc.out).mono ?_);(case bc=>exact b7 F);(case bf=>exact cL G);rintro e dt ⟨rfl,hi,hb,hk⟩;refine⟨_,rfl,?_⟩;have J:=A_ (Kd.cJ (Kd.jl (aZ.apart (show aZ w0 _ g V ap ar from b7 F) (oR z) (by decide)) hk (fun _ h=>h.2)) (fun _ h=>h.1));have K:=A_ (a8.trans (cB HK) hk (.inl rfl));have O:=A_ (hb);have U:=A_ (hi);clear z HK G F;have z:=J;have HK:=K;have G:=O;have F:=U;clear J K O U;(try clear hb);(try clear hb2);(try clear hk);(try clear hi))|((with_reducible refine aJ (N:=28) rfl ?_);refine Kd.fE (Kd.int .i64) _ 3 ?hg (N:=28) ?hd (xs:=([11,11,11,aH]:List Int)) (inner:=[.int .i64 11,.int .i64 11,.int .i64 11,.int .i64 aH]) (ok:=fun _=>True) (bN:=fun _=>True) ?hr ?hp (fun _ hk=>hk) trivial (Below.refl _ _) (Nat.le_refl _) (by simp) ?_;(case hd=>rfl);(case hg=>rfl);(case hr=>first|(go_simp;done)|(go_simp;rfl));(case hp=>exact(aY.one (show Kd.M (Kd.int .i64) _ _ _ 11 [.int .i64 11]from rfl) (aY.one (show Kd.M (Kd.int .i64) _ _ _ 11 [.int .i64 11]from rfl) (aY.one (show Kd.M (Kd.int .i64) _ _ _ 11 [.int .i64 11]from rfl) (aY.one (show Kd.M (Kd.int .i64) _ _ _ aH [.int .i64 aH]from rfl) (aY.none _ _))))));intro dq du aT hb cO cP;clear cO cP;(first|rw[←bR.out]at aT|(simp only[Int.reduceToNat]at aT;rw[←bR.out]at aT));have J:=A_ (Kd.dG (oR z) hb);have K:=A_ (Kd.dg aT (l4 (w:=w) (g:=g) (row:=none) (by repeat(first|(with_reducible first|exact HK.out|apply a8.kz|apply lh|apply lg|apply kj)|exact HK.out))));have O:=A_ (aZ.below (b7 F) hb);have U:=A_ (a8.trans (cB HK) (a8.ko hb g none) (.inl rfl));have a1:=A_ (bn (cL G) hb);clear z F HK G;have z:=J;have aw:=K;have F:=O;have HK:=U;have G:=a1;clear J K O U a1 hb aT;obtain⟨ci,cu,cz⟩:=Kd.dz aw.out;subst cz)|((with_reducible refine bC (f:=139) rfl ?_);refine gL (some 29) Tryz.func139 #[.pointer (some ⟨g,0,none⟩),.slice ci bD.length cu] ?_;(with_reducible refine(jO.c g V a2 a3 _ _ bD am b_ b' w0 _ ?bc ?bf ?eK ?eL ?jN ce.out).mono ?_);(case bc=>exact b7 F);(case bf=>exact cL G);(case eK=>repeat(first|exact(Kd.cp aw.out).2.2|(with_reducible refine Kd.qo ?_ _)|(with_reducible refine Kd.tV ?_ _)|(with_reducible refine Kd.tU ?_)));(case eL=>exact(Kd.cp aw.out).2.1);(case jN=>exact vO (aZ.kp F.out aw.out (by decide)));rintro e dv ⟨rfl,hi,hb,hk⟩;refine⟨_,rfl,?_⟩;have J:=A_ (Kd.cJ (Kd.jl (aZ.apart (show aZ w0 _ g V a2 a3 from b7 F) (oR z) (by decide)) hk (fun _ h=>h.2)) (fun _ h=>h.1));have K:=A_ (Kd.cJ (Kd.jl (aZ.apart (show aZ w0 _ g V a2 a3 from b7 F) (oR aw) (by decide)) hk (fun _ h=>h.2)) (fun _ h=>h.1));have O:=A_ (a8.trans (cB HK) hk (.inl rfl));have U:=A_ (hb);have a1:=A_ (hi);clear z aw HK G F;have z:=J;have aw:=K;have HK:=O;have G:=U;have F:=a1;clear J K O U a1;(try clear hb);(try clear hb2);(try clear hk);(try clear hi);have bx:(am:Int)≤((D.length:Int):Int):=oD;obtain⟨dp,b5,_,cQ,_⟩:=info_parts mS;have cC:=rf (P:=Tryz.prog) 32 112 .i64 Tryz.underlying32 b5 ch D.length cr am (oD) bx (Kd.cp z.out).2.1;have a_:=Kd.uI (m:=(am:Int).toNat) z.out (by omega);have b8:cb.length=(am:Int).toNat:=(by rw[bS.out,List.length_take];omega);rw[←bS.out]at a_;rw[←b8]at a_ cC;clear b8 b5 cQ z;have cl:=A_ a_;clear a_;replace bx:=ax bx))
      go_ret;exact⟨_,eR,oR cl,b7 F,cL G,cB HK⟩
     ·rw[au aN]at H;exact absurd H (by simp)
    ·rw[au aM]at H;exact absurd H (by simp)
def l6.f (l0:List Int):Option (Bool):=some (decide ((l0.length:Int)>1048576))
theorem l6.c (u:Option Addr) (c0:Nat) (l0:List Int) (r:Bool) (w:World) (z:Kd.C (Kd.int .u8) w u l0.length l0) (hc0:l0.length≤c0) (h:l6.f l0=some r):
  Calls Tryz.prog 29 #[.slice u l0.length c0] w fun e w'=>e= .returned (.bool r)∧bw w w':=by
 have F:=A_ z;have D:=A_ hc0;clear z hc0;have H:(some (decide ((l0.length:Int)>1048576)))=some r:=h;clear h;obtain rfl:=aC H;go_enter Tryz.func29,Tryz.ntmps29;go_wp2;go_ret;exact⟨eS,by repeat(first|exact bw.refl _|apply bw.step)⟩
end P

end Go.Proofs.YtanhnhkcpbdfmaaGreat
