/- The words of the printed proofs: how slices, structs and calls are told. Plain laws, no condition. -/
import Derived.Below
import Derived.Deep.Draws
import Derived.Deep.AppendLies
import Derived.Maps.AppendAt
import Derived.OwnWalk
import Derived.Laws.BytesArg
import Derived.Laws.MakeOwn
import Derived.Laws.OwnMore
import Derived.Deep.OwnRows
import Derived.Tactics
import Derived.Lib.ConvBytes
import Derived.Laws.Slices
import Derived.WalkKit
import Derived.KernelRfl
import Derived.RowKit3
import Derived.Deep.LoopGhost
import Derived.Deep.QuietTactic
import Derived.BigQuiet
import Derived.WideLaws
import Derived.Deep.DeepCutAuto
import Derived.Deep.CutBlock
import Derived.Deep.RegionHeld3
import Derived.Laws.Rows
import Derived.Lib.AppendStr
import Derived.ArgAppend
import Derived.Laws.IdiomCopy
import Derived.RowKit
import Derived.OrdersHeld
import Derived.Laws.BitsLemmas
import Derived.Laws.StructEq
set_option linter.unusedVariables false
set_option linter.unusedSimpArgs false
set_option linter.unusedVariables false
set_option linter.unusedSimpArgs false
namespace Go.Proofs.YtanhnhkcpbdfmaaGreat
theorem ag {p : Prop} [h : Decidable p] : p → decide p = true := decide_eq_true
theorem ay {p : Prop} [h : Decidable p] : ¬ p → decide p = false := decide_eq_false
theorem aq.{u} {c : Prop} {h : Decidable c} (hc : c) {α : Sort u} {t e : α} : ite c t e = t := if_pos hc
theorem au.{u} {c : Prop} {h : Decidable c} (hc : ¬ c) {α : Sort u} {t e : α} : ite c t e = e := if_neg hc
theorem ax {p : Prop} (h : p) : p = True := eq_true h
theorem az {α β : Type} {b : β} {x : Option α} {f : α → Option β} (h : x.bind f = some b) : ∃ a, x = some a ∧ f a = some b := Option.bind_eq_some_iff.mp h
theorem aA {α β : Type} (a : α) (f : α → Option β) : (some a).bind f = f a := rfl
theorem aC.{u} {α : Type u} {a b : α} (h : some a = some b) : a = b := Option.some.inj h
end Go.Proofs.YtanhnhkcpbdfmaaGreat
namespace Go.Proofs.YtanhnhkcpbdfmaaGreat
namespace WW.bk
open Go.RowKit
class ae (p:Prop):Prop where mk::(out:p)
theorem o_ {p:Prop} [h:ae p]:p:=h.out
structure bw (w w':World):Prop where mk::(out:∃n,w'=w.drewN n)
theorem bw.refl (w:World):bw w w:=⟨⟨0,rfl⟩⟩
theorem bw.step {w w':World} (h:bw w w') (n:Nat):bw w (w'.drewN n):=by
  obtain⟨m,rfl⟩:=h;exact⟨⟨m+n,World.drewN_drewN ..⟩⟩
theorem bw.grown {w w':World} (h:bw w w'):Grown w w':=by
  obtain⟨n,rfl⟩:=h
  induction n with
  |zero=>exact Grown.refl _
  |succ n ih=>rw[←World.drew_drewN];exact Grown.drew ih
theorem bw.below {w w':World} (h:bw w w'):Below w.heap.size w w':=by
  obtain⟨n,rfl⟩:=h
  induction n with
  |zero=>exact Below.refl _ _
  |succ n ih=>rw[←World.drew_drewN];exact ih.drew
def rd (xs:List Int) (i:Int):Int:=xs.getD i.toNat 0
theorem bO {w W:World} (h:Below w.heap.size w W) (o:Obj):Below w.heap.size w (W.alloc o):=h.alloc h.size o
theorem lS {B:Nat} {w W:World} (h:Below B w W):Below B w W.drew:=⟨h.os,h.tape,h.output,h.size,h.block⟩
theorem cN {B:Nat} {w W:World} (h:Below B w W) (n:Nat):Below B w (W.drewN n):=⟨h.os,h.tape,h.output,h.size,h.block⟩
theorem qV {B:Nat} {w w1 w2:World} (h:Below B w w1) (hB:B≤w1.heap.size) (k:Below w1.heap.size w1 w2):Below B w w2:=
  h.trans ⟨k.os,k.tape,k.output,k.size,fun i hi=>k.block i (Nat.lt_of_lt_of_le hi hB)⟩
theorem rC {w w1:World} (h:Below w.heap.size w w1) (row:Option Nat):w.grownBy w1 row:=⟨h.os,h.tape,h.output,h.size,fun i hi _=>h.block i hi⟩
theorem nb {w w1:World} (h:Below w.heap.size w w1) {a:Addr} {v:Value} (hc:w.cell? a=some v):w1.cell? a=some v:=(h.cell (World.block_lt_of_cell? w a hc)).trans hc
theorem add_plain (g j:Nat):(⟨g,0,none⟩:Addr).add j=⟨g,j,none⟩:=by unfold Addr.add;split<;>simp_all
def gO (w:World) (k:IntKind) (A:Option Addr) (n:Nat) (xs:List Int):Prop:=
  xs.length=n∧n≤9223372036854775807∧(0<n→∃ad,A=some ad∧∀j,j<n→w.cell? (ad.add j)=some (.int k (xs.getD j 0)))
theorem gO.at_ {w:World} {k:IntKind} {A:Option Addr} {n:Nat} {xs:List Int} (h:gO w k A n xs) (i:Int) (h0:0≤i) (h1:i<n):∃ad,A=some ad∧w.cell? (ad.add i.toNat)=some (.int k (rd xs i)):=by
  obtain⟨ad,e,hc⟩:=h.2.2 (by omega);exact⟨ad,e,hc _ (by omega)⟩
theorem gO.below {w w1:World} {k:IntKind} {A:Option Addr} {n:Nat} {xs:List Int} (h:gO w k A n xs) (hb:Below w.heap.size w w1):gO w1 k A n xs:=
  ⟨h.1,h.2.1,fun hn=>by
    obtain⟨ad,e,hc⟩:=h.2.2 hn;exact⟨ad,e,fun j hj=>nb hb (hc j hj)⟩⟩
theorem xy (W:World) (base:Nat) (e:TypeId) (size:Nat):W.ownsRow base e size (.slice none 0 0) 0 []:=⟨by simp,.inl ⟨rfl,rfl⟩⟩
theorem l9 {w:World} {base:Nat} {e:TypeId} {size n:Nat} {v:Value} {xs:List Value} (h:w.ownsRow base e size v n xs) (k:Nat) (hk:v.ownBlock=some k):base≤k:=by
  rcases h.2 with ⟨rfl,_⟩|⟨g,cap,cur,rfl,hb,_⟩
  · simp[Value.ownBlock]at hk
  · have:g=k:=(by simpa[Value.ownBlock]using hk);omega
theorem sj {w:World} {base:Nat} {e:TypeId} {size n:Nat} {v:Value} {xs:List Value} (h:w.ownsRow base e size v n xs) (k:Nat) (hk:v.ownBlock=some k):k<w.heap.size:=by
  rcases h.2 with ⟨rfl,_⟩|⟨g,cap,cur,rfl,hb,hh,_⟩
  · simp[Value.ownBlock]at hk
  · have:g=k:=(by simpa[Value.ownBlock]using hk);subst this;exact(Array.getElem?_eq_some_iff.1 hh).1
theorem xX {w w1:World} {base:Nat} {e:TypeId} {size n:Nat} {v:Value} {xs:List Value} (h:w.ownsRow base e size v n xs) (hb:Below w.heap.size w w1):w1.ownsRow base e size v n xs:=
  h.kept (rC hb none) (by cases v.ownBlock<;>simp)
theorem xC {w:World} {base n:Nat} {e:TypeId} {size:Nat} {v:Value} {xs:List Value} (h:w.ownsRow base e size v n xs):∃A c,v= .slice A n c:=by
  rcases h.2 with ⟨rfl,rfl⟩|⟨g,cap,cur,rfl,_⟩
  · exact⟨none,0,rfl⟩
  · exact⟨_,cap,rfl⟩
theorem gO.nx {w:World} {k:IntKind} {A:Option Addr} {n:Nat} {xs:List Int} (h:gO w k A n xs) (i:Nat) (hi:i≤n):gO w k A i (xs.take i):=by
  refine⟨by rw[List.length_take,h.1];omega,by have:=h.2.1;omega,fun hp=> ?_⟩;obtain⟨ad,e,hc⟩:=h.2.2 (by omega);refine⟨ad,e,fun j hj=> ?_⟩;rw[hc j (by omega)];simp[List.getD_eq_getElem?_getD,hj]
def eO {α:Type} (a b:Option α):Prop:=∀r,a=some r→b=some r
theorem eO.refl {α:Type} (a:Option α):eO a a:=fun _ h=>h
theorem eO.none {α:Type} (b:Option α):eO Option.none b:=fun _ h=>by cases h
theorem eO.trans {α:Type} {a b c:Option α} (h:eO a b) (k:eO b c):eO a c:=fun r hr=>k r (h r hr)
theorem eO.bind {α β:Type} {a a':Option α} {f f':α→Option β} (h:eO a a') (k:∀x,eO (f x) (f' x)):eO (a.bind f) (a'.bind f'):=by
  intro r hr;obtain⟨x,hx,hf⟩:=Option.bind_eq_some_iff.1 hr;exact Option.bind_eq_some_iff.2 ⟨x,h x hx,k x r hf⟩
theorem eO.map {α β:Type} {a a':Option α} (f:α→β) (h:eO a a'):eO (a.map f) (a'.map f):=by
  intro r hr;obtain⟨x,hx,hf⟩:=Option.map_eq_some_iff.1 hr;exact Option.map_eq_some_iff.2 ⟨x,h x hx,hf⟩
theorem rW {α:Type} {g:Nat→Option α} (h:∀k,eO (g k) (g (k+1))) (k:Nat):∀j,eO (g k) (g (k+j))
  |0=>eO.refl _
  |j+1=>(rW h k j).trans (h (k+j))
theorem u6 {α:Type} {g:Nat→Option α} (h:∀k,eO (g k) (g (k+1))) {k k':Nat} (hk:k≤k') {r:α} (hr:g k=some r):g k'=some r:=by
  have:=rW h k (k'-k) r hr
  rwa [Nat.add_sub_cancel' hk]at this
def aY {α:Type} (R:α→List Value→Prop) (size:Nat) (ps:List α) (cs:List Value):Prop:=
  cs.length=ps.length*size∧∀j p,ps[j]? =some p→R p ((cs.drop (j*size)).take size)
theorem aY.none {α:Type} (R:α→List Value→Prop) (size:Nat):aY R size [] []:=⟨by simp,fun j p h=>by simp at h⟩
theorem aY.snoc {α:Type} {R:α→List Value→Prop} {size:Nat} {ps:List α} {cs c:List Value} {p:α} (h:aY R size ps cs) (hp:R p c) (hc:c.length=size):aY R size (ps++[p]) (cs++c):=by
  refine⟨by rw[List.length_append,h.1,hc,List.length_append,List.length_singleton,Nat.add_mul,Nat.one_mul],fun j q hq=> ?_⟩;rcases Nat.lt_or_ge j ps.length with hj|hj
  · rw[List.getElem?_append_left hj]at hq;have h1:j*size+size≤cs.length:=(by rw[h.1,←Nat.succ_mul];exact Nat.mul_le_mul_right _ hj);have h2:=h.2 j q hq;rw[List.drop_append_of_le_length (by omega),List.take_append_of_le_length (by rw[List.length_drop];omega)];exact h2
  · have hj':j=ps.length:=by
      have:=(List.getElem?_eq_some_iff.1 hq).1;rw[List.length_append,List.length_singleton]at this;omega
    subst hj';have hq':p=q:=(by simpa using hq);subst hq';rw[←h.1,List.drop_left,←hc,List.take_length];exact hp
theorem aY.eI {α:Type} {R R':α→List Value→Prop} {size:Nat} {ps:List α} {cs:List Value} (h:aY R size ps cs) (hR:∀p c,R p c→R' p c):aY R' size ps cs:=⟨h.1,fun j p hj=>hR _ _ (h.2 j p hj)⟩
def fO {α:Type} (R:α→List Value→Prop) (size:Nat) (w:World) (A:Option Addr) (n:Nat) (ps:List α):Prop:=
  ps.length=n∧n≤9223372036854775807∧(0<n→∃ad,A=some ad∧∀j p,ps[j]? =some p→∃c,c.length=size∧R p c∧∀i u,c[i]? =some u→w.cell? (ad.add (j*size+i))=some u)
theorem fO.vX {α:Type} {R:α→List Value→Prop} {size:Nat} {w:World} {A:Option Addr} {n:Nat} {ps:List α} (h:fO R size w A n ps) (d:α) (i:Int) (h0:0≤i) (h1:i<n):
    ∃ad c,A=some ad∧c.length=size∧R (ps.getD i.toNat d) c∧∀j u,c[j]? =some u→w.cell? (ad.add (i.toNat*size+j))=some u:=by
  obtain⟨ad,e,hc⟩:=h.2.2 (by omega);have hl:i.toNat<ps.length:=by have:=h.1;omega
  obtain⟨c,hs,hr,hcell⟩:=hc i.toNat _ (List.getElem?_eq_getElem hl);refine⟨ad,c,e,hs,?_,hcell⟩;rw[List.getD_eq_getElem?_getD,List.getElem?_eq_getElem hl];exact hr
theorem fO.eI {α:Type} {R R':α→List Value→Prop} {size:Nat} {w w1:World} {A:Option Addr} {n:Nat} {ps:List α} (h:fO R size w A n ps) (hb:Below w.heap.size w w1) (hR:∀p c,R p c→R' p c):fO R' size w1 A n ps:=
  ⟨h.1,h.2.1,fun hn=>by
    obtain⟨ad,e,hc⟩:=h.2.2 hn;refine⟨ad,e,fun j p hj=> ?_⟩;obtain⟨c,hs,hr,hcell⟩:=hc j p hj;exact⟨c,hs,hR _ _ hr,fun i u hu=>nb hb (hcell i u hu)⟩⟩
theorem xA {α:Type} {R:α→List Value→Prop} {w:World} {base n size:Nat} {e:TypeId} {v:Value} {ps:List α} {cs:List Value} (h:w.ownsRow base e size v n cs) (hR:aY R size ps cs) (hn:ps.length=n):
    ∃A c,v= .slice A n c∧fO R size w A n ps:=by
  rcases Nat.eq_zero_or_pos n with h0|h0
  · rcases h.2 with ⟨rfl,rfl⟩|⟨g,cap,cur,rfl,_⟩
    · exact⟨none,0,rfl,hn,by omega,fun hp=>absurd hp (by omega)⟩
    · exact⟨_,cap,rfl,hn,by omega,fun hp=>absurd hp (by omega)⟩
  · obtain⟨g,cap,rfl,_,_⟩:=h.form h0
    have hm:n≤9223372036854775807:=by
      rcases h.2 with ⟨_,h1⟩|⟨g',cap',cur,he,_,_,h1,h2,_⟩
      · omega
      · simp only[maxLen]at h2;omega
    refine⟨_,cap,rfl,hn,hm,fun _=>⟨_,rfl,fun j p hj=>⟨(cs.drop (j*size)).take size,?_,hR.2 j p hj,fun i u hu=> ?_⟩⟩⟩
    · have hjl:=(List.getElem?_eq_some_iff.1 hj).1;have h1:j*size+size≤cs.length:=(by rw[hR.1,←Nat.succ_mul];exact Nat.mul_le_mul_right _ hjl);rw[List.length_take,List.length_drop];omega
    · refine h.cells (g:=g) rfl _ u ?_;rw[List.getElem?_take]at hu
      split at hu
      · rw[List.getElem?_drop]at hu;exact hu
      · cases hu
theorem jm (ad:Addr) (m j:Nat) (hj:0<j):ad.add (m+j)=⟨(ad.add m).block,(ad.add m).off+j,none⟩:=by
  unfold Addr.add;by_cases hm:m=0
  · subst hm;simp[Nat.ne_of_gt hj]
  · simp[hm,Nat.add_assoc]
section
variable {P:Program} {ops:Array Oper} {rest:List Oper} {o:Oper} {a:Act} {Q:Exit→Act→World→Prop}
theorem sJ {w0 W:World} (base:Nat) (hgd:o.guard=none) (s x:Operand) (t e:TypeId) (z:Value) (size bytes:Nat)
    (ho:o.op= .call {callee:= .builtin .append,args:= #[s,x],argTypes:= #[t,t]})
    (ht:P.underlying t=some (.slice e)) (hinfo:(P.info? e).map (fun i=>(i.zero,i.size,i.bytes))=some (some z,size,bytes)) (hz:z.cells.size=size) (hs0:0<size) (hb0:0<bytes)
    (v:Value) (n:Nat) (xs ys:List Value) (hs:a.eval s=v) (hx:a.eval x= .slice (some ⟨W.heap.size,0,none⟩) 1 1) (hys:ys.length=size) (h1:∀u∈ys,u.oneCell'=true)
    (HO:W.ownsRow base e size v n xs) (D:Below base w0 W) (hbase:base≤W.heap.size) (hl:(n+1)*bytes≤140737488355328)
    (h:∀v1 w1,w1.ownsRow base e size v1 (n+1) (xs++ys)→Below base w0 w1→W.grownBy w1 v.ownBlock→(v1.ownBlock=v.ownBlock∨∃b,v1.ownBlock=some b∧W.heap.size≤b)→wpList P ops Q rest (a.put o.dst v1) w1):
    wpList P ops Q (o::rest) a (W.alloc (.cells ys.toArray e)):=by
  obtain⟨i0,hi,hzz⟩:=Option.map_eq_some_iff.1 hinfo;simp only[Prod.mk.injEq]at hzz;obtain⟨hz0,hz1,hz2⟩:=hzz;have hlen:n+1≤140737488355328:=Nat.le_trans (Nat.le_mul_of_pos_right _ hb0) hl
  refine wpList_append_own_at (W.alloc (.cells ys.toArray e)) hgd s x t ho base e i0 z size bytes ht hi hz0 hz1 hz2 hz hs0 v n xs hs (HO.alloc _) ⟨W.heap.size,0,none⟩ 1 1 ys hx (by rw[hys];simp)
    (by simpa using World.news_of_block (cs:=ys.toArray) (t:=e) (fr:=(0,0)) (heap_alloc_new W (.cells ys.toArray e))) h1 (by simp only[maxLen];omega) hl (by simp;omega) ?_
  intro v1 w1 hown hg _ hat;refine h v1 w1 hown ((D.alloc hbase _).grown hg (by simp;omega) (l9 HO)) (World.grownBy.trans (World.grownBy_alloc W _ _) hg) ?_;rcases hat with hat|hat
  · exact .inl hat
  · exact .inr ⟨_,hat,by simp⟩
end
theorem kp {w:World} {base:Nat} {e t:TypeId} {size n g:Nat} {v:Value} {xs:List Value} {cs:Array Value} (h:w.ownsRow base e size v n xs) (hg:w.heap[g]? =some (.cells cs t (0,0))) (hne:e≠t):some g≠v.ownBlock:=by
  rcases h.2 with ⟨rfl,_⟩|⟨g',cap,cur,rfl,_,hh,_⟩
  · simp[Value.ownBlock]
  · intro he;have:g=g':=(by simpa[Value.ownBlock]using he);subst this;rw[hg]at hh;injection hh with hh;injection hh with _ ht;exact hne ht.symm
theorem xB {w:World} {base:Nat} {e:TypeId} {size n:Nat} {v:Value} {xs:List Value} (h:w.ownsRow base e size v n xs) {p:Addr} (hne:some p.block≠v.ownBlock) (u:Value):(w.setCell p u).ownsRow base e size v n xs:=by
  obtain⟨h1,h2⟩:=h;refine⟨h1,?_⟩;rcases h2 with h2|⟨g,cap,cur,rfl,hg,hh,r⟩
  · exact .inl h2
  · exact .inr ⟨g,cap,cur,rfl,hg,by rw[Below.heap_setCell _ _ _ _ (fun e=>hne (by rw[e];rfl))];exact hh,r⟩
theorem mI {w:World} {g:Nat} {t:TypeId} {cs:Array Value} (h:w.heap[g]? =some (.cells cs t (0,0))) (i:Nat) (u:Value):(w.setCell ⟨g,i,none⟩ u).heap[g]? =some (.cells (cs.setIfInBounds i u) t (0,0)):=by
  simp[World.setCell,Array.getElem?_modify,h]
theorem fF {w:World} {g:Nat} {t:TypeId} {cs:Array Value} (h:w.heap[g]? =some (.cells cs t (0,0))) {p:Addr} (hp:g≠p.block) (u:Value):(w.setCell p u).heap[g]? =some (.cells cs t (0,0)):=(Below.heap_setCell w p u g hp).trans h
theorem dB {w:World} {g:Nat} {o:Obj} (h:w.heap[g]? =some o):g<w.heap.size:=(Array.getElem?_eq_some_iff.1 h).1
theorem cA {w:World} {g:Nat} {t:TypeId} {cs:Array Value} (h:w.heap[g]? =some (.cells cs t (0,0))) (i:Nat):w.cell? ⟨g,i,none⟩=cs[i]? :=cell_of_row w g i cs t (0,0) h
theorem aK {w:World} {g:Nat} {t:TypeId} {cs:Array Value} (h:w.heap[g]? =some (.cells cs t (0,0))) (i:Nat):w.frozen? ⟨g,i,none⟩=false:=by simp[World.frozen?,h]
theorem nV {w w1:World} {g:Nat} {o:Obj} {row:Option Nat} (h:w.heap[g]? =some o) (hg:w.grownBy w1 row) (hne:some g≠row):w1.heap[g]? =some o:=(hg.block g (dB h) hne).trans h
def a8 (w w':World) (g:Nat) (row:Option Nat):Prop:=w.heap.size≤w'.heap.size∧∀i,i<w.heap.size→i≠g→some i≠row→w'.heap[i]? =w.heap[i]?
theorem a8.refl (w:World) (g:Nat) (row:Option Nat):a8 w w g row:=⟨Nat.le_refl _,fun _ _ _ _=>rfl⟩
theorem a8.l8 {w w1:World} {row:Option Nat} (h:w.grownBy w1 row) (g:Nat):a8 w w1 g row:=⟨h.size,fun i hi _ hr=>h.block i hi hr⟩
theorem a8.ko {w w1:World} (h:Below w.heap.size w w1) (g:Nat) (row:Option Nat):a8 w w1 g row:=⟨h.size,fun i hi _ _=>h.block i hi⟩
theorem a8.kz {w w1:World} {g:Nat} {row:Option Nat} (h:a8 w w1 g row) (j:Nat) (u:Value):a8 w (w1.setCell ⟨g,j,none⟩ u) g row:=
  ⟨by simpa[World.setCell]using h.1,fun i hi hg hr=>(Below.heap_setCell w1 ⟨g,j,none⟩ u i hg).trans (h.2 i hi hg hr)⟩
theorem a8.trans {w w1 w2:World} {g:Nat} {row u:Option Nat} (h:a8 w w1 g row) (k:a8 w1 w2 g u) (hr:u=row∨∃b,u=some b∧w.heap.size≤b):a8 w w2 g row:=
  ⟨Nat.le_trans h.1 k.1,fun i hi hg hn=>by
    refine(k.2 i (Nat.lt_of_lt_of_le hi h.1) hg ?_).trans (h.2 i hi hg hn);rcases hr with rfl|⟨b,rfl,hb⟩
    · exact hn
    · intro e;injection e with e;omega⟩
theorem a8.blk {w w1:World} {g g':Nat} {row:Option Nat} {o:Obj} (h:a8 w w1 g row) (hb:w.heap[g']? =some o) (hg:g'≠g) (hr:some g'≠row):w1.heap[g']? =some o:=(h.2 g' (dB hb) hg hr).trans hb
theorem a8.own {w w1:World} {g:Nat} {row:Option Nat} {base:Nat} {e:TypeId} {size n:Nat} {v:Value} {xs:List Value} (h:a8 w w1 g row) (ho:w.ownsRow base e size v n xs) (hg:v.ownBlock≠some g) (hr:v.ownBlock=none∨v.ownBlock≠row):w1.ownsRow base e size v n xs:=by
  obtain⟨h1,h2⟩:=ho;refine⟨h1,?_⟩;rcases h2 with h2|⟨b,cap,cur,rfl,hb,hh,r⟩
  · exact .inl h2
  · refine .inr ⟨b,cap,cur,rfl,hb,h.blk hh ?_ ?_,r⟩
    · intro e;exact hg (by rw[←e];rfl)
    · rcases hr with hr|hr
      · simp[Value.ownBlock]at hr
      · exact hr
def Ev {α:Type} (g:Nat→Option α) (r:α):Prop:=∃K,∀k,K≤k→g k=some r
theorem Ev.of {α:Type} {g:Nat→Option α} {r:α} (hg:∀k,eO (g k) (g (k+1))) {k:Nat} (h:g k=some r):Ev g r:=⟨k,fun _ hk=>u6 hg hk h⟩
theorem Ev.now {α:Type} (r:α):Ev (fun _=>some r) r:=⟨0,fun _ _=>rfl⟩
theorem Ev.rounds {α:Type} {g:Nat→Option α} {r:α} (h:Ev g r):∃k,g k=some r:=by
  obtain⟨K,h⟩:=h;exact⟨K,h K (Nat.le_refl _)⟩
theorem Ev.bind {α β:Type} {g:Nat→Option α} {f:Nat→α→Option β} {a:α} {r:β} (h:Ev g a) (k:Ev (fun n=>f n a) r):Ev (fun n=>(g n).bind (f n)) r:=by
  obtain⟨K,h⟩:=h;obtain⟨K',k⟩:=k;refine⟨max K K',fun n hn=> ?_⟩;have h1:=h n (by omega);have h2:=k n (by omega);simp only[h1,aA];exact h2
theorem Ev.step {α:Type} {g f:Nat→Option α} {r:α} (h:∀k,g (k+1)=f k) (k:Ev f r):Ev g r:=by
  obtain⟨K,k⟩:=k;refine⟨K+1,fun n hn=> ?_⟩;obtain⟨m,rfl⟩:∃m,n=m+1:=⟨n-1,by omega⟩;rw[h];exact k m (by omega)
theorem Ev.congr {α:Type} {g f:Nat→Option α} {r:α} (h:∀k,g k=f k) (k:Ev f r):Ev g r:=by
  obtain⟨K,k⟩:=k;exact⟨K,fun n hn=>(h n).trans (k n hn)⟩
theorem xF {w:World} {base base':Nat} {e:TypeId} {size n:Nat} {v:Value} {xs:List Value} (h:w.ownsRow base e size v n xs) (hb:base'≤base):w.ownsRow base' e size v n xs:=by
  obtain⟨h1,h2⟩:=h;refine⟨h1,?_⟩;rcases h2 with h2|⟨g,cap,cur,rfl,hg,r⟩
  · exact .inl h2
  · exact .inr ⟨g,cap,cur,rfl,Nat.le_trans hb hg,r⟩
section
variable {α:Type} {enc:α→Value} {d:α}
def encs (enc:α→Value) (xs:List α):List Value:=xs.map enc
def jJ (d:α) (xs:List α) (i:Int):α:=xs.getD i.toNat d
theorem rh (xs:List α):(encs enc xs).length=xs.length:=by simp[encs]
theorem vK (xs:List α) (j:Nat) (h:j<xs.length):(encs enc xs)[j]? =some (enc (xs.getD j d)):=by
  simp[encs,List.getElem?_eq_getElem h,List.getD_eq_getElem?_getD]
def fY (enc:α→Value) (d:α) (w:World) (A:Option Addr) (n:Nat) (xs:List α):Prop:=
  xs.length=n∧n≤9223372036854775807∧(0<n→∃ad,A=some ad∧∀j,j<n→w.cell? (ad.add j)=some (enc (xs.getD j d)))
theorem fY.at_ {w:World} {A:Option Addr} {n:Nat} {xs:List α} (h:fY enc d w A n xs) (i:Int) (h0:0≤i) (h1:i<n):∃ad,A=some ad∧w.cell? (ad.add i.toNat)=some (enc (jJ d xs i)):=by
  obtain⟨ad,e,hc⟩:=h.2.2 (by omega);exact⟨ad,e,hc _ (by omega)⟩
theorem fY.below {w w1:World} {A:Option Addr} {n:Nat} {xs:List α} (h:fY enc d w A n xs) (hb:Below w.heap.size w w1):fY enc d w1 A n xs:=
  ⟨h.1,h.2.1,fun hn=>by
    obtain⟨ad,e,hc⟩:=h.2.2 hn;exact⟨ad,e,fun j hj=>nb hb (hc j hj)⟩⟩
theorem fY.nx {w:World} {A:Option Addr} {n:Nat} {xs:List α} (h:fY enc d w A n xs) (i:Nat) (hi:i≤n):fY enc d w A i (xs.take i):=by
  refine⟨by rw[List.length_take,h.1];omega,by have:=h.2.1;omega,fun hp=> ?_⟩;obtain⟨ad,e,hc⟩:=h.2.2 (by omega);refine⟨ad,e,fun j hj=> ?_⟩;rw[hc j (by omega)];simp[List.getD_eq_getElem?_getD,hj]
theorem xu {W:World} {base g n cap:Nat} {e:TypeId} {xs:List α} (h:W.ownsRow base e 1 (.slice (some ⟨g,0,none⟩) n cap) n (encs enc xs)) (i:Int) (h0:0≤i) (h1:i<n):
    W.cell? ⟨g,i.toNat,none⟩=some (enc (jJ d xs i))∧W.frozen? ⟨g,i.toNat,none⟩=false:=by
  have hl:xs.length=n:=by have:=h.1;simp[encs]at this;exact this
  constructor
  · have hc:=h.cells (g:=g) rfl i.toNat _ (vK (d:=d) xs i.toNat (by omega))
    rwa [add_plain]at hc
  · rcases h.2 with ⟨h',_⟩|⟨g',cap',cur,h',_,hh,_⟩
    · cases h'
    · have:g=g':=(by injection h' with h';injection h' with h';injection h' with h');subst this;simp[World.frozen?,hh]
theorem xD {W:World} {base g n cap:Nat} {e:TypeId} {xs:List α} (h:W.ownsRow base e 1 (.slice (some ⟨g,0,none⟩) n cap) n (encs enc xs)) (i:Int) (x:α):
    (W.setCell ⟨g,i.toNat,none⟩ (enc x)).ownsRow base e 1 (.slice (some ⟨g,0,none⟩) n cap) n (encs enc (xs.set i.toNat x))∧W.grownBy (W.setCell ⟨g,i.toNat,none⟩ (enc x)) (some g):=by
  have hs:=h.stored i.toNat (enc x);have he:(encs enc xs).set i.toNat (enc x)=encs enc (xs.set i.toNat x):=by simp[encs,List.map_set]
  rwa [he]at hs
end
theorem bu {w:World} {g:Nat} {o:Obj} (h:w.heap[g]? =some o) (o':Obj):(w.alloc o').heap[g]? =some o:=(Below.heap_alloc w o' g (dB h)).trans h
theorem bz {w:World} {g:Nat} {o:Obj} (h:w.heap[g]? =some o):w.drew.heap[g]? =some o:=h
theorem bG {w:World} {g:Nat} {o:Obj} (h:w.heap[g]? =some o) (n:Nat):(w.drewN n).heap[g]? =some o:=h
theorem jZ {w w1:World} {g:Nat} {o:Obj} (h:w.heap[g]? =some o) (hb:Below w.heap.size w w1):w1.heap[g]? =some o:=(hb.block g (dB h)).trans h
theorem fG (w:World) (o:Obj):(w.alloc o).heap[w.heap.size]? =some o:=heap_alloc_new w o
section
variable {P:Program}
theorem eu {fn:Func} {p u:Tmp} {ty:TypeId} (h:fn.results= #[.cell p ty,.tmp u]) (tmps:Array Value) (w:World) (g:Nat) (t:TypeId) (cs:Array Value) (fr:Nat×Nat) (d:TypeDesc)
    (hp:tmps.getD p undef= .pointer (some ⟨g,0,none⟩)) (hg:w.heap[g]? =some (.cells cs t fr))
    (hu:P.underlying ty=some d) (hd:(match d with| .struct _| .array _ _=>true|_=>false)=true) (hi:(P.info? ty).map (·.size)=some cs.size):
    (results fn tmps).run P w= .ok (.tuple #[.agg cs,tmps.getD u undef]) w:=by
  have z:tmps[p]?.getD undef= .pointer (some ⟨g,0,none⟩):=by simpa using hp
  simp[results,h,z,asAddr,run_loadVar_row w g t ty cs fr d hg hu hd hi]
end
theorem xw {w:World} {base n m c size:Nat} {e:TypeId} {A:Option Addr} {xs:List Value} (h:w.ownsRow base e size (.slice A m c) n xs):m≤c:=by
  rcases h.2 with ⟨he,_⟩|⟨g,cap,cur,he,_,_,hnc,_⟩
  · injection he with _ h2 h3;omega
  · injection he with _ h2 h3;omega
def eh {α:Type} (R:α→List Value→Prop) (e:TypeId) (size:Nat) (w:World) (base:Nat) (v:Value) (ps:List α):Prop:=
  ∃inner,w.ownsRow base e size v ps.length inner∧aY R size ps inner
section
variable {α:Type} {R R':α→List Value→Prop} {e:TypeId} {size:Nat} {w w1:World} {base:Nat} {v:Value} {ps:List α}
theorem eh.none_ (R:α→List Value→Prop) (e:TypeId) (size:Nat) (w:World) (base:Nat):eh R e size w base (.slice none 0 0) []:=⟨[],xy _ _ _ _,aY.none _ _⟩
theorem eh.eI (h:eh R e size w base v ps) (hR:∀p c,R p c→R' p c):eh R' e size w base v ps:=by
  obtain⟨inner,ho,hr⟩:=h;exact⟨inner,ho,hr.eI hR⟩
theorem eh.below (h:eh R e size w base v ps) (hb:Below w.heap.size w w1):eh R e size w1 base v ps:=by
  obtain⟨inner,ho,hr⟩:=h;exact⟨inner,xX ho hb,hr⟩
theorem eh.kz (h:eh R e size w base v ps) {g:Nat} {t:TypeId} {cells:Array Value} (hb:w.heap[g]? =some (.cells cells t (0,0))) (ht:e≠t) (j:Nat) (u:Value):eh R e size (w.setCell ⟨g,j,none⟩ u) base v ps:=by
  obtain⟨inner,ho,hr⟩:=h;exact⟨inner,xB ho (kp ho hb ht) u,hr⟩
theorem eh.reads (h:eh R e size w base v ps):∃A c,v= .slice A ps.length c∧ps.length≤c∧fO R size w A ps.length ps:=by
  obtain⟨inner,ho,hr⟩:=h;obtain⟨A,c,rfl,hrow⟩:=xA ho hr rfl;exact⟨A,c,rfl,xw ho,hrow⟩
theorem eh.xd (h:eh R e size w base v ps) {g:Nat} {t:TypeId} {cells:Array Value} (hb:w.heap[g]? =some (.cells cells t (0,0))) (ht:e≠t):some g≠v.ownBlock:=by
  obtain⟨inner,ho,hr⟩:=h;exact kp ho hb ht
theorem eh.lit (W:World) (base:Nat) {inner:List Value} (hr:aY R size ps inner) (hb:base≤W.heap.size) (hm:ps.length≤9223372036854775807):
    eh R e size (W.alloc (.cells inner.toArray e)) base (.slice (some ⟨W.heap.size,0,none⟩) ps.length ps.length) ps:=by
  have h:=World.ownsRow_lit (base:=base) (e:=e) (size:=size) W inner.toArray ps.length hb (by simpa[maxLen]using hm) (by simpa using hr.1);exact⟨inner,by simpa using h,hr⟩
end
section
variable {P:Program} {ops:Array Oper} {rest:List Oper} {o:Oper} {a:Act} {Q:Exit→Act→World→Prop} {α:Type} {R:α→List Value→Prop}
theorem eh.append {w0 W:World} (base:Nat) (hgd:o.guard=none) (s x:Operand) (t e:TypeId) (z:Value) (size bytes:Nat)
    (ho:o.op= .call {callee:= .builtin .append,args:= #[s,x],argTypes:= #[t,t]})
    (ht:P.underlying t=some (.slice e)) (hinfo:(P.info? e).map (fun i=>(i.zero,i.size,i.bytes))=some (some z,size,bytes)) (hz:z.cells.size=size) (hs0:0<size) (hb0:0<bytes)
    (v:Value) (ps:List α) (p:α) (cs:List Value) (hs:a.eval s=v) (hx:a.eval x= .slice (some ⟨W.heap.size,0,none⟩) 1 1) (hp:R p cs) (hcs:cs.length=size) (h1:∀u∈cs,u.oneCell'=true)
    (HO:eh R e size W base v ps) (D:Below base w0 W) (hbase:base≤W.heap.size) (hl:(ps.length+1)*bytes≤140737488355328)
    (h:∀v1 w1,eh R e size w1 base v1 (ps++[p])→Below base w0 w1→W.grownBy w1 v.ownBlock→(v1.ownBlock=v.ownBlock∨∃b,v1.ownBlock=some b∧W.heap.size≤b)→wpList P ops Q rest (a.put o.dst v1) w1):
    wpList P ops Q (o::rest) a (W.alloc (.cells cs.toArray e)):=by
  obtain⟨inner,hown,hr⟩:=HO;refine sJ base hgd s x t e z size bytes ho ht hinfo hz hs0 hb0 v ps.length inner cs hs hx hcs h1 hown D hbase hl ?_;intro v1 w1 hown1 hb1 hg1 F;exact h v1 w1 ⟨inner++cs,by rw[List.length_append,List.length_singleton];exact hown1,hr.snoc hp hcs⟩ hb1 hg1 F
end
theorem fO.rG {α:Type} {R:α→List Value→Prop} {size:Nat} {w:World} {ad:Addr} {n:Nat} {ps:List α} (h:fO R size w (some ad) n ps):
    ∃inner,aY R size ps inner∧∀j u,inner[j]? =some u→w.cell? (ad.add j)=some u:=by
  have key:∀m,m≤ps.length→∃inner,aY R size (ps.take m) inner∧∀j u,inner[j]? =some u→w.cell? (ad.add j)=some u:=by
    intro m
    induction m with
    |zero=>exact fun _=>⟨[],aY.none _ _,fun j u hu=>by simp at hu⟩
    |succ m ih=>
     intro hm;obtain⟨inner,hr,hc⟩:=ih (by omega);obtain⟨D,he,hcell⟩:=h.2.2 (by have:=h.1;omega);injection he with he;subst he;obtain⟨c,z,hp,hcc⟩:=hcell m _ (List.getElem?_eq_getElem (show m<ps.length by omega));refine⟨inner++c,?_,fun j u hu=> ?_⟩
     · rw[List.take_succ_eq_append_getElem (show m<ps.length by omega)];exact hr.snoc hp z
     · have hil:inner.length=m*size:=(by rw[hr.1,List.length_take,Nat.min_eq_left (by omega)]);rcases Nat.lt_or_ge j inner.length with hj|hj
       · rw[List.getElem?_append_left hj]at hu;exact hc j u hu
       · rw[List.getElem?_append_right hj]at hu;have:=hcc (j-inner.length) u hu
         rwa [hil,Nat.add_sub_cancel' (by omega)]at this
  obtain⟨inner,hr,hc⟩:=key ps.length (Nat.le_refl _);rw[List.take_length]at hr;exact⟨inner,hr,hc⟩
structure Kd (α:Type) where
  sz:Nat
  E:List Nat
  K:World→α→List Value→Prop
  M:World→Nat→(Nat→Prop)→α→List Value→Prop
  fV:∀{w x cs},K w x cs→cs.length=sz
  fN:∀{w x cs},K w x cs→∀u∈cs,u.oneCell'=true
  gK:∀{w w1:World} {x cs},Below w.heap.size w w1→K w x cs→K w1 x cs
  eF:∀{w base ok x cs},M w base ok x cs→K w x cs
  dv:∀{w base ok ok' x cs},(∀k,ok k→ok' k)→M w base ok x cs→M w base ok' x cs
  eP:∀{w:World} {base ok x cs},M w base ok x cs→M w base (fun k=>ok k∧base≤k∧k<w.heap.size∧∃q,q∈E∧∃cells,w.heap[k]? =some (.cells cells q (0,0))) x cs
  eQ:∀{w w1:World} {base ok x cs},(∀k,ok k→w1.heap[k]? =w.heap[k]?)→M w base ok x cs→M w1 base ok x cs
  gN:∀{w base base' ok x cs},base'≤base→M w base ok x cs→M w base' ok x cs
theorem xx {w w1:World} {base:Nat} {e:TypeId} {size n:Nat} {v:Value} {xs:List Value} (h:w.ownsRow base e size v n xs) (hm:∀k,v.ownBlock=some k→w1.heap[k]? =w.heap[k]?):w1.ownsRow base e size v n xs:=by
  obtain⟨h1,h2⟩:=h;refine⟨h1,?_⟩;rcases h2 with h2|⟨g,cap,cur,rfl,hg,hh,r⟩
  · exact .inl h2
  · exact .inr ⟨g,cap,cur,rfl,hg,(hm g (by simp[Value.ownBlock])).trans hh,r⟩
theorem ow {w:World} {base:Nat} {e:TypeId} {size n:Nat} {v:Value} {xs:List Value} (h:w.ownsRow base e size v n xs) (k:Nat) (hk:v.ownBlock=some k):∃cells,w.heap[k]? =some (.cells cells e (0,0)):=by
  rcases h.2 with ⟨rfl,_⟩|⟨g,cap,cur,rfl,hg,hh,r⟩
  · simp[Value.ownBlock]at hk
  · have:g=k:=(by simpa[Value.ownBlock]using hk);subst this;exact⟨cur,hh⟩
namespace Kd
def C {α:Type} (d:Kd α) (w:World) (A:Option Addr) (n:Nat) (xs:List α):Prop:=fO (d.K w) d.sz w A n xs
def R {α:Type} (d:Kd α) (e:Nat) (w:World) (base:Nat) (ok:Nat→Prop) (v:Value) (xs:List α):Prop:=
  (∀k,v.ownBlock=some k→ok k)∧eh (d.M w base (fun k=>ok k∧some k≠v.ownBlock)) e d.sz w base v xs
section
variable {α:Type} {d:Kd α} {e:Nat} {w w1:World} {base:Nat} {ok ok':Nat→Prop} {v:Value} {xs:List α}
theorem lL {A:Option Addr} {n:Nat} (h:d.C w A n xs) (hb:Below w.heap.size w w1):d.C w1 A n xs:=fO.eI h hb (fun _ _ hp=>d.gK hb hp)
theorem bl (d:Kd α) (e:Nat) (w:World) (base:Nat) (ok:Nat→Prop):d.R e w base ok (.slice none 0 0) []:=⟨fun k hk=>by simp[Value.ownBlock]at hk,eh.none_ _ _ _ _ _⟩
theorem cJ (h:d.R e w base ok v xs) (hok:∀k,ok k→ok' k):d.R e w base ok' v xs:=⟨fun k hk=>hok k (h.1 k hk),h.2.eI (fun _ _ hp=>d.dv (fun k hk=>⟨hok k hk.1,hk.2⟩) hp)⟩
theorem iM (h:d.R e w base ok v xs):d.R e w base (fun k=>ok k∧base≤k∧k<w.heap.size∧∃q,q∈e::d.E∧∃cells,w.heap[k]? =some (.cells cells q (0,0))) v xs:=by
  obtain⟨h0,inner,ho,hr⟩:=h;refine⟨fun k hk=> ?_,inner,ho,hr.eI (fun _ _ hp=>d.dv (fun k hk=> ?_) (d.eP hp))⟩
  · obtain⟨cells,hc⟩:=ow ho k hk;exact⟨h0 k hk,l9 ho k hk,sj ho k hk,e,List.mem_cons_self,cells,hc⟩
  · obtain⟨⟨h1,h2⟩,h3,h4,q,hq,hc⟩:=hk;exact⟨⟨h1,h3,h4,q,List.mem_cons_of_mem _ hq,hc⟩,h2⟩
theorem lN (h:d.R e w base ok v xs) (hm:∀k,ok k→w1.heap[k]? =w.heap[k]?):d.R e w1 base ok v xs:=by
  obtain⟨h0,inner,ho,hr⟩:=h;exact⟨h0,inner,xx ho (fun k hk=>hm k (h0 k hk)),hr.eI (fun _ _ hp=>d.eQ (fun k hk=>hm k hk.1) hp)⟩
theorem dg {base':Nat} (h:d.R e w base ok v xs) (hb:base'≤base):d.R e w base' ok v xs:=by
  obtain⟨h0,inner,ho,hr⟩:=h;exact⟨h0,inner,xF ho hb,hr.eI (fun _ _ hp=>d.gN hb hp)⟩
theorem lQ (h:d.R e w base ok v xs) (hm:∀k,ok k→k<w.heap.size→w1.heap[k]? =w.heap[k]?):d.R e w1 base ok v xs:=
  cJ (lN (iM h) (fun k hk=>hm k hk.1 hk.2.2.1)) (fun _ hk=>hk.1)
theorem qw {x:α} {cs:List Value} (h:d.M w base ok x cs) (hm:∀k,ok k→k<w.heap.size→w1.heap[k]? =w.heap[k]?):d.M w1 base ok x cs:=
  d.dv (fun _ hk=>hk.1) (d.eQ (fun k hk=>hm k hk.1 hk.2.2.1) (d.eP h))
theorem dG (h:d.R e w base ok v xs) (hb:Below w.heap.size w w1):d.R e w1 base ok v xs:=lQ h (fun k _ hk=>hb.block k hk)
theorem qu {x:α} {cs:List Value} (h:d.M w base ok x cs) (hb:Below w.heap.size w w1):d.M w1 base ok x cs:=qw h (fun k _ hk=>hb.block k hk)
theorem uE (h:d.R e w base ok v xs) {row:Option Nat} (hg:w.grownBy w1 row) (hok:∀k,ok k→some k≠row):d.R e w1 base ok v xs:=lQ h (fun k ho hk=>hg.block k hk (hok k ho))
theorem dp (h:d.R e w base ok v xs) {p:Addr} (hok:∀k,ok k→k≠p.block) (u:Value):d.R e (w.setCell p u) base ok v xs:=lQ h (fun k ho _=>Below.heap_setCell w p u k (hok k ho))
theorem jl (h:d.R e w base ok v xs) {g:Nat} (hk:a8 w w1 g none) (hok:∀k,ok k→k≠g):d.R e w1 base ok v xs:=lQ h (fun k ho hlt=>hk.2 k hlt (hok k ho) (by simp))
theorem jW (h:d.R e w base ok v xs) {g t:Nat} {cells:Array Value} (hb:w.heap[g]? =some (.cells cells t (0,0))) (ht:∀q,q∈e::d.E→q≠t):d.R e w base (fun k=>ok k∧k≠g) v xs:=
  cJ (iM h) (fun k hk=>⟨hk.1,by
    obtain⟨_,_,_,q,hq,cells',hc⟩:=hk;rintro rfl;rw[hc]at hb;injection hb with hb;injection hb with _ hb;exact ht q hq hb⟩)
theorem pc (h:d.R e w base ok v xs):∃A c,v= .slice A xs.length c∧xs.length≤c∧d.C w A xs.length xs:=by
  obtain⟨A,c,he,hl,hr⟩:=eh.reads h.2;exact⟨A,c,he,hl,hr.eI (Below.refl _ _) (fun _ _ hp=>d.eF hp)⟩
theorem dz (h:d.R e w base ok v xs):∃A c,v= .slice A xs.length c:=by
  obtain⟨A,c,he,_⟩:=pc h;exact⟨A,c,he⟩
theorem mB (h:d.R e w base ok v xs):∃inner,w.ownsRow base e d.sz v xs.length inner:=by
  obtain⟨_,inner,ho,_⟩:=h;exact⟨inner,ho⟩
theorem jV (h:d.R e w base ok v xs) {g t:Nat} {cells:Array Value} (hb:w.heap[g]? =some (.cells cells t (0,0))) (ht:e≠t):some g≠v.ownBlock:=eh.xd h.2 hb ht
end
def scalar {α:Type} (enc:α→Value) (h1:∀x,(enc x).oneCell'=true):Kd α where
  sz:=1
  E:=[]
  K:=fun _ x cs=>cs=[enc x]
  M:=fun _ _ _ x cs=>cs=[enc x]
  fV:=fun h=>by rw[h];rfl
  fN:=fun h u hu=>by
    rw[h]at hu;rw[List.mem_singleton.1 hu];exact h1 _
  gK:=fun _ h=>h
  eF:=fun h=>h
  dv:=fun _ h=>h
  eP:=fun h=>h
  eQ:=fun _ h=>h
  gN:=fun _ h=>h
def int (k:IntKind):Kd Int:=scalar (Value.int k) (fun _=>rfl)
def bool:Kd Bool:=scalar Value.bool (fun _=>rfl)
def string:Kd ByteArray:=scalar Value.string (fun _=>rfl)
def slice {α:Type} (e:Nat) (d:Kd α):Kd (List α) where
  sz:=1
  E:=e::d.E
  K:=fun w xs cs=>∃A c,cs=[.slice A xs.length c]∧xs.length≤c∧d.C w A xs.length xs
  M:=fun w base ok xs cs=>∃v,cs=[v]∧d.R e w base ok v xs
  fV:=by
    rintro w x cs ⟨A,c,rfl,_⟩;rfl
  fN:=by
    rintro w x cs ⟨A,c,rfl,_⟩ u hu;rw[List.mem_singleton.1 hu];rfl
  gK:=by
    rintro w w1 x cs hb ⟨A,c,rfl,hl,hr⟩;exact⟨A,c,rfl,hl,lL hr hb⟩
  eF:=by
    rintro w base ok x cs ⟨v,rfl,h⟩;obtain⟨A,c,rfl,hl,hr⟩:=pc h;exact⟨A,c,rfl,hl,hr⟩
  dv:=by
    rintro w base ok ok' x cs hok ⟨v,rfl,h⟩;exact⟨v,rfl,cJ h hok⟩
  eP:=by
    rintro w base ok x cs ⟨v,rfl,h⟩;exact⟨v,rfl,iM h⟩
  eQ:=by
    rintro w w1 base ok x cs hm ⟨v,rfl,h⟩;exact⟨v,rfl,lN h hm⟩
  gN:=by
    rintro w base base' ok x cs hb ⟨v,rfl,h⟩;exact⟨v,rfl,dg h hb⟩
def pair {α β:Type} (a:Kd α) (b:Kd β):Kd (α×β) where
  sz:=a.sz+b.sz
  E:=a.E++b.E
  K:=fun w x cs=>∃c0 c1,cs=c0++c1∧a.K w x.1 c0∧b.K w x.2 c1
  M:=fun w base ok x cs=>∃c0 c1,cs=c0++c1∧a.M w base ok x.1 c0∧b.M w base ok x.2 c1
  fV:=by
    rintro w x cs ⟨c0,c1,rfl,h0,h1⟩;rw[List.length_append,a.fV h0,b.fV h1]
  fN:=by
    rintro w x cs ⟨c0,c1,rfl,h0,h1⟩ u hu;rcases List.mem_append.1 hu with hu|hu
    · exact a.fN h0 u hu
    · exact b.fN h1 u hu
  gK:=by
    rintro w w1 x cs hb ⟨c0,c1,rfl,h0,h1⟩;exact⟨c0,c1,rfl,a.gK hb h0,b.gK hb h1⟩
  eF:=by
    rintro w base ok x cs ⟨c0,c1,rfl,h0,h1⟩;exact⟨c0,c1,rfl,a.eF h0,b.eF h1⟩
  dv:=by
    rintro w base ok ok' x cs hok ⟨c0,c1,rfl,h0,h1⟩;exact⟨c0,c1,rfl,a.dv hok h0,b.dv hok h1⟩
  eP:=by
    rintro w base ok x cs ⟨c0,c1,rfl,h0,h1⟩;refine⟨c0,c1,rfl,a.dv ?_ (a.eP h0),b.dv ?_ (b.eP h1)⟩
    · rintro k ⟨h2,h3,h4,q,hq,hc⟩;exact⟨h2,h3,h4,q,List.mem_append_left _ hq,hc⟩
    · rintro k ⟨h2,h3,h4,q,hq,hc⟩;exact⟨h2,h3,h4,q,List.mem_append_right _ hq,hc⟩
  eQ:=by
    rintro w w1 base ok x cs hm ⟨c0,c1,rfl,h0,h1⟩;exact⟨c0,c1,rfl,a.eQ hm h0,b.eQ hm h1⟩
  gN:=by
    rintro w base base' ok x cs hb ⟨c0,c1,rfl,h0,h1⟩;exact⟨c0,c1,rfl,a.gN hb h0,b.gN hb h1⟩
def od {α β:Type} (d:Kd α) (f:β→α):Kd β where
  sz:=d.sz
  E:=d.E
  K:=fun w x cs=>d.K w (f x) cs
  M:=fun w base ok x cs=>d.M w base ok (f x) cs
  fV:=d.fV
  fN:=d.fN
  gK:=d.gK
  eF:=d.eF
  dv:=d.dv
  eP:=d.eP
  eQ:=d.eQ
  gN:=d.gN
theorem oW {α:Type} {d:Kd α} {w:World} {A:Option Addr} {n:Nat} {xs:List α} (h:d.C w A n xs) (z:α) (i:Int) (h0:0≤i) (h1:i<n):
    ∃ad c,A=some ad∧c.length=d.sz∧d.K w (xs.getD i.toNat z) c∧∀j u,c[j]? =some u→w.cell? (ad.add (i.toNat*d.sz+j))=some u:=fO.vX h z i h0 h1
theorem uz {α:Type} {d:Kd α} {e base:Nat} {ok bN:Nat→Prop} {W w1:World} {v v1:Value} {xs:List α} {p:α} {inner cs:List Value} (h0:∀k,v.ownBlock=some k→ok k) (hr:aY (d.M W base (fun k=>ok k∧some k≠v.ownBlock)) d.sz xs inner) (hp:d.M W base bN p cs) (z:∀k,bN k→ok k∧some k≠v.ownBlock) (u:∀k,W.heap.size≤k→ok k)
    (hown:w1.ownsRow base e d.sz v1 (xs.length+1) (inner++cs)) (hg:W.grownBy w1 v.ownBlock) (hat:v1.ownBlock=v.ownBlock∨∃b,v1.ownBlock=some b∧W.heap.size≤b):d.R e w1 base ok v1 (xs++[p]):=by
  have hne:∀k,some k≠v.ownBlock→k<W.heap.size→some k≠v1.ownBlock:=by
    intro k hk hlt;rcases hat with hat|⟨b,hb,hle⟩
    · rw[hat];exact hk
    · rw[hb];intro he;injection he with he;omega
  have step:∀{q:α} {c:List Value} {o:Nat→Prop},d.M W base o q c→(∀k,o k→ok k∧some k≠v.ownBlock)→d.M w1 base (fun k=>ok k∧some k≠v1.ownBlock) q c:=by
    intro q c o hq ho;have h1:=d.eQ (w1:=w1) (fun k hk=>hg.block k hk.2.2.1 (ho k hk.1).2) (d.eP hq);exact d.dv (fun k hk=>⟨(ho k hk.1).1,hne k (ho k hk.1).2 hk.2.2.1⟩) h1
  refine⟨fun k hk=> ?_,inner++cs,by rw[List.length_append,List.length_singleton];exact hown,?_⟩
  · rcases hat with hat|⟨b,hb,hle⟩
    · exact h0 k (hat▸hk)
    · rw[hb]at hk;injection hk with hk;exact u k (by omega)
  · exact(hr.eI (fun _ _ hq=>step hq (fun _ hk=>hk))).snoc (step hp z) (d.fV (d.eF hp))
section
variable {P:Program} {ops:Array Oper} {rest:List Oper} {o:Oper} {a:Act} {Q:Exit→Act→World→Prop} {α:Type}
theorem kM (d:Kd α) {w0 W:World} (base:Nat) (hgd:o.guard=none) (s x:Operand) (t e:TypeId) (z:Value) (bytes:Nat)
    (ho:o.op= .call {callee:= .builtin .append,args:= #[s,x],argTypes:= #[t,t]})
    (ht:P.underlying t=some (.slice e)) (hinfo:(P.info? e).map (fun i=>(i.zero,i.size,i.bytes))=some (some z,d.sz,bytes)) (hz:z.cells.size=d.sz) (hs0:0<d.sz) (hb0:0<bytes)
    (v:Value) (xs:List α) (p:α) (cs:List Value) (ok bN:Nat→Prop) (hs:a.eval s=v) (hx:a.eval x= .slice (some ⟨W.heap.size,0,none⟩) 1 1) (hp:d.M W base bN p cs) (G:∀k,bN k→ok k∧some k≠v.ownBlock) (F:∀k,W.heap.size≤k→ok k)
    (HO:d.R e W base ok v xs) (D:Below base w0 W) (hbase:base≤W.heap.size) (hl:(xs.length+1)*bytes≤140737488355328)
    (h:∀v1 w1,d.R e w1 base ok v1 (xs++[p])→Below base w0 w1→W.grownBy w1 v.ownBlock→(v1.ownBlock=v.ownBlock∨∃b,v1.ownBlock=some b∧W.heap.size≤b)→wpList P ops Q rest (a.put o.dst v1) w1):
    wpList P ops Q (o::rest) a (W.alloc (.cells cs.toArray e)):=by
  obtain⟨h0,inner,hown,hr⟩:=HO;refine sJ base hgd s x t e z d.sz bytes ho ht hinfo hz hs0 hb0 v xs.length inner cs hs hx (d.fV (d.eF hp)) (d.fN (d.eF hp)) hown D hbase hl ?_;intro v1 w1 hown1 hb1 hg1 u;exact h v1 w1 (uz h0 hr hp G F hown1 hg1 u) hb1 hg1 u
end
theorem yi {α:Type} {enc:α→Value} (xs:List α):aY (fun(x:α) (cs:List Value)=>cs=[enc x]) 1 xs (encs enc xs):=by
  refine⟨by simp[encs],fun j p hj=> ?_⟩;obtain⟨hl,hp⟩:=List.getElem?_eq_some_iff.1 hj;have hl':j<(encs enc xs).length:=by rw[rh];exact hl
  rw[Nat.mul_one,List.drop_eq_getElem_cons hl'];simp[encs,hp]
theorem qE {α:Type} {enc:α→Value} {h1:∀x,(enc x).oneCell'=true} {e:Nat} {w:World} {base:Nat} {ok:Nat→Prop} {v:Value} {xs:List α} (ho:w.ownsRow base e 1 v xs.length (encs enc xs)) (hok:∀k,v.ownBlock=some k→ok k):(scalar enc h1).R e w base ok v xs:=⟨hok,encs enc xs,ho,yi xs⟩
theorem pO {α:Type} {enc:α→Value} {h1:∀x,(enc x).oneCell'=true} {e:Nat} {w:World} {base:Nat} {ok:Nat→Prop} {v:Value} {xs:List α} (h:(scalar enc h1).R e w base ok v xs):w.ownsRow base e 1 v xs.length (encs enc xs):=by
  obtain⟨_,inner,ho,hr⟩:=h
  have:inner=encs enc xs:=by
    apply List.ext_getElem?;intro j;rcases Nat.lt_or_ge j xs.length with hj|hj
    · have h2:=hr.2 j _ (List.getElem?_eq_getElem hj);have hl:j<inner.length:=(by have:=hr.1;simp[scalar]at this;omega);have h3:(inner.drop (j*1)).take 1=[enc xs[j]]:=h2;rw[Nat.mul_one,List.drop_eq_getElem_cons hl]at h3
      have h4:inner[j]=enc xs[j]:=by
        have h5:=congrArg List.head? h3;rw[List.take_succ_cons]at h5;exact aC h5
      rw[List.getElem?_eq_getElem hl,h4];simp[encs,List.getElem?_eq_getElem hj]
    · have h3:inner.length=xs.length:=(by have:=hr.1;simp[scalar]at this;omega);rw[List.getElem?_eq_none (by omega),List.getElem?_eq_none (by rw[rh];omega)]
  rw[←this];exact ho
theorem yb {α:Type} {enc:α→Value} {d:α} {h1:∀x,(enc x).oneCell'=true} {w:World} {A:Option Addr} {n:Nat} {xs:List α} (h:(scalar enc h1).C w A n xs):fY enc d w A n xs:=by
  refine⟨h.1,h.2.1,fun hn=> ?_⟩;obtain⟨ad,e,hc⟩:=h.2.2 hn;refine⟨ad,e,fun j hj=> ?_⟩;have hl:j<xs.length:=by have:=h.1;omega
  obtain⟨c,_,hK,hcell⟩:=hc j _ (List.getElem?_eq_getElem hl);have hK':c=[enc xs[j]]:=hK;subst hK';have:=hcell 0 _ rfl;simpa[scalar,List.getD_eq_getElem?_getD,List.getElem?_eq_getElem hl]using this
end Kd
namespace Kd
section
variable {α β:Type} {d:Kd α} {d':Kd β} {e e':Nat} {w w1 W:World} {base b b':Nat} {ok ok' xl xk:Nat→Prop} {v u:Value} {xs:List α} {ys:List β}
theorem fg (h:d.R e w base ok v xs) (o:Obj):d.R e (w.alloc o) base ok v xs:=dG h (bO (Below.refl _ _) o)
theorem dH (h:d.R e w base ok v xs):d.R e w.drew base ok v xs:=dG h (lS (Below.refl _ _))
theorem fX (h:d.R e w base ok v xs) (m:Nat):d.R e (w.drewN m) base ok v xs:=dG h (cN (Below.refl _ _) m)
theorem qo {A:Option Addr} {n:Nat} (h:d.C w A n xs) (o:Obj):d.C (w.alloc o) A n xs:=lL h (bO (Below.refl _ _) o)
theorem tU {A:Option Addr} {n:Nat} (h:d.C w A n xs):d.C w.drew A n xs:=lL h (lS (Below.refl _ _))
theorem tV {A:Option Addr} {n:Nat} (h:d.C w A n xs) (m:Nat):d.C (w.drewN m) A n xs:=lL h (cN (Below.refl _ _) m)
theorem tW (d:Kd α) (w:World):d.C w none ([]:List α).length []:=⟨rfl,by simp,fun h=>absurd h (Nat.lt_irrefl 0)⟩
theorem mr {A:Option Addr} {n:Nat} (h:d.C w A n xs):n≤9223372036854775807:=h.2.1
theorem cp {A:Option Addr} {n c:Nat} (h:d.R e w base ok (.slice A n c) xs):n=xs.length∧n≤c∧d.C w A xs.length xs:=by
  obtain⟨A',c',he,hl,hr⟩:=pc h;injection he with h1 h2 h3;subst h1;exact⟨h2,by omega,hr⟩
theorem qz (h:d.R e w base ok v xs):∀k,v.ownBlock=some k→k<w.heap.size:=by
  obtain⟨inner,ho⟩:=mB h;exact sj ho
theorem qy (h:d.R e w base ok v xs):∀k,v.ownBlock=some k→base≤k:=by
  obtain⟨inner,ho⟩:=mB h;exact l9 ho
theorem uA (h:d.R e w base ok v xs) {g:Nat} (hok:∀k,ok k→k≠g):some g≠v.ownBlock:=fun e=>hok g (h.1 g e.symm) rfl
theorem iN (h:d.R e w base ok v xs) (hp:0<xs.length):∃g cap,v= .slice (some ⟨g,0,none⟩) xs.length cap∧base≤g∧g<w.heap.size∧∃cells,w.heap[g]? =some (.cells cells e (0,0)):=by
  obtain⟨inner,ho⟩:=mB h;obtain⟨g,cap,he,hb,hl⟩:=ho.form hp;obtain⟨cells,hc⟩:=ow ho g (by rw[he];simp[Value.ownBlock]);exact⟨g,cap,he,hb,hl,cells,hc⟩
end
section
variable {w W:World} {A:Option Addr} {n:Nat}
theorem dV {k:IntKind} {xs:List Int} (h:(Kd.int k).C w A n xs) (i:Int) (h0:0≤i) (h1:i<n):∃ad,A=some ad∧w.cell? (ad.add i.toNat)=some (.int k (rd xs i)):=
  fY.at_ (yb (enc:=Value.int k) (d:=(0:Int)) (h1:=fun _=>rfl) h) i h0 h1
variable {α:Type} {enc:α→Value} {h1:∀x,(enc x).oneCell'=true} {e base g cap:Nat} {ok:Nat→Prop} {xs:List α}
theorem uB (d:α) (h:(scalar enc h1).R e W base ok (.slice (some ⟨g,0,none⟩) xs.length cap) xs) (i:Int) (h0:0≤i) (hi:i<xs.length):W.cell? ⟨g,i.toNat,none⟩=some (enc (jJ d xs i))∧W.frozen? ⟨g,i.toNat,none⟩=false:=xu (pO h) i h0 hi
theorem qF (h:(scalar enc h1).R e W base ok (.slice (some ⟨g,0,none⟩) xs.length cap) xs) (i:Int) (x:α):(scalar enc h1).R e (W.setCell ⟨g,i.toNat,none⟩ (enc x)) base ok (.slice (some ⟨g,0,none⟩) xs.length cap) (xs.set i.toNat x)∧W.grownBy (W.setCell ⟨g,i.toNat,none⟩ (enc x)) (some g):=by
  obtain⟨ho,hg⟩:=xD (pO h) i x;exact⟨qE (by rw[List.length_set];exact ho) h.1,hg⟩
end
section
variable {P:Program} {ops:Array Oper} {rest:List Oper} {o:Oper} {a:Act} {Q:Exit→Act→World→Prop}
theorem rq {W w1:World} {v:Value} (hgd:o.guard=none) (hrun:(execOp a.eval o).run P W= .ok (.value v) w1) (h:wpList P ops Q rest (a.put o.dst v) w1):wpList P ops Q (o::rest) a W:=by
  refine wpList_plain hgd fun K hK=> ?_;unfold Oper.wp;rw[hrun];exact hK _ _ h
variable {α:Type}
theorem fE (d:Kd α) {w0 W:World} (base e:Nat) (hgd:o.guard=none) {N:Tmp} (F:o.dst=some N) {xs:List α} {inner:List Value} {ok bN:Nat→Prop}
    (hrun:(execOp a.eval o).run P W= .ok (.value (.slice (some ⟨W.heap.size,0,none⟩) xs.length xs.length)) (W.alloc (.cells inner.toArray e)))
    (u:aY (d.M W base bN) d.sz xs inner) (hok:∀k,bN k→ok k) (D:ok W.heap.size) (z:Below base w0 W) (hbase:base≤W.heap.size) (hm:xs.length≤9223372036854775807)
    (h:∀v1 w1,d.R e w1 base ok v1 xs→Below base w0 w1→W.grownBy w1 none→(∃b,v1.ownBlock=some b∧W.heap.size≤b)→wpList P ops Q rest (a.put o.dst v1) w1):wpList P ops Q (o::rest) a W:=by
  refine rq hgd hrun (h _ _ ⟨fun k hk=> ?_,inner,?_,?_⟩ (z.alloc hbase _) (World.grownBy_alloc W _ none) ⟨W.heap.size,by simp[Value.ownBlock],Nat.le_refl _⟩)
  · have:W.heap.size=k:=(by simpa[Value.ownBlock]using hk);subst this;exact D
  · have h2:=World.ownsRow_lit (base:=base) (e:=e) (size:=d.sz) W inner.toArray xs.length hbase (by simpa[maxLen]using hm) (by simpa using u.1);simpa using h2
  · refine u.eI (fun p c hp=>d.dv (fun k hk=>⟨hok k hk.1,fun he=> ?_⟩) (qu (d.eP hp) (bO (Below.refl _ _) _)));have h3:k=W.heap.size:=(by simpa[Value.ownBlock]using he);have:=hk.2.2.1;omega
theorem sS {α:Type} {R:α→List Value→Prop} {z:Value} {size:Nat} {z0:α} (hz:z.cells.size=size) (hs:0<size) (h0:R z0 z.cells.toList) (m:Nat):aY R size (List.replicate m z0) (madeCells z.cells (m*size)).toList:=by
  refine⟨by simp[size_madeCells],fun j p hj=> ?_⟩;obtain⟨hjl,hp⟩:=List.getElem?_eq_some_iff.1 hj;have hjm:j<m:=by simpa using hjl
  have u:z0=p:=by simpa using hp
  subst u;have hle:j*size+size≤m*size:=by rw[←Nat.succ_mul];exact Nat.mul_le_mul_right _ hjm
  have:((madeCells z.cells (m*size)).toList.drop (j*size)).take size=z.cells.toList:=by
    apply List.ext_getElem
    · simp[size_madeCells,hz];omega
    · intro i h1 h2;have hi:i<size:=by rw[Array.length_toList,hz]at h2;exact h2
      have hmod:(j*size+i)%size=i:=by
        rw[Nat.mul_comm,Nat.mul_add_mod];exact Nat.mod_eq_of_lt hi
      simp[madeCells,hz,hmod];rw[getElem!_pos z.cells i (by omega)]
  rw[this];exact h0
theorem o8 (d:Kd α) {w0 W:World} (base e:Nat) (hgd:o.guard=none) {N:Tmp} (hd:o.dst=some N) (t:TypeId) (x y:Operand) (ho:o.op= .makeSlice t x y) (n:Int) (hx:a.eval x= .int .i64 n) (hy:a.eval y= .int .i64 n)
    (ht:P.underlying t=some (.slice e)) (z:Value) (bytes:Nat) (hinfo:(P.info? e).map (fun i=>(i.zero,i.size,i.bytes))=some (some z,d.sz,bytes)) (hz:z.cells.size=d.sz) (hs0:0<d.sz) (hb0:0<bytes)
    (z0:α) {ok bN:Nat→Prop} (hzero:d.M W base bN z0 z.cells.toList) (hok:∀k,bN k→ok k) (D:ok W.heap.size) (h0:0≤n) (hl:n.toNat*bytes≤281474976710656) (u:Below base w0 W) (hbase:base≤W.heap.size)
    (h:∀v1 w1,d.R e w1 base ok v1 (List.replicate n.toNat z0)→Below base w0 w1→W.grownBy w1 none→(∃b,v1.ownBlock=some b∧W.heap.size≤b)→wpList P ops Q rest (a.put o.dst v1) w1):wpList P ops Q (o::rest) a W:=by
  obtain⟨m,rfl⟩:=Int.eq_ofNat_of_zero_le h0;simp only[Int.toNat_natCast]at hl h;obtain⟨i0,hi,hzz⟩:=Option.map_eq_some_iff.1 hinfo;simp only[Prod.mk.injEq]at hzz;obtain⟨hz0,hz1,hz2⟩:=hzz;have hm:m≤281474976710656:=Nat.le_trans (Nat.le_mul_of_pos_right _ hb0) hl
  have hr:=run_make (P:=P) W t e i0 z ht hi hz0 .i64 .i64 (m:Int) (m:Int) (by omega) (by omega)
    (by
      have h3:((i0.bytes*m:Nat):Int)≤281474976710656:=by rw[hz2,Nat.mul_comm];omega
      rwa [Int.natCast_mul]at h3) (by omega)
  simp only[Int.toNat_natCast]at hr;rw[hz1]at hr;refine fE d base e hgd hd (xs:=List.replicate m z0) (inner:=(madeCells z.cells (m*d.sz)).toList) (bN:=bN) (ok:=ok) ?_ (sS hz hs0 hzero m) hok D u hbase (by simp;omega) h;simp[execOp,ho,hx,hy,hr]
end
end Kd
theorem xE {w:World} {base n m c size:Nat} {e:TypeId} {A:Option Addr} {xs:List Value} (h:w.ownsRow base e size (.slice A n c) n xs) (hm:m≤n):w.ownsRow base e size (.slice A m c) m (xs.take (m*size)):=by
  obtain⟨h1,h2⟩:=h;refine⟨by rw[List.length_take,h1];exact Nat.min_eq_left (Nat.mul_le_mul_right _ hm),?_⟩;rcases h2 with ⟨he,h0⟩|⟨g,cap,cur,he,hb,hh,hnc,hcm,hcs,ht⟩
  · injection he with ha _ hc;subst ha;subst hc;exact .inl ⟨by rw[show m=0 by omega],by omega⟩
  · injection he with ha _ hc;subst ha;subst hc;refine .inr ⟨g,c,cur,rfl,hb,hh,by omega,hcm,hcs,?_⟩;rw[←ht,List.take_take,Nat.min_eq_left (Nat.mul_le_mul_right _ hm)]
section
variable {P:Program}
theorem rf (t e:TypeId) (kh:IntKind) {i:TypeInfo} (ht:P.underlying t=some (.slice e)) (hi:P.info? e=some i) (A:Option Addr) (n c:Nat) (j:Int) (h0:0≤j) (hm:j≤n) (hc:n≤c):
    ∀W:World,(Instr.slice t (.slice A n c) none (some (.int kh j)) none).run P W= .ok (.slice A j.toNat c) W:=by
  intro W;have hel:P.elem t=e:=by simp[Program.elem,ht]
  have hu:P.underlying t=some (.slice (P.elem t)):=by rw[hel];exact ht
  have ha:(A.map fun x=>x.add 0)=A:=by cases A<;>simp[Addr.add]
  rw[run_slice_h W t A n c hu kh j h0 (by omega),hel];simp[sizeOf,typeInfo,hi,sliced,Result.andThen,ha]
end
def lM (w:World) (base:Nat) (e:TypeId) (size:Nat) (v:Value) (n:Nat) (xs:List Value):Prop:=
  xs.length=n*size∧
  ((n=0∧∃A,v= .slice A 0 0∧∀a,A=some a→base≤a.block∧∃cur,w.heap[a.block]? =some (.cells cur e (0,0)))∨
   ∃g off cap cur,v= .slice (some ⟨g,off*size,none⟩) n cap∧base≤g∧w.heap[g]? =some (.cells cur e (0,0))∧n≤cap∧off+cap≤maxLen∧cur.size=(off+cap)*size∧(cur.toList.drop (off*size)).take (n*size)=xs)
section
variable {w w1:World} {base n size:Nat} {e:TypeId} {v:Value} {xs:List Value}
theorem x9 (h:w.ownsRow base e size v n xs):lM w base e size v n xs:=by
  obtain⟨h1,h2⟩:=h;refine⟨h1,?_⟩;rcases h2 with ⟨rfl,h0⟩|⟨g,cap,cur,rfl,hb,hh,hnc,hcm,hcs,ht⟩
  · exact .inl ⟨h0,none,rfl,fun a ha=>by cases ha⟩
  · exact .inr ⟨g,0,cap,cur,by rw[Nat.zero_mul],hb,hh,hnc,by rw[Nat.zero_add];exact hcm,by rw[Nat.zero_add];exact hcs,by rw[Nat.zero_mul,List.drop_zero];exact ht⟩
theorem x8 (h:lM w base e size v n xs) (hm:∀k,v.ownBlock=some k→w1.heap[k]? =w.heap[k]?):lM w1 base e size v n xs:=by
  obtain⟨h1,h2⟩:=h;refine⟨h1,?_⟩;rcases h2 with ⟨h0,A,rfl,hA⟩|⟨g,off,cap,cur,rfl,hg,hh,r⟩
  · refine .inl ⟨h0,A,rfl,fun a ha=> ?_⟩;obtain⟨hb,cur,hc⟩:=hA a ha;subst ha;exact⟨hb,cur,(hm a.block (by simp[Value.ownBlock])).trans hc⟩
  · exact .inr ⟨g,off,cap,cur,rfl,hg,(hm g (by simp[Value.ownBlock])).trans hh,r⟩
theorem sL (h:lM w base e size v n xs) (k:Nat) (hk:v.ownBlock=some k):base≤k∧∃cells,w.heap[k]? =some (.cells cells e (0,0)):=by
  rcases h.2 with ⟨_,A,rfl,hA⟩|⟨g,off,cap,cur,rfl,hg,hh,r⟩
  · cases A with
    |none=>simp[Value.ownBlock]at hk
    |some a=>
     have:a.block=k:=(by simpa[Value.ownBlock]using hk);subst this;exact hA a rfl
  · have:g=k:=(by simpa[Value.ownBlock]using hk);subst this;exact⟨hg,cur,hh⟩
theorem xZ (h:lM w base e size v n xs) (k:Nat) (hk:v.ownBlock=some k):k<w.heap.size:=by
  obtain⟨_,cells,hc⟩:=sL h k hk;exact(Array.getElem?_eq_some_iff.1 hc).1
theorem nO (g o j:Nat):(⟨g,o,none⟩:Addr).add j=⟨g,o+j,none⟩:=by unfold Addr.add;split<;>simp_all
theorem sY {g:Nat}:∀(vs:List Value) (o:Nat) {w:World} (k:Nat),k≠g→(w.setCells g o vs).heap[k]? =w.heap[k]?
  |[],_,_,_,_=>rfl
  |v::r,o,w,k,hk=>by
   rw[World.setCells,sY r (o+1) k hk];exact Below.heap_setCell w ⟨g,o,none⟩ v k hk
theorem s5 (g:Nat):∀(vs:List Value) (o:Nat) (w:World),(w.setCells g o vs).os=w.os∧(w.setCells g o vs).tape=w.tape∧(w.setCells g o vs).output=w.output∧(w.setCells g o vs).heap.size=w.heap.size
  |[],_,_=>⟨rfl,rfl,rfl,rfl⟩
  |v::r,o,w=>by
   obtain⟨h1,h2,h3,h4⟩:=s5 g r (o+1) (w.setCell ⟨g,o,none⟩ v);rw[World.setCells];exact⟨h1,h2,h3,by rw[h4];simp[World.setCell]⟩
theorem sZ {g:Nat} {e:TypeId}:∀(vs:List Value) (o:Nat) (w:World) (cur:Array Value),w.heap[g]? =some (.cells cur e (0,0))→o+vs.length≤cur.size→
    ∃cur',(w.setCells g o vs).heap[g]? =some (.cells cur' e (0,0))∧cur'.size=cur.size∧cur'.toList=cur.toList.take o++vs++cur.toList.drop (o+vs.length)
  |[],o,w,cur,h,_=>⟨cur,h,rfl,by simp⟩
  |v::r,o,w,cur,h,hl=>by
   have h2:=mI h o v;simp only[List.length_cons]at hl;obtain⟨cur',h3,h4,h5⟩:=sZ r (o+1) (w.setCell ⟨g,o,none⟩ v) _ h2 (by simp;omega);refine⟨cur',h3,by rw[h4];simp,?_⟩;rw[h5,Array.toList_setIfInBounds];have ho:o<cur.toList.length:=(by rw[Array.length_toList];omega);rw[List.take_set,List.drop_set_of_lt (by omega)];simp only[List.length_cons];rw[show o+1+r.length=o+(r.length+1)by omega]
   congr 1
   rw[List.take_succ_eq_append_getElem ho,List.set_append_right _ _ (by rw[List.length_take];omega)];have ho':o<cur.size:=(by omega);simp[Nat.min_eq_left (Nat.le_of_lt ho')]
end
namespace Kd
theorem yj {α:Type} {R:α→List Value→Prop} {size m:Nat} {ps:List α} {cs:List Value} (h:aY R size ps cs) (hm:m≤ps.length):aY R size (ps.take m) (cs.take (m*size)):=by
  refine⟨by rw[List.length_take,List.length_take,h.1,Nat.min_eq_left hm,Nat.min_eq_left (Nat.mul_le_mul_right _ hm)],fun j p hj=> ?_⟩;rw[List.getElem?_take]at hj
  split at hj
  · rename_i hjm
    have:=h.2 j p hj;have hle:j*size+size≤m*size:=(by rw[←Nat.succ_mul];exact Nat.mul_le_mul_right _ hjm);rw[List.drop_take,List.take_take,Nat.min_eq_left (by omega)];exact this
  · cases hj
theorem uI {α:Type} {d:Kd α} {e m n c:Nat} {w:World} {base:Nat} {ok:Nat→Prop} {A:Option Addr} {xs:List α} (h:d.R e w base ok (.slice A n c) xs) (hm:m≤xs.length):d.R e w base ok (.slice A m c) (xs.take m):=by
  obtain⟨h0,inner,ho,hr⟩:=h
  have hn:n=xs.length:=by
    obtain⟨A',c',he⟩:=xC ho;injection he
  subst hn
  have hb:∀x y:Nat,(Value.slice A x c).ownBlock=(Value.slice A y c).ownBlock:=by
    intro x y;cases A<;>rfl
  refine⟨fun k hk=>h0 k (by rw[hb _ m];exact hk),inner.take (m*d.sz),?_,?_⟩
  · rw[List.length_take,Nat.min_eq_left hm];exact xE ho hm
  · rw[hb m xs.length];exact yj hr hm
def Q {α:Type} (d:Kd α) (e:Nat) (w:World) (base:Nat) (ok:Nat→Prop) (v:Value) (xs:List α):Prop:=
  (∀k,v.ownBlock=some k→ok k)∧∃inner,lM w base e d.sz v xs.length inner∧aY (d.M w base (fun k=>ok k∧some k≠v.ownBlock)) d.sz xs inner
section
variable {α:Type} {d:Kd α} {e:Nat} {w w1 W:World} {base:Nat} {ok ok':Nat→Prop} {v:Value} {xs:List α}
theorem uw (h:d.R e w base ok v xs):d.Q e w base ok v xs:=by
  obtain⟨h0,inner,ho,hr⟩:=h;exact⟨h0,inner,x9 ho,hr⟩
theorem o7 (d:Kd α) (e:Nat) (w:World) (base:Nat) (ok:Nat→Prop):d.Q e w base ok (.slice none 0 0) []:=uw (bl d e w base ok)
theorem uu (h:d.Q e w base ok v xs) (hok:∀k,ok k→ok' k):d.Q e w base ok' v xs:=by
  obtain⟨h0,inner,ho,hr⟩:=h;exact⟨fun k hk=>hok k (h0 k hk),inner,ho,hr.eI (fun _ _ hp=>d.dv (fun k hk=>⟨hok k hk.1,hk.2⟩) hp)⟩
theorem uo (h:d.Q e w base ok v xs):d.Q e w base (fun k=>ok k∧base≤k∧k<w.heap.size∧∃q,q∈e::d.E∧∃cells,w.heap[k]? =some (.cells cells q (0,0))) v xs:=by
  obtain⟨h0,inner,ho,hr⟩:=h;refine⟨fun k hk=> ?_,inner,ho,hr.eI (fun _ _ hp=>d.dv (fun k hk=> ?_) (d.eP hp))⟩
  · obtain⟨hb,cells,hc⟩:=sL ho k hk;exact⟨h0 k hk,hb,xZ ho k hk,e,List.mem_cons_self,cells,hc⟩
  · obtain⟨⟨h1,h2⟩,h3,h4,q,hq,hc⟩:=hk;exact⟨⟨h1,h3,h4,q,List.mem_cons_of_mem _ hq,hc⟩,h2⟩
theorem uv (h:d.Q e w base ok v xs) (hm:∀k,ok k→w1.heap[k]? =w.heap[k]?):d.Q e w1 base ok v xs:=by
  obtain⟨h0,inner,ho,hr⟩:=h;exact⟨h0,inner,x8 ho (fun k hk=>hm k (h0 k hk)),hr.eI (fun _ _ hp=>d.eQ (fun k hk=>hm k hk.1) hp)⟩
theorem ux (h:d.Q e w base ok v xs) (hm:∀k,ok k→k<w.heap.size→w1.heap[k]? =w.heap[k]?):d.Q e w1 base ok v xs:=uu (uv (uo h) (fun k hk=>hm k hk.1 hk.2.2.1)) (fun _ hk=>hk.1)
theorem o6 (h:d.Q e w base ok v xs) (hb:Below w.heap.size w w1):d.Q e w1 base ok v xs:=ux h (fun k _ hk=>hb.block k hk)
theorem um (h:d.Q e w base ok v xs) (o:Obj):d.Q e (w.alloc o) base ok v xs:=o6 h (bO (Below.refl _ _) o)
theorem uq (h:d.Q e w base ok v xs):d.Q e w.drew base ok v xs:=o6 h (lS (Below.refl _ _))
theorem ur (h:d.Q e w base ok v xs) (m:Nat):d.Q e (w.drewN m) base ok v xs:=o6 h (cN (Below.refl _ _) m)
end
end Kd
namespace Kd
section
variable {α:Type} {d:Kd α} {e e':Nat} {w w1 W:World} {base:Nat} {ok:Nat→Prop} {u v:Value} {xs:List α}
theorem nN (h:d.R e w base ok v xs):∀k,v.ownBlock=some k→∃cells,w.heap[k]? =some (.cells cells e (0,0)):=by
  obtain⟨inner,ho⟩:=mB h;exact fun k hk=>ow ho k hk
theorem nM (h:d.R e W base ok u xs) (z:∀k,v.ownBlock=some k→∃cells,W.heap[k]? =some (.cells cells e' (0,0))) (ht:∀q,q∈e::d.E→q≠e') (hg:W.grownBy w1 v.ownBlock):d.R e w1 base ok u xs:=by
  refine cJ (lN (iM h) (fun k hk=>hg.block k hk.2.2.1 (fun he=> ?_))) (fun _ hk=>hk.1);obtain⟨_,_,_,q,hq,cells,hc⟩:=hk;obtain⟨cells',hc'⟩:=z k he.symm;rw[hc]at hc';injection hc' with hc';injection hc' with _ hc';exact ht q hq hc'
theorem uC (hu:d.R e W base ok u xs) (hbase:∀k,v.ownBlock=some k→W.heap.size≤k) (hb:Below W.heap.size W w1):d.R e w1 base (fun k=>ok k∧some k≠v.ownBlock) u xs:=
  cJ (lN (iM hu) (fun k hk=>hb.block k hk.2.2.1)) (fun k hk=>⟨hk.1,fun he=>by have:=hbase k he.symm;have:=hk.2.2.1;omega⟩)
theorem uG (h:d.R e w1 W.heap.size ok v xs) (hlt:∀k,u.ownBlock=some k→k<W.heap.size):d.R e w1 W.heap.size (fun k=>ok k∧some k≠u.ownBlock) v xs:=
  cJ (iM h) (fun k hk=>⟨hk.1,fun he=>by have:=hlt k he.symm;have:=hk.2.1;omega⟩)
end
end Kd
theorem vO {n c g:Nat} {A:Option Addr} (hne:some g≠(Value.slice A n c).ownBlock):∀ad,A=some ad→0<n→ad.block≠g:=by
  rintro ad rfl _ rfl;exact hne (by simp[Value.ownBlock])
theorem nj {α:Type} (a seg:List α) (o:Nat) (h:o+seg.length≤a.length) (q:Nat):
    (a.take o++seg++a.drop (o+seg.length))[q]? =if q<o then a[q]? else if q<o+seg.length then seg[q-o]? else a[q]? :=by
  have hl:(a.take o).length=o:=by rw[List.length_take];omega
  rw[List.append_assoc];by_cases h1:q<o
  · rw[aq h1,List.getElem?_append_left (by omega),List.getElem?_take,aq h1]
  · rw[au h1,List.getElem?_append_right (by omega),hl];by_cases h2:q<o+seg.length
    · rw[aq h2,List.getElem?_append_left (by omega)]
    · rw[au h2,List.getElem?_append_right (by omega),List.getElem?_drop]
      congr 1
      omega
namespace Kd
section
variable {α:Type} {d:Kd α} {e base g n cap:Nat} {ok bN:Nat→Prop} {W:World} {xs:List α}
theorem gZ (h:d.R e W base ok (.slice (some ⟨g,0,none⟩) n cap) xs) (z:α) (i:Int) (h0:0≤i) (h1:i<n):
    ∃c,c.length=d.sz∧d.M W base (fun k=>ok k∧k≠g) (xs.getD i.toNat z) c∧(∀j u,c[j]? =some u→W.cell? ⟨g,i.toNat*d.sz+j,none⟩=some u)∧∀j,W.frozen? ⟨g,i.toNat*d.sz+j,none⟩=false:=by
  obtain⟨hn,hnc,hC⟩:=cp h;obtain⟨_,inner,ho,hr⟩:=h;have hil:i.toNat<xs.length:=by omega
  have D:i.toNat*d.sz+d.sz≤inner.length:=by rw[hr.1,←Nat.succ_mul];exact Nat.mul_le_mul_right _ hil
  have hM:=hr.2 i.toNat _ (List.getElem?_eq_getElem hil);refine⟨(inner.drop (i.toNat*d.sz)).take d.sz,by rw[List.length_take,List.length_drop];omega,?_,fun j u hu=> ?_,fun j=> ?_⟩
  · rw[List.getD_eq_getElem?_getD,List.getElem?_eq_getElem hil];exact d.dv (fun k hk=>⟨hk.1,fun he=>hk.2 (by rw[he];simp[Value.ownBlock])⟩) hM
  · rw[List.getElem?_take]at hu
    split at hu
    · rw[List.getElem?_drop]at hu;have:=ho.cells (g:=g) (by simp[Value.ownBlock]) _ u hu
      rwa [add_plain]at this
    · cases hu
  · obtain⟨cells,hc⟩:=ow ho g (by simp[Value.ownBlock]);exact aK hc _
theorem lO (h:d.R e W base ok (.slice (some ⟨g,0,none⟩) n cap) xs) (i:Int) (h0:0≤i) (h1:i<n) {c seg:List Value} {j:Nat} (O:c.length=d.sz) (hcc:∀j u,c[j]? =some u→W.cell? ⟨g,i.toNat*d.sz+j,none⟩=some u)
    (hj:j+seg.length≤d.sz) {x':α} (hM:d.M W base bN x' (c.take j++seg++c.drop (j+seg.length))) (D:∀k,bN k→ok k∧k≠g):
    d.R e (W.setCells g (i.toNat*d.sz+j) seg) base ok (.slice (some ⟨g,0,none⟩) n cap) (xs.set i.toNat x')∧W.grownBy (W.setCells g (i.toNat*d.sz+j) seg) (some g):=by
  obtain⟨hn,hnc,_⟩:=cp h;obtain⟨hok,inner,ho,hr⟩:=h;have hil:i.toNat<xs.length:=by omega
  have H:i.toNat*d.sz+d.sz≤inner.length:=by rw[hr.1,←Nat.succ_mul];exact Nat.mul_le_mul_right _ hil
  have hin:inner.length=n*d.sz:=by rw[hr.1,hn]
  obtain⟨X,J⟩:=ho;rcases J with ⟨hv,_⟩|⟨g',cap',cur,hv,hb,hh,V,hcm,hcs,ht⟩
  · cases hv
  injection hv with ha _ hc;injection ha with ha;injection ha with hg;subst hg;subst hc
  have hfit:i.toNat*d.sz+j+seg.length≤cur.size:=by
    have:n*d.sz≤cap*d.sz:=Nat.mul_le_mul_right _ hnc;omega
  obtain⟨cur',h3,h4,h5⟩:=sZ seg (i.toNat*d.sz+j) W cur hh hfit;obtain⟨s1,s2,s3,K⟩:=s5 g seg (i.toNat*d.sz+j) W;have z:∀k,k≠g→(W.setCells g (i.toNat*d.sz+j) seg).heap[k]? =W.heap[k]? :=fun k hk=>sY seg _ k hk
  have hcin:∀q,q<d.sz→c[q]? =inner[i.toNat*d.sz+q]? :=by
    intro q hq;have hq':q<c.length:=(by omega);have h6:=hcc q _ (List.getElem?_eq_getElem hq');rw[cell_of_row W g _ cur e (0,0) hh]at h6;rw[List.getElem?_eq_getElem hq',←h6,←ht,List.getElem?_take,aq (by rw[←hn];omega),Array.getElem?_toList]
  refine⟨⟨hok,inner.take (i.toNat*d.sz+j)++seg++inner.drop (i.toNat*d.sz+j+seg.length),⟨?_,.inr ⟨g,cap,cur',by rw[List.length_set,hn],hb,h3,by rw[List.length_set,←hn];exact hnc,hcm,by rw[h4,hcs],?_⟩⟩,?_⟩,
    ⟨s1,s2,s3,by rw[K];exact Nat.le_refl _,fun k _ hk=>z k (fun he=>hk (by rw[he]))⟩⟩
  · rw[List.length_set];simp only[List.length_append,List.length_take,List.length_drop];rw[hr.1]at H ⊢;omega
  · rw[List.length_set,←hn];apply List.ext_getElem?;intro q;rw[List.getElem?_take,h5];rw[nj cur.toList seg (i.toNat*d.sz+j) (by rw[Array.length_toList];omega) q,nj inner seg (i.toNat*d.sz+j) (by omega) q]
    have I:∀q,q<n*d.sz→cur.toList[q]? =inner[q]? :=by
      intro q hq;rw[←ht,List.getElem?_take,aq (by rw[←hn];exact hq)]
    by_cases hq:q<n*d.sz
    · rw[aq hq,I q hq]
    · rw[au hq,au (by omega),au (by omega),List.getElem?_eq_none (by omega)]
  · refine⟨?_,fun m p hm=> ?_⟩
    · rw[List.length_set];simp only[List.length_append,List.length_take,List.length_drop];rw[hr.1]at H ⊢;omega
    · have hml:m<xs.length:=by
        have:=(List.getElem?_eq_some_iff.1 hm).1
        rwa [List.length_set]at this
      have U:m*d.sz+d.sz≤inner.length:=(by rw[hr.1,←Nat.succ_mul];exact Nat.mul_le_mul_right _ hml);have hgo:some g=(Value.slice (some ⟨g,0,none⟩) n cap).ownBlock:=(by simp[Value.ownBlock]);by_cases F:m=i.toNat
      · subst F;rw[List.getElem?_set_self (by omega)]at hm;injection hm with hm;subst hm
        have hcells:((inner.take (i.toNat*d.sz+j)++seg++inner.drop (i.toNat*d.sz+j+seg.length)).drop (i.toNat*d.sz)).take d.sz=c.take j++seg++c.drop (j+seg.length):=by
          apply List.ext_getElem?;intro q;rw[List.getElem?_take,List.getElem?_drop,nj inner seg _ (by omega),nj c seg j (by omega) q];by_cases hq:q<d.sz
          · rw[aq hq,hcin q hq];by_cases hq1:q<j
            · rw[aq (by omega),aq hq1]
            · rw[au (by omega),au hq1];by_cases G:q<j+seg.length
              · rw[aq (by omega),aq G]
                congr 1
                omega
              · rw[au (by omega),au G]
          · rw[au hq,au (by omega),au (by omega),List.getElem?_eq_none (by omega)]
        rw[hcells];refine d.dv (fun k hk=> ?_) (d.eQ (w1:=W.setCells g (i.toNat*d.sz+j) seg) (fun k hk=>z k (D k hk).2) hM);exact⟨(D k hk).1,fun he=>(D k hk).2 (by rw[←hgo]at he;injection he)⟩
      · rw[List.getElem?_set_ne (by omega)]at hm;have hold:=hr.2 m p hm
        have hcells:((inner.take (i.toNat*d.sz+j)++seg++inner.drop (i.toNat*d.sz+j+seg.length)).drop (m*d.sz)).take d.sz=(inner.drop (m*d.sz)).take d.sz:=by
          apply List.ext_getElem?;intro q;rw[List.getElem?_take,List.getElem?_take,List.getElem?_drop,List.getElem?_drop,nj inner seg _ (by omega)];by_cases hq:q<d.sz
          · rw[aq hq,aq hq];rcases Nat.lt_or_gt_of_ne F with hlt|hgt
            · have:m*d.sz+d.sz≤i.toNat*d.sz:=(by rw[←Nat.succ_mul];exact Nat.mul_le_mul_right _ hlt);rw[aq (by omega)]
            · have:i.toNat*d.sz+d.sz≤m*d.sz:=(by rw[←Nat.succ_mul];exact Nat.mul_le_mul_right _ hgt);rw[au (by omega),au (by omega)]
          · rw[au hq,au hq]
        rw[hcells];refine d.eQ (fun k hk=>z k (fun he=>hk.2 (by rw[he];exact hgo))) hold
end
end Kd
namespace Kd
theorem sR {α:Type} {R:α→List Value→Prop} {size:Nat} {ps u:List α} {cs ds:List Value} (h:aY R size ps cs) (h':aY R size u ds):aY R size (ps++u) (cs++ds):=by
  refine⟨by rw[List.length_append,List.length_append,h.1,h'.1,Nat.add_mul],fun j p hj=> ?_⟩;rcases Nat.lt_or_ge j ps.length with hlt|hge
  · rw[List.getElem?_append_left hlt]at hj;have hle:j*size+size≤cs.length:=(by rw[h.1,←Nat.succ_mul];exact Nat.mul_le_mul_right _ hlt);rw[List.drop_append_of_le_length (by omega),List.take_append_of_le_length (by rw[List.length_drop];omega)];exact h.2 j p hj
  · rw[List.getElem?_append_right hge]at hj;have h2:=h'.2 (j-ps.length) p hj;have hle:ps.length*size≤j*size:=Nat.mul_le_mul_right _ hge;rw[List.drop_append,List.drop_eq_nil_of_le (by rw[h.1];exact hle),List.nil_append,h.1,←Nat.sub_mul];exact h2
section
variable {P:Program} {ops:Array Oper} {rest:List Oper} {o:Oper} {a:Act} {Q:Exit→Act→World→Prop} {α:Type}
theorem mA (d:Kd α) {Rr:α→List Value→Prop} {w0 W:World} (base:Nat) (hgd:o.guard=none) (s x:Operand) (t e:TypeId) (z:Value) (bytes:Nat)
    (ho:o.op= .call {callee:= .builtin .append,args:= #[s,x],argTypes:= #[t,t]})
    (ht:P.underlying t=some (.slice e)) (hinfo:(P.info? e).map (fun i=>(i.zero,i.size,i.bytes))=some (some z,d.sz,bytes)) (hz:z.cells.size=d.sz) (hs0:0<d.sz) (hb0:0<bytes)
    (v:Value) (xs ys:List α) (A:Option Addr) (m c:Nat) (ok bN:Nat→Prop) (hs:a.eval s=v) (hx:a.eval x= .slice A m c)
    (HO:d.R e W base ok v xs) (F:fO Rr d.sz W A m ys) (H:∀x cs,Rr x cs→d.M W base bN x cs) (O:∀k,bN k→ok k∧some k≠v.ownBlock) (I:∀k,W.heap.size≤k→ok k)
    (G:Below base w0 W) (hbase:base≤W.heap.size) (hl:(xs.length+m)*bytes≤140737488355328)
    (h:∀v1 w1,d.R e w1 base ok v1 (xs++ys)→Below base w0 w1→W.grownBy w1 v.ownBlock→(v1.ownBlock=v.ownBlock∨∃b,v1.ownBlock=some b∧W.heap.size≤b)→wpList P ops Q rest (a.put o.dst v1) w1):
    wpList P ops Q (o::rest) a W:=by
  obtain⟨i0,hi,hzz⟩:=Option.map_eq_some_iff.1 hinfo;simp only[Prod.mk.injEq]at hzz;obtain⟨hz0,hz1,hz2⟩:=hzz;have hm:ys.length=m:=F.1;have hlen:xs.length+m≤140737488355328:=Nat.le_trans (Nat.le_mul_of_pos_right _ hb0) hl;obtain⟨hok,inner,hown,hr⟩:=HO
  have hrun:∃v1 w1,(Builtin.append_ #[t,t] o.type #[v,.slice A m c]).run P W= .ok v1 w1∧d.R e w1 base ok v1 (xs++ys)∧W.grownBy w1 v.ownBlock∧(v1.ownBlock=v.ownBlock∨∃b,v1.ownBlock=some b∧W.heap.size≤b):=by
    rcases A with _|ad
    · have h0:m=0:=by
        rcases Nat.eq_zero_or_pos m with h0|h0
        · exact h0
        · obtain⟨ad,h,_⟩:=F.2.2 h0;cases h
      subst h0;obtain rfl:ys=[]:=List.eq_nil_of_length_eq_zero hm;refine⟨v,W,?_,by rw[List.append_nil];exact⟨hok,inner,hown,hr⟩,World.grownBy.refl W _,.inl rfl⟩;rcases hown.2 with ⟨rfl,hn⟩|⟨g,cap,cur,rfl,_,_,hnc,_⟩
      · simp[Builtin.append_,run_underlying ht,sizeOf,typeInfo,hi,Builtin.lenOf,Builtin.firstCells]
      · simp[Builtin.append_,run_underlying ht,sizeOf,typeInfo,hi,Builtin.lenOf,Builtin.firstCells,hnc,storeCells]
    · obtain⟨news,J,hnc⟩:=fO.rG F;have D:aY (d.M W base bN) d.sz ys news:=J.eI (fun p c hp=>H p c hp)
      have hone:∀u∈news,u.oneCell'=true:=by
        intro u hu;obtain⟨q,hq,rfl⟩:=List.mem_iff_getElem.1 hu
        have U:q/d.sz<ys.length:=by
          rw[Nat.div_lt_iff_lt_mul hs0];rw[←D.1];exact hq
        have hc:=D.2 (q/d.sz) _ (List.getElem?_eq_getElem U);refine d.fN (d.eF hc) _ ?_;rw[List.mem_iff_getElem?];refine⟨q%d.sz,?_⟩;rw[List.getElem?_take,aq (Nat.mod_lt _ hs0),List.getElem?_drop,Nat.mul_comm,Nat.div_add_mod,List.getElem?_eq_getElem hq]
      obtain⟨v1,w1,hrun,h2,hg,_,hat⟩:=run_append_own_at (P:=P) W base t o.type e i0 z d.sz bytes ht hi hz0 hz1 hz2 hz hs0 v xs.length inner hown ad m c news (by rw[D.1,hm]) hnc hone (by simp only[maxLen];omega) hl hbase
      have hat':v1.ownBlock=v.ownBlock∨∃b,v1.ownBlock=some b∧W.heap.size≤b:=by
        rcases hat with hat|hat
        · exact .inl hat
        · exact .inr ⟨_,hat,Nat.le_refl _⟩
      have hne:∀k,some k≠v.ownBlock→k<W.heap.size→some k≠v1.ownBlock:=by
        intro k hk hlt;rcases hat' with hat|⟨b,hb,hle⟩
        · rw[hat];exact hk
        · rw[hb];intro he;injection he with he;omega
      have step:∀{q:α} {c:List Value} {o:Nat→Prop},d.M W base o q c→(∀k,o k→ok k∧some k≠v.ownBlock)→d.M w1 base (fun k=>ok k∧some k≠v1.ownBlock) q c:=by
        intro q c o hq ho;have h1:=d.eQ (w1:=w1) (fun k hk=>hg.block k hk.2.2.1 (ho k hk.1).2) (d.eP hq);exact d.dv (fun k hk=>⟨(ho k hk.1).1,hne k (ho k hk.1).2 hk.2.2.1⟩) h1
      refine⟨v1,w1,hrun,⟨fun k hk=> ?_,inner++news,by rw[List.length_append,hm];exact h2,sR (hr.eI (fun _ _ hq=>step hq (fun _ hk=>hk))) (D.eI (fun _ _ hq=>step hq O))⟩,hg,hat'⟩;rcases hat' with hat|⟨b,hb,hle⟩
      · exact hok k (hat▸hk)
      · rw[hb]at hk;injection hk with hk;exact I k (by omega)
  obtain⟨v1,w1,hr1,h1,hg,hat⟩:=hrun;refine wpList_plain hgd fun K hK=> ?_;unfold Oper.wp execOp;simp only[ho,resolve,invoke,builtin,Sem.run_bind,Sem.run_pure,Result.andThen_ok,List.map_toArray,List.map_cons,List.map_nil,hs,hx,hr1];exact hK _ _ (h v1 w1 h1 (G.grown hg hbase (l9 hown)) hg hat)
end
end Kd
theorem add_add (a:Addr) (i j:Nat):(a.add i).add j=a.add (i+j):=by
  unfold Addr.add;by_cases h1:i=0<;>by_cases h2:j=0<;>simp[h1,h2,Nat.add_assoc]
namespace Kd
section
variable {α:Type} {k:Kd α} {w:World} {A:Option Addr} {xs:List α} {m c:Nat}
theorem tX (h:k.C w A xs.length xs) (hm:m≤xs.length):k.C w A (xs.take m).length (xs.take m):=by
  have hl:(xs.take m).length=m:=by rw[List.length_take];omega
  refine⟨rfl,by rw[hl];have:=h.2.1;omega,fun hp=> ?_⟩;obtain⟨ad,e,hc⟩:=h.2.2 (by omega);refine⟨ad,e,fun j p hj=>hc j p ?_⟩;rw[List.getElem?_take]at hj
  split at hj
  · exact hj
  · cases hj
end
end Kd
theorem bm {w W:World} (h:Below w.heap.size w W):w.heap.size≤W.heap.size:=h.size
theorem bn {w W w2:World} (h:Below w.heap.size w W) (k:Below W.heap.size W w2):Below w.heap.size w w2:=qV h h.size k
theorem gO.nil (W:World) (k:IntKind):gO W k none ([]:List Int).length []:=⟨rfl,by simp,fun h=>absurd h (Nat.lt_irrefl 0)⟩
theorem gO.drewN {W:World} {k:IntKind} {A:Option Addr} {n:Nat} {xs:List Int} (h:gO W k A n xs) (m:Nat):gO (W.drewN m) k A n xs:=h
theorem dA {w W:World} {g j:Nat} {v:Value} (h:Below w.heap.size w W) (hg:w.heap.size≤g):Below w.heap.size w (W.setCell ⟨g,j,none⟩ v):=h.setCell hg _
theorem lh {w W:World} {g:Nat} {row:Option Nat} (h:a8 w W g row) (m:Nat):a8 w (W.drewN m) g row:=h
theorem kj {w W:World} {g:Nat} (h:a8 w W g none) (o:Obj):a8 w (W.alloc o) g none:=h.trans (a8.l8 (World.grownBy_alloc W o none) g) (.inl rfl)
theorem wK {w W:World} {g:Nat} (h:a8 w W g none) {a:Addr} {v:Value} (hc:w.cell? a=some v) (hne:a.block≠g):W.cell? a=some v:=by
  have:=h.2 a.block (World.block_lt_of_cell? w a hc) hne (by simp);simpa[World.cell?,this]using hc
theorem add_block (a:Addr) (i:Nat):(a.add i).block=a.block:=by unfold Addr.add;split<;>rfl
theorem qW {w0 w w1:World} {B:Nat} (h:Below w0.heap.size w0 w) (hB:w0.heap.size≤B) (k:Below B w w1):Below w0.heap.size w0 w1:=
  h.trans ⟨k.os,k.tape,k.output,k.size,fun i hi=>k.block i (Nat.lt_of_lt_of_le hi hB)⟩
theorem xv {w:World} {base:Nat} {e:TypeId} {size n:Nat} {v:Value} {xs:List Value} (h:w.ownsRow base e size v n xs):v.ownBlock=none∨∃b,v.ownBlock=some b∧base≤b:=by
  cases hv:v.ownBlock with
  |none=>exact .inl rfl
  |some b=>exact .inr ⟨b,rfl,l9 h b hv⟩
theorem l4 {w W:World} {g:Nat} {row:Option Nat} (h:a8 w W g row):w.heap.size≤W.heap.size:=h.1
theorem fY.nil {α:Type} (enc:α→Value) (d:α) (W:World):fY enc d W none ([]:List α).length []:=⟨rfl,by simp,fun h=>absurd h (Nat.lt_irrefl 0)⟩
theorem fY.drewN {α:Type} {enc:α→Value} {d:α} {W:World} {A:Option Addr} {n:Nat} {xs:List α} (h:fY enc d W A n xs) (m:Nat):fY enc d (W.drewN m) A n xs:=h
theorem cell_far {W:World} {p a:Addr} (h:a.block≠p.block) (u:Value):(W.setCell p u).cell? a=W.cell? a:=by
  have:=Below.heap_setCell W p u a.block h;simp[World.cell?,this]
theorem cr {w:World} {g:Nat} {t:TypeId} {cs cs':Array Value} (h:w.heap[g]? =some (.cells cs t (0,0))) (i:Nat) (u:Value) (e:cs.setIfInBounds i u=cs'):(w.setCell ⟨g,i,none⟩ u).heap[g]? =some (.cells cs' t (0,0)):=e▸mI h i u
theorem pF {w W:World} {g:Nat} {row:Option Nat} (h:a8 w W g row) {p:Addr} (hp:w.heap.size≤p.block) (u:Value):a8 w (W.setCell p u) g row:=
  ⟨by simpa[World.setCell]using h.1,fun i hi hg hr=>(Below.heap_setCell W p u i (by omega)).trans (h.2 i hi hg hr)⟩
theorem cg {base:Nat} {w W:World} (h:Below base w W):Below base w W.drew:=h.drew
theorem lg {w W:World} {g:Nat} {row:Option Nat} (h:a8 w W g row):a8 w W.drew g row:=h
namespace Kd
section
variable {α β:Type} {d:Kd α} {d':Kd β} {e e' base base' n:Nat} {ok ok':Nat→Prop} {w W w1 W1:World} {v u:Value} {xs:List α} {ys:List β} {A:Option Addr} {c:Nat}
theorem nJ (h:d.R e w base ok v xs):v.ownBlock=none∨∃k,v.ownBlock=some k∧base≤k:=by
  obtain⟨inner,ho⟩:=mB h;exact xv ho
end
end Kd
namespace Kd
section
variable {α:Type} {d:Kd α} {e base g:Nat} {ok:Nat→Prop} {w w1:World} {v:Value} {xs:List α} {o:Obj}
theorem uD (h:d.R e w base ok v xs) (a:Nat) (ha:w.heap.size≤a):d.R e w base (fun k=>ok k∧k≠a) v xs:=cJ (iM h) (fun k hk=>⟨hk.1,by have:=hk.2.2.1;omega⟩)
theorem vT (hb:w.heap[g]? =some o):∀k,w.heap.size≤k→k≠g:=fun k hk=>by have:=dB hb;omega
end
end Kd
section
variable {P:Program} {ops:Array Oper} {rest:List Oper} {o:Oper} {a:Act} {Q:Exit→Act→World→Prop}
theorem kS {W:World} (hgd:o.guard=none) {N:Tmp} (u:o.dst=some N) {cs:Array Value} {t:TypeId}
    (hrun:(execOp a.eval o).run P W= .ok (.value (.pointer (some ⟨W.heap.size,0,none⟩))) (W.alloc (.cells cs t (0,0))))
    (h:∀g,g=W.heap.size→∀w1,w1.heap[g]? =some (.cells cs t (0,0))→Below W.heap.size W w1→wpList P ops Q rest (a.put o.dst (.pointer (some ⟨g,0,none⟩))) w1):wpList P ops Q (o::rest) a W:=
  Kd.rq hgd hrun (h _ rfl _ (fG W _) (bO (Below.refl _ _) _))
end
namespace Kd
section
variable {α:Type} {enc:α→Value} {h1:∀x,(enc x).oneCell'=true} {e base g n cap:Nat} {ok:Nat→Prop} {W:World} {xs:List α}
theorem fW (d:α) (h:(scalar enc h1).R e W base ok (.slice (some ⟨g,0,none⟩) n cap) xs) (i:Int) (h0:0≤i) (hi:i<n):W.cell? ⟨g,i.toNat,none⟩=some (enc (jJ d xs i))∧W.frozen? ⟨g,i.toNat,none⟩=false:=by
  obtain⟨rfl,_⟩:=cp h;exact uB d h i h0 hi
theorem o9 (h:(scalar enc h1).R e W base ok (.slice (some ⟨g,0,none⟩) n cap) xs) (i:Int) (x:α):(scalar enc h1).R e (W.setCell ⟨g,i.toNat,none⟩ (enc x)) base ok (.slice (some ⟨g,0,none⟩) n cap) (xs.set i.toNat x):=by
  obtain⟨rfl,_⟩:=cp h;exact(qF h i x).1
end
end Kd
section
variable {P:Program} {ops:Array Oper} {rest:List Oper} {o:Oper} {a:Act} {Q:Exit→Act→World→Prop}
theorem jP {W w1:World} (hgd:o.guard=none) {t:TypeId} {p:Tmp} {v:Operand} (u:o.op= .store t (.tmp p) v) (hN:o.dst=none)
    (hrun:(execOp a.eval o).run P W= .ok .skip w1) (h:∀w',w'=w1→wpList P ops Q rest a w'):wpList P ops Q (o::rest) a W:=by
  refine wpList_plain hgd fun K hK=> ?_;unfold Oper.wp;rw[hrun];show K (a.put o.dst undef) w1;rw[hN];exact hK _ _ (h _ rfl)
end
namespace Kd
section
variable {α:Type} {enc:α→Value} {h1:∀x,(enc x).oneCell'=true} {e base g n cap:Nat} {ok:Nat→Prop} {W:World} {xs:List α}
theorem kO (h:(scalar enc h1).R e W base ok (.slice (some ⟨g,0,none⟩) n cap) xs) (i:Int) (x:α):(scalar enc h1).R e (W.setCell ⟨g,i.toNat,none⟩ (enc x)) base ok (.slice (some ⟨g,0,none⟩) n cap) (xs.set i.toNat x)∧W.grownBy (W.setCell ⟨g,i.toNat,none⟩ (enc x)) (some g):=by
  obtain⟨rfl,_⟩:=cp h;exact qF h i x
end
end Kd
section
variable {P:Program} {ops:Array Oper} {rest:List Oper} {o:Oper} {a:Act} {Q:Exit→Act→World→Prop} {W:World}
theorem aJ {N:Tmp} (u:o.dst=some N) (h:wpList P ops Q (o::rest) a W):wpList P ops Q (o::rest) a W:=h
theorem ju {t:TypeId} {p:Tmp} {v:Operand} (u:o.op= .store t (.tmp p) v) (h:wpList P ops Q (o::rest) a W):wpList P ops Q (o::rest) a W:=h
end
section
variable {P:Program} {ops:Array Oper} {o:Oper} {a:Act} {Q:Exit→Act→World→Prop} {Kc:Act→World→Prop}
theorem rr {W w1:World} {v:Value} (hw:Region.wanted o (yielded ops a.tmps)=true) (hrun:(execOp a.eval o).run P W= .ok (.value v) w1) (h:Kc (a.put o.dst v) w1):if Region.wanted o (yielded ops a.tmps)=true then Oper.wp P o a W Kc Q else Kc (a.put o.dst undef) W:=by
  rw[aq hw];unfold Oper.wp;rw[hrun];exact h
theorem qX {W:World} (hw:Region.wanted o (yielded ops a.tmps)=true) {N:Tmp} (u:o.dst=some N) {cs:Array Value} {t:TypeId}
    (hrun:(execOp a.eval o).run P W= .ok (.value (.pointer (some ⟨W.heap.size,0,none⟩))) (W.alloc (.cells cs t (0,0))))
    (h:∀g,g=W.heap.size→∀w1,w1.heap[g]? =some (.cells cs t (0,0))→Below W.heap.size W w1→Kc (a.put o.dst (.pointer (some ⟨g,0,none⟩))) w1):if Region.wanted o (yielded ops a.tmps)=true then Oper.wp P o a W Kc Q else Kc (a.put o.dst undef) W:=
  rr hw hrun (h _ rfl _ (fG W _) (bO (Below.refl _ _) _))
namespace Kd
variable {α:Type}
theorem nK (d:Kd α) {w0 W:World} (base e:Nat) (hw:Region.wanted o (yielded ops a.tmps)=true) {N:Tmp} (F:o.dst=some N) {xs:List α} {inner:List Value} {ok bN:Nat→Prop}
    (hrun:(execOp a.eval o).run P W= .ok (.value (.slice (some ⟨W.heap.size,0,none⟩) xs.length xs.length)) (W.alloc (.cells inner.toArray e)))
    (u:aY (d.M W base bN) d.sz xs inner) (hok:∀k,bN k→ok k) (D:ok W.heap.size) (z:Below base w0 W) (hbase:base≤W.heap.size) (hm:xs.length≤9223372036854775807)
    (h:∀v1 w1,d.R e w1 base ok v1 xs→Below base w0 w1→W.grownBy w1 none→(∃b,v1.ownBlock=some b∧W.heap.size≤b)→Kc (a.put o.dst v1) w1):if Region.wanted o (yielded ops a.tmps)=true then Oper.wp P o a W Kc Q else Kc (a.put o.dst undef) W:=by
  refine rr hw hrun (h _ _ ⟨fun k hk=> ?_,inner,?_,?_⟩ (z.alloc hbase _) (World.grownBy_alloc W _ none) ⟨W.heap.size,by simp[Value.ownBlock],Nat.le_refl _⟩)
  · have:W.heap.size=k:=(by simpa[Value.ownBlock]using hk);subst this;exact D
  · have h2:=World.ownsRow_lit (base:=base) (e:=e) (size:=d.sz) W inner.toArray xs.length hbase (by simpa[maxLen]using hm) (by simpa using u.1);simpa using h2
  · refine u.eI (fun p c hp=>d.dv (fun k hk=>⟨hok k hk.1,fun he=> ?_⟩) (qu (d.eP hp) (bO (Below.refl _ _) _)));have h3:k=W.heap.size:=(by simpa[Value.ownBlock]using he);have:=hk.2.2.1;omega
theorem uF (d:Kd α) {w0 W:World} (base e:Nat) (hw:Region.wanted o (yielded ops a.tmps)=true) {N:Tmp} (hd:o.dst=some N) (t:TypeId) (x y:Operand) (ho:o.op= .makeSlice t x y) (n:Int) (hx:a.eval x= .int .i64 n) (hy:a.eval y= .int .i64 n)
    (ht:P.underlying t=some (.slice e)) (z:Value) (bytes:Nat) (hinfo:(P.info? e).map (fun i=>(i.zero,i.size,i.bytes))=some (some z,d.sz,bytes)) (hz:z.cells.size=d.sz) (hs0:0<d.sz) (hb0:0<bytes)
    (z0:α) {ok bN:Nat→Prop} (hzero:d.M W base bN z0 z.cells.toList) (hok:∀k,bN k→ok k) (D:ok W.heap.size) (h0:0≤n) (hl:n.toNat*bytes≤281474976710656) (u:Below base w0 W) (hbase:base≤W.heap.size)
    (h:∀v1 w1,d.R e w1 base ok v1 (List.replicate n.toNat z0)→Below base w0 w1→W.grownBy w1 none→(∃b,v1.ownBlock=some b∧W.heap.size≤b)→Kc (a.put o.dst v1) w1):if Region.wanted o (yielded ops a.tmps)=true then Oper.wp P o a W Kc Q else Kc (a.put o.dst undef) W:=by
  obtain⟨m,rfl⟩:=Int.eq_ofNat_of_zero_le h0;simp only[Int.toNat_natCast]at hl h;obtain⟨i0,hi,hzz⟩:=Option.map_eq_some_iff.1 hinfo;simp only[Prod.mk.injEq]at hzz;obtain⟨hz0,hz1,hz2⟩:=hzz;have hm:m≤281474976710656:=Nat.le_trans (Nat.le_mul_of_pos_right _ hb0) hl
  have hr:=run_make (P:=P) W t e i0 z ht hi hz0 .i64 .i64 (m:Int) (m:Int) (by omega) (by omega)
    (by
      have h3:((i0.bytes*m:Nat):Int)≤281474976710656:=by rw[hz2,Nat.mul_comm];omega
      rwa [Int.natCast_mul]at h3) (by omega)
  simp only[Int.toNat_natCast]at hr;rw[hz1]at hr;refine nK d base e hw hd (xs:=List.replicate m z0) (inner:=(madeCells z.cells (m*d.sz)).toList) (bN:=bN) (ok:=ok) ?_ (sS hz hs0 hzero m) hok D u hbase (by simp;omega) h;simp[execOp,ho,hx,hy,hr]
theorem qx (d:Kd α) {Rr:α→List Value→Prop} {w0 W:World} (base:Nat) (hw:Region.wanted o (yielded ops a.tmps)=true) (s x:Operand) (t e:TypeId) (z:Value) (bytes:Nat)
    (ho:o.op= .call {callee:= .builtin .append,args:= #[s,x],argTypes:= #[t,t]})
    (ht:P.underlying t=some (.slice e)) (hinfo:(P.info? e).map (fun i=>(i.zero,i.size,i.bytes))=some (some z,d.sz,bytes)) (hz:z.cells.size=d.sz) (hs0:0<d.sz) (hb0:0<bytes)
    (v:Value) (xs ys:List α) (A:Option Addr) (m c:Nat) (ok bN:Nat→Prop) (hs:a.eval s=v) (hx:a.eval x= .slice A m c)
    (HO:d.R e W base ok v xs) (F:fO Rr d.sz W A m ys) (H:∀x cs,Rr x cs→d.M W base bN x cs) (K:∀k,bN k→ok k∧some k≠v.ownBlock) (I:∀k,W.heap.size≤k→ok k)
    (G:Below base w0 W) (hbase:base≤W.heap.size) (hl:(xs.length+m)*bytes≤140737488355328)
    (h:∀v1 w1,d.R e w1 base ok v1 (xs++ys)→Below base w0 w1→W.grownBy w1 v.ownBlock→(v1.ownBlock=v.ownBlock∨∃b,v1.ownBlock=some b∧W.heap.size≤b)→Kc (a.put o.dst v1) w1):
    if Region.wanted o (yielded ops a.tmps)=true then Oper.wp P o a W Kc Q else Kc (a.put o.dst undef) W:=by
  obtain⟨i0,hi,hzz⟩:=Option.map_eq_some_iff.1 hinfo;simp only[Prod.mk.injEq]at hzz;obtain⟨hz0,hz1,hz2⟩:=hzz;have hm:ys.length=m:=F.1;have hlen:xs.length+m≤140737488355328:=Nat.le_trans (Nat.le_mul_of_pos_right _ hb0) hl;obtain⟨hok,inner,hown,hr⟩:=HO
  have hrun:∃v1 w1,(Builtin.append_ #[t,t] o.type #[v,.slice A m c]).run P W= .ok v1 w1∧d.R e w1 base ok v1 (xs++ys)∧W.grownBy w1 v.ownBlock∧(v1.ownBlock=v.ownBlock∨∃b,v1.ownBlock=some b∧W.heap.size≤b):=by
    rcases A with _|ad
    · have h0:m=0:=by
        rcases Nat.eq_zero_or_pos m with h0|h0
        · exact h0
        · obtain⟨ad,h,_⟩:=F.2.2 h0;cases h
      subst h0;obtain rfl:ys=[]:=List.eq_nil_of_length_eq_zero hm;refine⟨v,W,?_,by rw[List.append_nil];exact⟨hok,inner,hown,hr⟩,World.grownBy.refl W _,.inl rfl⟩;rcases hown.2 with ⟨rfl,hn⟩|⟨g,cap,cur,rfl,_,_,hnc,_⟩
      · simp[Builtin.append_,run_underlying ht,sizeOf,typeInfo,hi,Builtin.lenOf,Builtin.firstCells]
      · simp[Builtin.append_,run_underlying ht,sizeOf,typeInfo,hi,Builtin.lenOf,Builtin.firstCells,hnc,storeCells]
    · obtain⟨news,J,hnc⟩:=fO.rG F;have D:aY (d.M W base bN) d.sz ys news:=J.eI (fun p c hp=>H p c hp)
      have hone:∀u∈news,u.oneCell'=true:=by
        intro u hu;obtain⟨q,hq,rfl⟩:=List.mem_iff_getElem.1 hu
        have O:q/d.sz<ys.length:=by
          rw[Nat.div_lt_iff_lt_mul hs0];rw[←D.1];exact hq
        have hc:=D.2 (q/d.sz) _ (List.getElem?_eq_getElem O);refine d.fN (d.eF hc) _ ?_;rw[List.mem_iff_getElem?];refine⟨q%d.sz,?_⟩;rw[List.getElem?_take,aq (Nat.mod_lt _ hs0),List.getElem?_drop,Nat.mul_comm,Nat.div_add_mod,List.getElem?_eq_getElem hq]
      obtain⟨v1,w1,hrun,h2,hg,_,hat⟩:=run_append_own_at (P:=P) W base t o.type e i0 z d.sz bytes ht hi hz0 hz1 hz2 hz hs0 v xs.length inner hown ad m c news (by rw[D.1,hm]) hnc hone (by simp only[maxLen];omega) hl hbase
      have hat':v1.ownBlock=v.ownBlock∨∃b,v1.ownBlock=some b∧W.heap.size≤b:=by
        rcases hat with hat|hat
        · exact .inl hat
        · exact .inr ⟨_,hat,Nat.le_refl _⟩
      have hne:∀k,some k≠v.ownBlock→k<W.heap.size→some k≠v1.ownBlock:=by
        intro k hk hlt;rcases hat' with hat|⟨b,hb,hle⟩
        · rw[hat];exact hk
        · rw[hb];intro he;injection he with he;omega
      have step:∀{q:α} {c:List Value} {o:Nat→Prop},d.M W base o q c→(∀k,o k→ok k∧some k≠v.ownBlock)→d.M w1 base (fun k=>ok k∧some k≠v1.ownBlock) q c:=by
        intro q c o hq ho;have h1:=d.eQ (w1:=w1) (fun k hk=>hg.block k hk.2.2.1 (ho k hk.1).2) (d.eP hq);exact d.dv (fun k hk=>⟨(ho k hk.1).1,hne k (ho k hk.1).2 hk.2.2.1⟩) h1
      refine⟨v1,w1,hrun,⟨fun k hk=> ?_,inner++news,by rw[List.length_append,hm];exact h2,sR (hr.eI (fun _ _ hq=>step hq (fun _ hk=>hk))) (D.eI (fun _ _ hq=>step hq K))⟩,hg,hat'⟩;rcases hat' with hat|⟨b,hb,hle⟩
      · exact hok k (hat▸hk)
      · rw[hb]at hk;injection hk with hk;exact I k (by omega)
  obtain⟨v1,w1,hr1,h1,hg,hat⟩:=hrun;rw[aq hw];unfold Oper.wp execOp;simp only[ho,resolve,invoke,builtin,Sem.run_bind,Sem.run_pure,Result.andThen_ok,List.map_toArray,List.map_cons,List.map_nil,hs,hx,hr1];exact h v1 w1 h1 (G.grown hg hbase (l9 hown)) hg hat
end Kd
end
end WW.bk
namespace WW.b_
section
variable {P:Program} {ops:Array Oper} {Q:Exit→Act→World→Prop} {md:Region.Mode} {S:World→Prop} {ds:List Nat}
def Region.ik (md:Region.Mode) (ops:Array Oper) (i:Nat):Nat→Nat→Bool
  |0,_=>false
  |fuel+1,d=>match ops[d]? with
   |some o=>o.after.any fun e=>Region.binds md e&&(e.on==i||Region.ik md ops i fuel e.on)
   |none=>false
def Region.mM (md:Region.Mode) (ops:Array Oper) (listed:Array Bool):Bool:=
  (List.range ops.size).all fun j=> !listed.getD j false||match ops[j]? with
    |some o=>o.after.all fun e=> !Region.binds md e||listed.getD e.on false
    |none=>true
def Region.om (md:Region.Mode) (ops:Array Oper) (listed:Array Bool) (ds:List Nat) (i:Nat):Bool:=
  ds.all fun d=>listed.getD d true||Region.ik md ops i ops.size d
def kK (md:Region.Mode) (ops:Array Oper) (listed:Array Bool):Prop:=
  ∀j oj,ops[j]? =some oj→listed.getD j false=true→∀e∈oj.after,Region.binds md e=true→listed.getD e.on false=true
theorem Region.vC {listed:Array Bool} (h:Region.mM md ops listed=true):kK md ops listed:=by
  intro j oj hj hl e he hb;have hlt:j<ops.size:=(Array.getElem?_eq_some_iff.1 hj).1;have h1:=List.all_eq_true.1 h j (List.mem_range.2 hlt);simp only[hl,hj,Bool.not_true,Bool.false_or]at h1;have h2:=Array.all_eq_true_iff_forall_mem.1 h1 e he;simpa[hb]using h2
theorem kK.set {listed:Array Bool} {i:Nat} (h:kK md ops listed) (hi:i∈Region.ready md ops listed):kK md ops (listed.setIfInBounds i true):=by
  obtain⟨_,oi,hoi,hall⟩:=mem_ready.1 hi;intro j oj hj hl e he hb;by_cases hij:i=j
  · subst hij;have:oj=oi:=aC (hj.symm.trans hoi);subst this;exact getD_set_true (hall e he hb)
  · rw[getD_set_ne false hij]at hl;exact getD_set_true (h j oj hj hl e he hb)
theorem Region.sP {listed:Array Bool} {i:Nat} (hc:kK md ops listed):∀(fuel d:Nat),Region.ik md ops i fuel d=true→listed.getD d false=true→listed.getD i false=true
  |0,_,h,_=>by simp[Region.ik]at h
  |fuel+1,d,h,hl=>by
   unfold Region.ik at h;cases ho:ops[d]? with
   |none=>rw[ho]at h;simp at h
   |some o=>
    rw[ho]at h;obtain⟨e,he,h1⟩:=Array.any_eq_true'.1 h;simp only[Bool.and_eq_true,Bool.or_eq_true,beq_iff_eq]at h1;have hle:=hc d o ho hl e he h1.1;rcases h1.2 with h2|h2
    · rw[←h2];exact hle
    · exact Region.sP hc fuel e.on h2 hle
theorem Region.ya {listed:Array Bool} {i d fuel:Nat} (hc:kK md ops listed) (hr:Region.ik md ops i fuel d=true) (hun:listed.getD i true=false):d∉Region.ready md ops listed:=by
  intro hd;obtain⟨_,o,ho,hall⟩:=mem_ready.1 hd
  have hi:listed.getD i false=true:=by
    cases fuel with
    |zero=>simp[Region.ik]at hr
    |succ n=>
     unfold Region.ik at hr;rw[ho]at hr;obtain⟨e,he,h1⟩:=Array.any_eq_true'.1 hr;simp only[Bool.and_eq_true,Bool.or_eq_true,beq_iff_eq]at h1;have hle:=hall e he h1.1;rcases h1.2 with h2|h2
     · rw[←h2];exact hle
     · exact Region.sP hc n e.on h2 hle
  rcases Nat.lt_or_ge i listed.size with h'|h'
  · simp[h']at hun hi;rw[hun]at hi;cases hi
  · simp[Array.getElem?_eq_none h']at hun
def bt (P:Program) (md:Region.Mode) (ops:Array Oper) (Q:Exit→Act→World→Prop) (S:World→Prop) (ds:List Nat):Nat→Array Bool→Act→World→Prop
  |0,listed,a,w=>Region.ready md ops listed=[]∧Q .normal a w
  |fuel+1,listed,a,w=>
   (Region.ready md ops listed=[]→Q .normal a w)∧
   ∀i∈Region.ready md ops listed,wpOp P ops Q i (fun a' w'=>(i∉ds→S w→S w')∧bt P md ops Q S ds fuel (listed.setIfInBounds i true) a' w') a w
theorem tM:∀(fuel:Nat) (listed:Array Bool) (a:Act) (w:World),bt P md ops Q S ds fuel listed a w→wpAny P md ops Q fuel listed a w
  |0,_,_,_,h=>h
  |fuel+1,_,_,_,h=>⟨h.1,fun i hi=>wpOp_mono (fun a' w' h'=>tM fuel _ a' w' h'.2) (h.2 i hi)⟩
theorem zn {i:Nat} {oi:Oper} {v:Value} (hi:ops[i]? =some oi) (hsel:∀(j:Nat) (o:Oper) cs b,ops[j]? =some o→o.op≠ .select cs b)
    (hQ:∀c a w,Q (.panic c) (a.put oi.dst v) w→Q (.panic c) a w) (n:Nat):
    ∀(fuel:Nat) (listed:Array Bool) (a:Act) (w:World),
     (∀j oj,ops[j]? =some oj→j≠i→listed.getD j true=false→(∀e∈oj.after,Region.binds md e=true→e.on≠i)→oi.apart ops oj=true)→
     kK md ops listed→(∀d∈ds,listed.getD d true=false→Region.ik md ops i n d=true)→
     i∈Region.ready md ops listed→YieldsIf P ops S oi v a→S w→
     bt P md ops Q S ds fuel (listed.setIfInBounds i true) (a.put oi.dst v) w→bt P md ops Q S ds (fuel+1) listed a w:=by
  intro fuel
  induction fuel with
  |zero=>
   intro listed a w _ _ _ hr hy hS H;refine⟨fun h=>(by rw[h]at hr;cases hr),fun j hj=> ?_⟩;by_cases hji:j=i
   · subst hji;exact hy.wpOp hi hS ⟨fun _ h=>h,H⟩
   · have:=ready_mono hj hji;rw[H.1]at this;cases this
  |succ fuel ih=>
   intro listed a w hfree hc hd hr hy hS H;refine⟨fun h=>(by rw[h]at hr;cases hr),fun j hj=> ?_⟩;by_cases hji:j=i
   · subst hji;exact hy.wpOp hi hS ⟨fun _ h=>h,H⟩
   · have h1:=H.2 j (ready_mono hj hji);obtain⟨u,oj,D,hall⟩:=mem_ready.1 hj;have z:=(mem_ready.1 hr).1
     have hnot:∀e∈oj.after,Region.binds md e=true→e.on≠i:=fun e he hb heq=>by
       have h1:=hall e he hb;rw[heq]at h1;rcases Nat.lt_or_ge i listed.size with h'|h'
       · simp[h']at z h1;rw[z]at h1;cases h1
       · simp[Array.getElem?_eq_none h']at h1
     have G:j∉ds:=fun hm=>Region.ya hc (hd j hm u) z hj;have h2:=wpOp_putIf D (hfree j oj D hji u hnot) (fun cs b=>hsel i oi cs b hi) (fun cs b=>hsel j oj cs b D) hQ hy h1
     have F:∀k ok,ops[k]? =some ok→k≠i→(listed.setIfInBounds j true).getD k true=false→
         (∀e∈ok.after,Region.binds md e=true→e.on≠i)→oi.apart ops ok=true:=fun k ok hk hki hun hno=>by
       refine hfree k ok hk hki ?_ hno;by_cases hjk:j=k
       · subst hjk;exact u
       · rw[getD_set_ne true hjk]at hun;exact hun
     have hd':∀d∈ds,(listed.setIfInBounds j true).getD d true=false→Region.ik md ops i n d=true:=fun d hm hun=>by
       refine hd d hm ?_;by_cases hjk:j=d
       · subst hjk;exact u
       · rw[getD_set_ne true hjk]at hun;exact hun
     refine wpOp_mono (fun a' w' h3=>⟨h3.2.1,ih (listed.setIfInBounds j true) a' w' F (hc.set hj) hd' (ready_mono hr (Ne.symm hji)) h3.1 (h3.2.1 G hS) ?_⟩) h2;rw[Array.setIfInBounds_comm _ _ hji];exact h3.2.2
theorem zl {i:Nat} {oi:Oper} {v:Value} (hi:ops[i]? =some oi) (hsel:∀(j:Nat) (o:Oper) cs b,ops[j]? =some o→o.op≠ .select cs b)
    (hQ:∀c a w,Q (.panic c) (a.put oi.dst v) w→Q (.panic c) a w):
    ∀(fuel:Nat) (listed:Array Bool) (a:Act) (w:World),
     (∀j oj,ops[j]? =some oj→j≠i→listed.getD j true=false→(∀e∈oj.after,Region.binds md e=true→e.on≠i)→oi.apart ops oj=true)→
     i∈Region.ready md ops listed→Yields P ops oi v a→
     bt P md ops Q S ds fuel (listed.setIfInBounds i true) (a.put oi.dst v) w→bt P md ops Q S ds (fuel+1) listed a w:=by
  intro fuel
  induction fuel with
  |zero=>
   intro listed a w _ hr hy H;refine⟨fun h=>(by rw[h]at hr;cases hr),fun j hj=> ?_⟩;by_cases hji:j=i
   · subst hji;exact(hy.yieldsIf (S:=fun _=>True)).wpOp hi trivial ⟨fun _ h=>h,H⟩
   · have:=ready_mono hj hji;rw[H.1]at this;cases this
  |succ fuel ih=>
   intro listed a w hfree hr hy H;refine⟨fun h=>(by rw[h]at hr;cases hr),fun j hj=> ?_⟩;by_cases hji:j=i
   · subst hji;exact(hy.yieldsIf (S:=fun _=>True)).wpOp hi trivial ⟨fun _ h=>h,H⟩
   · have h1:=H.2 j (ready_mono hj hji);obtain⟨D,oj,u,hall⟩:=mem_ready.1 hj;have z:=(mem_ready.1 hr).1
     have hnot:∀e∈oj.after,Region.binds md e=true→e.on≠i:=fun e he hb heq=>by
       have h1:=hall e he hb;rw[heq]at h1;rcases Nat.lt_or_ge i listed.size with h'|h'
       · simp[h']at z h1;rw[z]at h1;cases h1
       · simp[Array.getElem?_eq_none h']at h1
     have h2:=wpOp_put u (hfree j oj u hji D hnot) (fun cs b=>hsel i oi cs b hi) (fun cs b=>hsel j oj cs b u) hQ hy h1
     have F:∀k ok,ops[k]? =some ok→k≠i→(listed.setIfInBounds j true).getD k true=false→
         (∀e∈ok.after,Region.binds md e=true→e.on≠i)→oi.apart ops ok=true:=fun k ok hk hki hun hno=>by
       refine hfree k ok hk hki ?_ hno;by_cases hjk:j=k
       · subst hjk;exact D
       · rw[getD_set_ne true hjk]at hun;exact hun
     refine wpOp_mono (fun a' w' h3=>⟨h3.2.1,ih (listed.setIfInBounds j true) a' w' F (ready_mono hr (Ne.symm hji)) h3.1 ?_⟩) h2;rw[Array.setIfInBounds_comm _ _ hji];exact h3.2.2
theorem zo {i:Nat} {oi:Oper} {v:Value} {fuel:Nat} {listed:Array Bool} {a:Act} {w:World} (hi:ops[i]? =some oi)
    (hs:Region.noSelect ops=true) (hf:Region.free md ops listed i=true) (hr:(Region.ready md ops listed).contains i=true)
    (hc:Region.mM md ops listed=true) (hl:Region.om md ops listed ds i=true)
    (hQ:∀c a w,Q (.panic c) (a.put oi.dst v) w→Q (.panic c) a w) (hy:YieldsIf P ops S oi v a) (hS:S w)
    (h:bt P md ops Q S ds fuel (listed.setIfInBounds i true) (a.put oi.dst v) w):bt P md ops Q S ds (fuel+1) listed a w:=
  zn hi (Region.noSelect_spec hs) hQ ops.size fuel listed a w (Region.free_spec hi hf) (Region.vC hc)
    (fun d hm hun=>by have:=List.all_eq_true.1 hl d hm;rw[hun]at this;simpa using this) (by simpa using hr) hy hS h
theorem zk {rs:List Nat} {fuel:Nat} {listed:Array Bool} {a:Act} {w:World} (hr:Region.ready md ops listed=rs) (hne:rs≠[])
    (h:∀i∈rs,wpOp P ops Q i (fun a' w'=>(i∉ds→S w→S w')∧bt P md ops Q S ds fuel (listed.setIfInBounds i true) a' w') a w):bt P md ops Q S ds (fuel+1) listed a w:=
  ⟨fun h0=>absurd (hr▸h0) hne,hr▸h⟩
theorem zm {listed:Array Bool} {a:Act} {w:World} (hr:Region.ready md ops listed=[]) (h:Q .normal a w):
    ∀fuel,bt P md ops Q S ds fuel listed a w
  |0=>⟨hr,h⟩
  |_+1=>⟨fun _=>h,by rw[hr];simp⟩
theorem zq {id:Nat} {a:Act} {w:World} (hm:P.follows .mixedOrders=true)
    (h:bt P .any ops Q S ds ops.size (Array.replicate ops.size false) a {w with drawn:=w.drawn+1}):(Code.region id ops true).wp P Q a w:=
  wp_region_any hm (tM _ _ _ _ h)
end
section
variable {P:Program} {ops:Array Oper} {Q:Exit→Act→World→Prop} {md:Region.Mode} {S:World→Prop} {ds:List Nat}
def eM (P:Program) (md:Region.Mode) (ops:Array Oper) (Q:Exit→Act→World→Prop) (S:World→Prop) (ds:List Nat) (fuel:Nat) (listed:Array Bool) (a:Act) (w:World) (rs:List Nat):Prop:=
  ∀i∈rs,wpOp P ops Q i (fun a' w'=>(i∉ds→S w→S w')∧bt P md ops Q S ds fuel (listed.setIfInBounds i true) a' w') a w
theorem eM.nil {fuel:Nat} {listed:Array Bool} {a:Act} {w:World}:eM P md ops Q S ds fuel listed a w []:=fun _ h=>by cases h
theorem eM.cons {fuel:Nat} {listed:Array Bool} {a:Act} {w:World} {i:Nat} {o:Oper} {rs:List Nat} (ho:ops[i]? =some o) (hd:i∉ds)
    (h:∀K':Act→World→Prop,Shut (∀a w,S w→(S w→bt P md ops Q S ds fuel (listed.setIfInBounds i true) a w)→K' a w)→if Region.wanted o (yielded ops a.tmps)=true then Oper.wp P o a w K' Q else K' (a.put o.dst undef) w)
    (hs:eM P md ops Q S ds fuel listed a w rs):eM P md ops Q S ds fuel listed a w (i::rs):=fun j hj=>by
  rcases List.mem_cons.1 hj with rfl|hj
  · exact wpOp_step ho (fun K' hK=>h K' (fun a w hS hW=>hK a w ⟨fun _ _=>hS,hW hS⟩))
  · exact hs j hj
theorem eM.vE {fuel:Nat} {listed:Array Bool} {a:Act} {w:World} {i:Nat} {o:Oper} {rs:List Nat} (ho:ops[i]? =some o) (hd:i∈ds)
    (h:∀K':Act→World→Prop,Shut (∀a w,bt P md ops Q S ds fuel (listed.setIfInBounds i true) a w→K' a w)→if Region.wanted o (yielded ops a.tmps)=true then Oper.wp P o a w K' Q else K' (a.put o.dst undef) w)
    (hs:eM P md ops Q S ds fuel listed a w rs):eM P md ops Q S ds fuel listed a w (i::rs):=fun j hj=>by
  rcases List.mem_cons.1 hj with rfl|hj
  · exact wpOp_step ho (fun K' hK=>h K' (fun a w hW=>hK a w ⟨fun hn=>absurd hd hn,hW⟩))
  · exact hs j hj
theorem oO {rs:List Nat} {fuel:Nat} {listed:Array Bool} {a:Act} {w:World} (hr:Region.ready md ops listed=rs) (hne:rs≠[])
    (h:eM P md ops Q S ds fuel listed a w rs):bt P md ops Q S ds (fuel+1) listed a w:=zk hr hne h
theorem fB {id n:Nat} {a:Act} {w:World} (l:Array Bool) (hm:P.follows .mixedOrders=true) (hn:ops.size=n) (hl:Array.replicate n false=l) (hS:S w.drew)
    (h:S w.drew→bt P .any ops Q S ds n l a w.drew):(Code.region id ops true).wp P Q a w:=by
  subst hn;subst hl;exact zq hm (h hS)
def nv (md:Region.Mode) (ops:Array Oper) (ds:List Nat) (l l':Array Bool) (i:Nat):Bool:=
  Region.noSelect ops&&Region.free md ops l i&&(Region.ready md ops l).contains i&&Region.mM md ops l&&Region.om md ops l ds i&&(l.setIfInBounds i true==l')
theorem nx {i:Nat} {N:Option Tmp} {oi:Oper} {v:Value} {fuel:Nat} {l:Array Bool} {a:Act} {w:World} (l':Array Bool) (hi:ops[i]? =some oi) (hN:oi.dst=N) (hc:nv md ops ds l l' i=true)
    (hQ:∀c a w,Q (.panic c) (a.put oi.dst v) w→Q (.panic c) a w) (hy:YieldsIf P ops S oi v a) (hS:S w) {a':Act} (ha:a.put N v=a')
    (h:bt P md ops Q S ds fuel l' a' w):bt P md ops Q S ds (fuel+1) l a w:=by
  subst ha;subst hN;simp only[nv,Bool.and_eq_true,beq_iff_eq]at hc;obtain⟨⟨⟨⟨⟨h1,h2⟩,h3⟩,h4⟩,h5⟩,h6⟩:=hc;subst h6;exact zo hi h1 h2 h3 h4 h5 hQ hy hS h
def nP (md:Region.Mode) (ops:Array Oper) (l l':Array Bool) (i:Nat):Bool:=
  Region.noSelect ops&&Region.free md ops l i&&(Region.ready md ops l).contains i&&(l.setIfInBounds i true==l')
theorem oy {i:Nat} {N:Option Tmp} {oi:Oper} {v:Value} {fuel:Nat} {l:Array Bool} {a:Act} {w:World} (l':Array Bool) (hi:ops[i]? =some oi) (hN:oi.dst=N) (hc:nP md ops l l' i=true)
    (hQ:∀c a w,Q (.panic c) (a.put oi.dst v) w→Q (.panic c) a w) (hy:Yields P ops oi v a) {a':Act} (ha:a.put N v=a')
    (h:bt P md ops Q S ds fuel l' a' w):bt P md ops Q S ds (fuel+1) l a w:=by
  subst ha;subst hN;simp only[nP,Bool.and_eq_true,beq_iff_eq]at hc;obtain⟨⟨⟨h1,h2⟩,h3⟩,h6⟩:=hc;subst h6;exact zl hi (Region.noSelect_spec h1) hQ fuel l a w (Region.free_spec hi h2) (by simpa using h3) hy h
def mf (md:Region.Mode) (ops:Array Oper) (l l':Array Bool) (i:Nat):Bool:=(Region.ready md ops l==[i])&&(l.setIfInBounds i true==l')
theorem dO {i:Nat} {N:Option Tmp} {oi:Oper} {fuel:Nat} {l:Array Bool} {a:Act} {w:World} (l':Array Bool) (hi:ops[i]? =some oi) (hN:oi.dst=N) (hc:mf md ops l l' i=true) (hd:i∉ds)
    (h:∀K:Act→World→Prop,Shut (∀a' w',S w'→(S w'→bt P md ops Q S ds fuel l' a' w')→K a' w')→if Region.wanted oi (yielded ops a.tmps)=true then Oper.wp P oi a w K Q else K (a.put N undef) w):
    bt P md ops Q S ds (fuel+1) l a w:=by
  subst hN;simp only[mf,Bool.and_eq_true,beq_iff_eq]at hc;obtain⟨h1,h2⟩:=hc;subst h2;exact oO h1 (by simp) (eM.cons hi hd (fun K hK=>h K hK) eM.nil)
theorem oq {i:Nat} {N:Option Tmp} {oi:Oper} {fuel:Nat} {l:Array Bool} {a:Act} {w:World} (l':Array Bool) (hi:ops[i]? =some oi) (hN:oi.dst=N) (hc:mf md ops l l' i=true) (hd:i∈ds)
    (h:∀K:Act→World→Prop,Shut (∀a' w',bt P md ops Q S ds fuel l' a' w'→K a' w')→if Region.wanted oi (yielded ops a.tmps)=true then Oper.wp P oi a w K Q else K (a.put N undef) w):
    bt P md ops Q S ds (fuel+1) l a w:=by
  subst hN;simp only[mf,Bool.and_eq_true,beq_iff_eq]at hc;obtain⟨h1,h2⟩:=hc;subst h2;exact oO h1 (by simp) (eM.vE hi hd (fun K hK=>h K hK) eM.nil)
theorem eW {l:Array Bool} {a:Act} {w:World} {n:Nat} (hr:(Region.ready md ops l==[])=true) (h:Q .normal a w):bt P md ops Q S ds n l a w:=zm (by simpa using hr) h n
theorem tD {i j:Nat} {Ni Nj:Option Tmp} {oi oj:Oper} {fuel:Nat} {l:Array Bool} {a:Act} {w:World} (li lj:Array Bool) (hi:ops[i]? =some oi) (hj:ops[j]? =some oj) (kV:oi.dst=Ni) (kW:oj.dst=Nj)
    (hc:(Region.ready md ops l==[i,j]&&l.setIfInBounds i true==li&&l.setIfInBounds j true==lj)=true) (kX:i∉ds) (hdj:j∉ds)
    (h1:∀K:Act→World→Prop,Shut (∀a' w',S w'→(S w'→bt P md ops Q S ds fuel li a' w')→K a' w')→if Region.wanted oi (yielded ops a.tmps)=true then Oper.wp P oi a w K Q else K (a.put Ni undef) w)
    (h2:∀K:Act→World→Prop,Shut (∀a' w',S w'→(S w'→bt P md ops Q S ds fuel lj a' w')→K a' w')→if Region.wanted oj (yielded ops a.tmps)=true then Oper.wp P oj a w K Q else K (a.put Nj undef) w):
    bt P md ops Q S ds (fuel+1) l a w:=by
  subst kV;subst kW;simp only[Bool.and_eq_true,beq_iff_eq]at hc;obtain⟨⟨h3,h4⟩,h5⟩:=hc;subst h4;subst h5;exact oO h3 (by simp) (eM.cons hi kX (fun K hK=>h1 K hK) (eM.cons hj hdj (fun K hK=>h2 K hK) eM.nil))
theorem yU {i j k:Nat} {Ni Nj Nk:Option Tmp} {oi oj ok:Oper} {fuel:Nat} {l:Array Bool} {a:Act} {w:World} (li lj lk:Array Bool) (hi:ops[i]? =some oi) (hj:ops[j]? =some oj) (hk:ops[k]? =some ok) (kV:oi.dst=Ni) (kW:oj.dst=Nj) (pD:ok.dst=Nk)
    (hc:(Region.ready md ops l==[i,j,k]&&l.setIfInBounds i true==li&&l.setIfInBounds j true==lj&&l.setIfInBounds k true==lk)=true) (kX:i∉ds) (hdj:j∉ds) (hdk:k∉ds)
    (h1:∀K:Act→World→Prop,Shut (∀a' w',S w'→(S w'→bt P md ops Q S ds fuel li a' w')→K a' w')→if Region.wanted oi (yielded ops a.tmps)=true then Oper.wp P oi a w K Q else K (a.put Ni undef) w)
    (h2:∀K:Act→World→Prop,Shut (∀a' w',S w'→(S w'→bt P md ops Q S ds fuel lj a' w')→K a' w')→if Region.wanted oj (yielded ops a.tmps)=true then Oper.wp P oj a w K Q else K (a.put Nj undef) w)
    (h3:∀K:Act→World→Prop,Shut (∀a' w',S w'→(S w'→bt P md ops Q S ds fuel lk a' w')→K a' w')→if Region.wanted ok (yielded ops a.tmps)=true then Oper.wp P ok a w K Q else K (a.put Nk undef) w):
    bt P md ops Q S ds (fuel+1) l a w:=by
  subst kV;subst kW;subst pD;simp only[Bool.and_eq_true,beq_iff_eq]at hc;obtain⟨⟨⟨h4,h5⟩,h6⟩,h7⟩:=hc;subst h5;subst h6;subst h7;exact oO h4 (by simp) (eM.cons hi kX (fun K hK=>h1 K hK) (eM.cons hj hdj (fun K hK=>h2 K hK) (eM.cons hk hdk (fun K hK=>h3 K hK) eM.nil)))
def l_:Act→List (Tmp×Value)→Act
  |a,[]=>a
  |a,(n,v)::r=>l_ (a.put (some n) v) r
theorem wC {σ:Type} {fuel:Nat} {l:Array Bool} {a:Act} {w:World} (fuel':Nat) (l':Array Bool) (ns:σ→List (Tmp×Value)) (F:σ→World→Prop)
    (u:∀s w',F s w'→bt P md ops Q S ds fuel' l' (l_ a (ns s)) w')
    (h:(∀s w',F s w'→bt P md ops Q S ds fuel' l' (l_ a (ns s)) w')→bt P md ops Q S ds fuel l a w):bt P md ops Q S ds fuel l a w:=h u
theorem dX {fuel:Nat} {l:Array Bool} {a a':Act} {w:World} (ha:a=a') (h:bt P md ops Q S ds fuel l a' w):bt P md ops Q S ds fuel l a w:=by
  subst ha;exact h
theorem vv {oi:Oper} {N:Option Tmp} {a:Act} {w:World} {K:Act→World→Prop} (f:FuncId) (args:Array Value) (hw:Region.wanted oi (yielded ops a.tmps)=true) (hN:oi.dst=N) (hrun:(execOp a.eval oi).run P w= .ok (.enter f args) w)
    (h:Calls P f args w fun e w'=>∃v,e= .returned v∧K (a.put N v) w'):if Region.wanted oi (yielded ops a.tmps)=true then Oper.wp P oi a w K Q else K (a.put N undef) w:=by
  rw[aq hw];subst hN;unfold Oper.wp;rw[hrun,Oper.upon_enter];refine h.mono fun e w'' hh=> ?_;obtain⟨v,rfl,hk⟩:=hh;exact hk
theorem ri {f:FuncId} {fn:Func} (hf:P.funcs[f]? =some fn) (hname:(fn.name== "runtime.NumGoroutine")=false) (hb:fn.body.isSome=true) (args:Array Value) (w:World):(callFunc f args).run P w= .ok (.enter f args) w:=by
  have h1:fn.name≠ "runtime.NumGoroutine" :=by simpa using hname
  obtain⟨c,hc⟩:=Option.isSome_iff_exists.1 hb;simp[callFunc,hf,h1,hc]
theorem df {oi:Oper} {N:Option Tmp} {a:Act} {w:World} {K:Act→World→Prop} {f:FuncId} {fn:Func} {as:Array Operand} {ts:Array TypeId} (hf:P.funcs[f]? =some fn) (hname:(fn.name== "runtime.NumGoroutine")=false) (hb:fn.body.isSome=true) (args:Array Value)
    (hw:Region.wanted oi (yielded ops a.tmps)=true) (hN:oi.dst=N) (hop:oi.op= .call {callee:= .value (.func f),args:=as,argTypes:=ts}) (hargs:as.map a.eval=args)
    (h:Calls P f args w fun e w'=>∃v,e= .returned v∧K (a.put N v) w'):if Region.wanted oi (yielded ops a.tmps)=true then Oper.wp P oi a w K Q else K (a.put N undef) w:=by
  refine vv f args hw hN ?_ h;have he:=ri hf hname hb args w;unfold execOp;simp[hop,resolve,Deferred.ofValue,invoke,Act.eval,hargs,he]
theorem jz {rest:List Oper} {oi:Oper} {a:Act} {w:World} (N:Option Tmp) (hd:oi.dst=N) (hg:oi.guard=none) {f:FuncId} {fn:Func} {as:Array Operand} {ts:Array TypeId} (hf:P.funcs[f]? =some fn) (hname:(fn.name== "runtime.NumGoroutine")=false) (hb:fn.body.isSome=true) (args:Array Value)
    (hop:oi.op= .call {callee:= .value (.func f),args:=as,argTypes:=ts}) (hargs:as.map a.eval=args)
    (h:Calls P f args w fun e w'=>∃v,e= .returned v∧wpList P ops Q rest (a.put N v) w'):wpList P ops Q (oi::rest) a w:=by
  refine wpList_plain hg fun K hK=> ?_;have he:=ri hf hname hb args w
  have hrun:(execOp a.eval oi).run P w= .ok (.enter f args) w:=by
    unfold execOp;simp[hop,resolve,Deferred.ofValue,invoke,Act.eval,hargs,he]
  unfold Oper.wp;rw[hrun,Oper.upon_enter];refine h.mono fun e w'' hh=> ?_;obtain⟨v,rfl,hk⟩:=hh;subst hd;exact hK _ _ hk
theorem mh {oi:Oper} {a:Act} {w w1:World} {K:Act→World→Prop} (hw:Region.wanted oi (yielded ops a.tmps)=true) (hN:oi.dst=none) (hrun:(execOp a.eval oi).run P w= .ok .skip w1)
    (h:K a w1):if Region.wanted oi (yielded ops a.tmps)=true then Oper.wp P oi a w K Q else K (a.put none undef) w:=by
  rw[aq hw];unfold Oper.wp;rw[hrun];show K (a.put oi.dst undef) w1;rw[hN];exact h
theorem cd (n:Int):IntKind.i64.wrap n=Go.RowKit.wrap64 n:=by unfold Go.RowKit.wrap64;exact IntKind.wrap_i64 n
theorem ct (n:Int):IntKind.i32.wrap n=Go.RowKit.wrap32 n:=by unfold Go.RowKit.wrap32;exact IntKind.wrap_i32 n
end
end WW.b_
namespace WW.b_
open WW.bk (ae)
def l7 (md:Region.Mode) (o:Oper):List Nat:=(o.after.toList.filter (fun e=>Region.binds md e)).map (fun e=>e.on)
def pB (md:Region.Mode) (ops:Array Oper) (i:Nat) (oi:Oper):List Nat:=(List.range ops.size).filter fun j=> !(j==i)&&match ops[j]? with
  |some oj=> !(oj.after.any (fun e=>Region.binds md e&&e.on==i)||oi.apart ops oj)
  |none=>false
def a6 (md:Region.Mode) (ops:Array Oper):Bool×List (List Nat×List Nat):=(Region.noSelect ops,(List.range ops.size).map fun i=>match ops[i]? with
  |some o=>(l7 md o,pB md ops i o)
  |none=>([],[]))
def ku (T:List (List Nat×List Nat)) (l:List Bool) (i:Nat):Bool:= !l.getD i true&&match T[i]? with
  |some r=>r.1.all (fun j=>l.getD j false)
  |none=>false
def e8 (T:List (List Nat×List Nat)) (l:List Bool):List Nat:=(List.range T.length).filter (ku T l)
def mQ (T:List (List Nat×List Nat)) (l:List Bool) (i:Nat):Bool:=match T[i]? with
  |some r=>r.2.all (fun j=>l.getD j true)
  |none=>false
def nY (T:List (List Nat×List Nat)) (l:List Bool):Bool:=(List.range T.length).all fun j=> !l.getD j false||match T[j]? with
  |some r=>r.1.all (fun k=>l.getD k false)
  |none=>true
def mb (T:List (List Nat×List Nat)) (i:Nat):Nat→Nat→Bool
  |0,_=>false
  |fuel+1,d=>match T[d]? with
   |some r=>r.1.any fun j=>j==i||mb T i fuel j
   |none=>false
def oo (T:List (List Nat×List Nat)) (l:List Bool) (ds:List Nat) (i:Nat):Bool:=ds.all fun d=>l.getD d true||mb T i T.length d
section
variable {md:Region.Mode} {ops:Array Oper} {T:Bool×List (List Nat×List Nat)} {l l' li lj lk:Array Bool} {ds:List Nat} {i j k:Nat}
theorem gd (l:Array Bool) (j:Nat) (b:Bool):l.getD j b=l.toList.getD j b:=by simp[Array.getD_eq_getD_getElem?,List.getD_eq_getElem?_getD]
theorem r9 (o:Oper) (p:Nat→Bool):o.after.all (fun e=> !Region.binds md e||p e.on)=(l7 md o).all p:=by
  unfold l7;rw[←Array.all_toList]
  induction o.after.toList with
  |nil=>rfl
  |cons e r ih=>
   rw[List.all_cons,ih,List.filter_cons];cases h:Region.binds md e<;>simp
theorem xe (o:Oper) (p:Nat→Bool):o.after.any (fun e=>Region.binds md e&&p e.on)=(l7 md o).any p:=by
  unfold l7;rw[←Array.any_toList]
  induction o.after.toList with
  |nil=>rfl
  |cons e r ih=>
   rw[List.any_cons,ih,List.filter_cons];cases h:Region.binds md e<;>simp
theorem oz:(a6 md ops).2.length=ops.size:=by simp[a6]
theorem oC {o:Oper} (h:ops[i]? =some o):(a6 md ops).2[i]? =some (l7 md o,pB md ops i o):=by
  have hi:=(Array.getElem?_eq_some_iff.1 h).1;unfold a6;rw[List.getElem?_map,List.getElem?_range hi,Option.map_some,h]
theorem oA (h:ops[i]? =none):(a6 md ops).2[i]? =none:=by
  have hi:ops.size≤i:=Array.getElem?_eq_none_iff.1 h;exact List.getElem?_eq_none (by rw[oz];exact hi)
theorem yc:ku (a6 md ops).2 l.toList i=(!l.getD i true&&((ops[i]?).map (·.after.all fun e=> !Region.binds md e||l.getD e.on false)).getD false):=by
  unfold ku;rw[gd];cases h:ops[i]? with
  |none=>rw[oA h];rfl
  |some o=>
   rw[oC h];simp only[Option.map_some,Option.getD_some];rw[←r9];simp only[gd]
theorem ng:Region.ready md ops l=e8 (a6 md ops).2 l.toList:=by
  unfold Region.ready e8;rw[oz];refine List.filter_congr (fun i _=> ?_);rw[yc]
theorem ry:Region.free md ops l i=mQ (a6 md ops).2 l.toList i:=by
  unfold Region.free mQ;cases h:ops[i]? with
  |none=>rw[oA h]
  |some oi=>
   rw[oC h];simp only[pB];rw[List.all_filter]
   congr 1
   funext j
   rw[gd];cases hj:ops[j]? with
   |none=>cases(j==i)<;>cases(l.toList.getD j true)<;>simp
   |some oj=>
    cases(j==i)<;>cases(l.toList.getD j true)<;>cases(oj.after.any (fun e=>Region.binds md e&&e.on==i)||oi.apart ops oj)<;>simp_all
theorem vD:Region.mM md ops l=nY (a6 md ops).2 l.toList:=by
  unfold Region.mM nY;rw[oz]
  congr 1
  funext j
  rw[gd];cases h:ops[j]? with
  |none=>rw[oA h]
  |some o=>
   rw[oC h];simp only;rw[←r9];simp only[gd]
theorem sO:∀(fuel d:Nat),Region.ik md ops i fuel d=mb (a6 md ops).2 i fuel d
  |0,_=>rfl
  |fuel+1,d=>by
   unfold Region.ik mb;cases h:ops[d]? with
   |none=>rw[oA h]
   |some o=>
    rw[oC h];simp only;rw[←xe]
    congr 1
    funext e
    rw[sO fuel]
theorem wP:Region.om md ops l ds i=oo (a6 md ops).2 l.toList ds i:=by
  unfold Region.om oo;rw[oz]
  congr 1
  funext d
  rw[gd,sO]
theorem sQ (h:ku T.2 l.toList i=true) (hT:a6 md ops=T):(Region.ready md ops l).contains i=true:=by
  subst hT;rw[ng];unfold e8;rw[List.contains_iff_mem,List.mem_filter,List.mem_range];refine⟨?_,h⟩;unfold ku at h;rw[Bool.and_eq_true]at h;cases hq:(a6 md ops).2[i]? with
  |none=>rw[hq]at h;simp at h
  |some r=>exact(List.getElem?_eq_some_iff.1 hq).1
theorem kB (h:(l.toList.set i true==l'.toList)=true):(l.setIfInBounds i true==l')=true:=by
  rw[beq_iff_eq]at h ⊢;apply Array.ext';rw[Array.toList_setIfInBounds];exact h
def lR (T:Bool×List (List Nat×List Nat)) (l l':List Bool) (i:Nat):Bool:=T.1&&mQ T.2 l i&&ku T.2 l i&&(l.set i true==l')
theorem nQ (hT:a6 md ops=T) (h:lR T l.toList l'.toList i=true):nP md ops l l' i=true:=by
  simp only[lR,Bool.and_eq_true]at h;obtain⟨⟨⟨h1,h2⟩,h3⟩,h4⟩:=h;have h5:=sQ h3 hT;have h6:=kB h4;subst hT;simp only[nP,Bool.and_eq_true];exact⟨⟨⟨h1,by rw[ry];exact h2⟩,h5⟩,h6⟩
def p_ (T:Bool×List (List Nat×List Nat)) (ds:List Nat) (l l':List Bool) (i:Nat):Bool:=T.1&&mQ T.2 l i&&ku T.2 l i&&nY T.2 l&&oo T.2 l ds i&&(l.set i true==l')
theorem yT (hT:a6 md ops=T) (h:p_ T ds l.toList l'.toList i=true):nv md ops ds l l' i=true:=by
  simp only[p_,Bool.and_eq_true]at h;obtain⟨⟨⟨⟨⟨h1,h2⟩,h3⟩,h4⟩,h5⟩,h6⟩:=h;have h7:=sQ h3 hT;have h8:=kB h6;subst hT;simp only[nv,Bool.and_eq_true];exact⟨⟨⟨⟨⟨h1,by rw[ry];exact h2⟩,h7⟩,by rw[vD];exact h4⟩,by rw[wP];exact h5⟩,h8⟩
theorem dn (hT:a6 md ops=T) (h:(e8 T.2 l.toList==[i]&&l.toList.set i true==l'.toList)=true):mf md ops l l' i=true:=by
  simp only[Bool.and_eq_true]at h;obtain⟨h1,h2⟩:=h;subst hT;simp only[mf,Bool.and_eq_true];exact⟨by rw[ng];exact h1,kB h2⟩
theorem tE (hT:a6 md ops=T) (h:(e8 T.2 l.toList==[i,j]&&l.toList.set i true==li.toList&&l.toList.set j true==lj.toList)=true):(Region.ready md ops l==[i,j]&&l.setIfInBounds i true==li&&l.setIfInBounds j true==lj)=true:=by
  simp only[Bool.and_eq_true]at h ⊢;obtain⟨⟨h1,h2⟩,h3⟩:=h;subst hT;exact⟨⟨by rw[ng];exact h1,kB h2⟩,kB h3⟩
theorem yV (hT:a6 md ops=T) (h:(e8 T.2 l.toList==[i,j,k]&&l.toList.set i true==li.toList&&l.toList.set j true==lj.toList&&l.toList.set k true==lk.toList)=true):
    (Region.ready md ops l==[i,j,k]&&l.setIfInBounds i true==li&&l.setIfInBounds j true==lj&&l.setIfInBounds k true==lk)=true:=by
  simp only[Bool.and_eq_true]at h ⊢;obtain⟨⟨⟨h1,h2⟩,h3⟩,h4⟩:=h;subst hT;exact⟨⟨⟨by rw[ng];exact h1,kB h2⟩,kB h3⟩,kB h4⟩
theorem fp (hT:a6 md ops=T) (h:(e8 T.2 l.toList==[])=true):(Region.ready md ops l==[])=true:=by
  subst hT;rw[ng];exact h
def lI (B:List Nat) (d:Nat):List Nat→Nat
  |[]=>0
  |n::r=>(2^n|||(if n<d then B.getD n 0 else 0))|||lI B d r
def bT (T:List (List Nat×List Nat)) (B:List Nat):Bool:=(List.range T.length).all fun d=>match T[d]? with
  |some r=>(B.getD d 0|||lI B d r.1)==lI B d r.1
  |none=>false
theorem tG {B:List Nat} {d i:Nat}:∀{ns:List Nat},(lI B d ns).testBit i=true→∃n∈ns,n=i∨(n<d∧(B.getD n 0).testBit i=true)
  |[],h=>by simp[lI]at h
  |n::r,h=>by
   unfold lI at h;rw[Nat.testBit_or,Nat.testBit_or,Bool.or_eq_true,Bool.or_eq_true]at h;rcases h with (h|h)|h
   · rw[Nat.testBit_two_pow]at h;exact⟨n,List.mem_cons_self,.inl (by simpa using h)⟩
   · by_cases hn:n<d
     · rw[aq hn]at h;exact⟨n,List.mem_cons_self,.inr ⟨hn,h⟩⟩
     · rw[au hn]at h;simp at h
   · obtain⟨m,hm,h2⟩:=tG h;exact⟨m,List.mem_cons_of_mem _ hm,h2⟩
theorem sN {T:List (List Nat×List Nat)} {B:List Nat} (hB:bT T B=true):∀(fuel d:Nat),d<fuel→d<T.length→(B.getD d 0).testBit i=true→mb T i fuel d=true
  |0,d,h,_,_=>by omega
  |fuel+1,d,h,hd,hb=>by
   have h1:=List.all_eq_true.1 hB d (List.mem_range.2 hd);cases hr:T[d]? with
   |none=>rw[hr]at h1;simp at h1
   |some r=>
    rw[hr]at h1;simp only[beq_iff_eq]at h1;have h2:(lI B d r.1).testBit i=true:=(by rw[←h1,Nat.testBit_or,hb,Bool.true_or]);obtain⟨n,hn,h3⟩:=tG h2;unfold mb;rw[hr];simp only;rw[List.any_eq_true];refine⟨n,hn,?_⟩;rcases h3 with rfl|⟨h4,h5⟩
    · simp
    · rw[sN hB fuel n (by omega) (by omega) h5,Bool.or_true]
def rN (T:List (List Nat×List Nat)) (B:List Nat) (l:List Bool) (ds:List Nat) (i:Nat):Bool:=ds.all fun d=>l.getD d true||(decide (d<T.length)&&(B.getD d 0).testBit i)
def nw (T:Bool×List (List Nat×List Nat)) (B:List Nat) (ds:List Nat) (l l':List Bool) (i:Nat):Bool:=T.1&&mQ T.2 l i&&ku T.2 l i&&nY T.2 l&&rN T.2 B l ds i&&(l.set i true==l')
theorem qf {B:List Nat} (hT:a6 md ops=T) (hB:bT T.2 B=true) (h:nw T B ds l.toList l'.toList i=true):nv md ops ds l l' i=true:=by
  refine yT hT ?_;simp only[nw,p_,Bool.and_eq_true]at h ⊢;obtain⟨⟨⟨⟨⟨h1,h2⟩,h3⟩,h4⟩,h5⟩,h6⟩:=h;refine⟨⟨⟨⟨⟨h1,h2⟩,h3⟩,h4⟩,?_⟩,h6⟩;unfold rN at h5;unfold oo;rw[List.all_eq_true]at h5 ⊢;intro d hd;have h7:=h5 d hd;rw[Bool.or_eq_true,Bool.and_eq_true,decide_eq_true_eq]at h7;rcases h7 with h7|⟨h8,u⟩
  · rw[h7,Bool.true_or]
  · rw[sN hB _ d h8 h8 u,Bool.or_true]
theorem fU {P:Program} {Q:Exit→Act→World→Prop} {S:World→Prop} {n:Nat} {a:Act} {w:World} {B:List Nat} (hT:a6 md ops=T) (hB:bT T.2 B=true) (h:ae (a6 md ops=T)→ae (bT T.2 B=true)→bt P md ops Q S ds n l a w):bt P md ops Q S ds n l a w:=h ⟨hT⟩ ⟨hB⟩
end
def iU:Code→Nat→Option (Array Oper)
  | .region id ops _,k=>if id==k then some ops else none
  | .seq a b,k=>match iU a k with
    |some o=>some o
    |none=>iU b k
  | .cond _ a b,k=>match iU a k with
    |some o=>some o
    |none=>iU b k
  | .block _ c,k=>iU c k
  | .loop c,k=>iU c k
  | .scope c,k=>iU c k
  | .rangeFunc _ _ a b,k=>match iU a k with
    |some o=>some o
    |none=>iU b k
  |_,_=>none
def opsOf (f:Func) (k:Nat):Array Oper:=((f.body.bind fun c=>iU c k)).getD #[]
end WW.b_


namespace WW.bk
open Go.RowKit
namespace Kd
def tag {α:Type} (f:Nat→Nat) (d:Kd α):Kd (α×Nat) where
  sz:=d.sz
  E:=d.E
  K:=fun w x cs=>d.K w x.1 cs
  M:=fun w base ok x cs=>d.M w base (fun k=>ok k∧f k=x.2) x.1 cs
  fV:=fun h=>d.fV h
  fN:=fun h=>d.fN h
  gK:=fun hb h=>d.gK hb h
  eF:=fun h=>d.eF h
  dv:=fun hok h=>d.dv (fun k hk=>⟨hok k hk.1,hk.2⟩) h
  eP:=fun h=>d.dv (fun _ hk=>⟨⟨hk.1.1,hk.2⟩,hk.1.2⟩) (d.eP h)
  eQ:=fun hm h=>d.eQ (fun k hk=>hm k hk.1) h
  gN:=fun hb h=>d.gN hb h
def raw (sz:Nat):Kd (List Value) where
  sz:=sz
  E:=[]
  K:=fun _ x cs=>cs=x∧cs.length=sz∧∀u∈cs,u.oneCell'=true
  M:=fun _ _ _ x cs=>cs=x∧cs.length=sz∧∀u∈cs,u.oneCell'=true
  fV:=fun h=>h.2.1
  fN:=fun h=>h.2.2
  gK:=fun _ h=>h
  eF:=fun h=>h
  dv:=fun _ h=>h
  eP:=fun h=>h
  eQ:=fun _ h=>h
  gN:=fun _ h=>h
def S {α:Type} (d:Kd α) (e:Nat) (w:World) (base:Nat) (ok:Nat→Prop) (v:Value) (xs:List α):Prop:=∃f,(tag f d).R e w base ok v xs.zipIdx
section
variable {α β:Type} {d:Kd α} {d':Kd β} {e e':Nat} {w w1 W:World} {base b:Nat} {ok ok' xl xk:Nat→Prop} {u v:Value} {xs:List α} {ys:List β}
theorem pg (d:Kd α) (e:Nat) (w:World) (base:Nat) (ok:Nat→Prop):S d e w base ok (.slice none 0 0) []:=⟨fun _=>0,bl _ _ _ _ _⟩
theorem uN (h:S d e w base ok v xs) (hok:∀k,ok k→ok' k):S d e w base ok' v xs:=by
  obtain⟨f,h⟩:=h;exact⟨f,cJ h hok⟩
theorem uK (h:S d e w base ok v xs):S d e w base (fun k=>ok k∧base≤k∧k<w.heap.size∧∃q,q∈e::d.E∧∃cells,w.heap[k]? =some (.cells cells q (0,0))) v xs:=by
  obtain⟨f,h⟩:=h;exact⟨f,iM h⟩
theorem uO (h:S d e w base ok v xs) (hm:∀k,ok k→w1.heap[k]? =w.heap[k]?):S d e w1 base ok v xs:=by
  obtain⟨f,h⟩:=h;exact⟨f,lN h hm⟩
theorem uP (h:S d e w base ok v xs) (hm:∀k,ok k→k<w.heap.size→w1.heap[k]? =w.heap[k]?):S d e w1 base ok v xs:=
  uN (uO (uK h) (fun k hk=>hm k hk.1 hk.2.2.1)) (fun _ hk=>hk.1)
theorem pd (h:S d e w base ok v xs) (hb:Below w.heap.size w w1):S d e w1 base ok v xs:=uP h (fun k _ hk=>hb.block k hk)
theorem uJ (h:S d e w base ok v xs) (o:Obj):S d e (w.alloc o) base ok v xs:=pd h (bO (Below.refl _ _) o)
theorem uL (h:S d e w base ok v xs):S d e w.drew base ok v xs:=pd h (lS (Below.refl _ _))
theorem uM (h:S d e w base ok v xs) (m:Nat):S d e (w.drewN m) base ok v xs:=pd h (cN (Below.refl _ _) m)
end
def vW {α:Type} (f:Nat→Nat) (d:Kd α) (i:Nat) (c:List Value):Kd (α×Nat) where
  sz:=d.sz
  E:=d.E
  K:=fun w x cs=>(x.2=i→cs=c∧cs.length=d.sz∧∀u∈cs,u.oneCell'=true)∧(x.2≠i→d.K w x.1 cs)
  M:=fun w base ok x cs=>(x.2=i→cs=c∧cs.length=d.sz∧∀u∈cs,u.oneCell'=true)∧(x.2≠i→d.M w base (fun k=>ok k∧f k=x.2) x.1 cs)
  fV:=fun{w x cs} h=>by
    by_cases hx:x.2=i
    · exact(h.1 hx).2.1
    · exact d.fV (h.2 hx)
  fN:=fun{w x cs} h=>by
    by_cases hx:x.2=i
    · exact(h.1 hx).2.2
    · exact d.fN (h.2 hx)
  gK:=fun hb h=>⟨h.1,fun hx=>d.gK hb (h.2 hx)⟩
  eF:=fun h=>⟨h.1,fun hx=>d.eF (h.2 hx)⟩
  dv:=fun hok h=>⟨h.1,fun hx=>d.dv (fun k hk=>⟨hok k hk.1,hk.2⟩) (h.2 hx)⟩
  eP:=fun h=>⟨h.1,fun hx=>d.dv (fun _ hk=>⟨⟨hk.1.1,hk.2⟩,hk.1.2⟩) (d.eP (h.2 hx))⟩
  eQ:=fun hm h=>⟨h.1,fun hx=>d.eQ (fun k hk=>hm k hk.1) (h.2 hx)⟩
  gN:=fun hb h=>⟨h.1,fun hx=>d.gN hb (h.2 hx)⟩
def H {α:Type} (d:Kd α) (e:Nat) (w:World) (base:Nat) (ok:Nat→Prop) (v:Value) (xs:List α) (i:Int) (u:Nat→Prop) (c:List Value):Prop:=
  (∀k,u k→ok k)∧∃f,(vW f d i.toNat c).R e w base (fun k=>ok k∧¬u k) v xs.zipIdx
end Kd
end WW.bk


namespace WW.bk
open Go.RowKit
namespace Kd
structure Heap {α:Type} (d:Kd α):Prop where
  K:∀{w w1:World} {x:α} {cs:List Value},(∀k,k<w.heap.size→w1.heap[k]? =w.heap[k]?)→d.K w x cs→d.K w1 x cs
theorem vz {w w1:World} (hb:∀k,k<w.heap.size→w1.heap[k]? =w.heap[k]?) {a:Addr} {v:Value} (h:w.cell? a=some v):w1.cell? a=some v:=by
  have:=hb a.block (World.block_lt_of_cell? w a h);simpa[World.cell?,this]using h
theorem Heap.C {α:Type} {d:Kd α} (hd:Heap d) {w w1:World} {A:Option Addr} {n:Nat} {xs:List α} (hb:∀k,k<w.heap.size→w1.heap[k]? =w.heap[k]?) (h:d.C w A n xs):d.C w1 A n xs:=
  ⟨h.1,h.2.1,fun hn=>by
    obtain⟨ad,e,hc⟩:=h.2.2 hn;refine⟨ad,e,fun j p hj=> ?_⟩;obtain⟨c,hs,hr,hcell⟩:=hc j p hj;exact⟨c,hs,hd.K hb hr,fun i u hu=>vz hb (hcell i u hu)⟩⟩
end Kd
end WW.bk
namespace WW.bk
open Go.RowKit
def Kept (w W:World) (S:Nat→Prop):Prop:=w.heap.size≤W.heap.size∧∀i,i<w.heap.size→¬S i→W.heap[i]? =w.heap[i]?
section
variable {w W W2:World} {S S2 S':Nat→Prop}
theorem Kept.refl (w:World) (S:Nat→Prop):Kept w w S:=⟨Nat.le_refl _,fun _ _ _=>rfl⟩
theorem Kept.ko (h:Below w.heap.size w W) (S:Nat→Prop):Kept w W S:=⟨h.size,fun i hi _=>h.block i hi⟩
theorem Kept.mono (h:Kept w W S) (hs:∀k,S k→S' k):Kept w W S':=⟨h.1,fun i hi hn=>h.2 i hi (fun hk=>hn (hs i hk))⟩
theorem Kept.qg (h:Kept w W S) (k:Kept W W2 S2) (hs:∀k,S2 k→S k∨w.heap.size≤k):Kept w W2 S:=
  ⟨Nat.le_trans h.1 k.1,fun i hi hn=>(k.2 i (Nat.lt_of_lt_of_le hi h.1) (fun h2=>(hs i h2).elim hn (fun h3=>by omega))).trans (h.2 i hi hn)⟩
theorem Kept.l8 {row:Option Nat} (hg:W.grownBy W2 row) (h:Kept w W S) (hr:∀k,row=some k→S k∨w.heap.size≤k):Kept w W2 S:=
  h.qg (S2:=fun k=>row=some k) ⟨hg.size,fun i hi hn=>hg.block i hi (fun he=>hn he.symm)⟩ hr
theorem Kept.below (h:Kept w W S) (hb:Below W.heap.size W W2):Kept w W2 S:=h.qg (Kept.ko hb (fun _=>False)) (fun _ hk=>hk.elim)
theorem Kept.alloc (h:Kept w W S) (o:Obj):Kept w (W.alloc o) S:=h.below (bO (Below.refl _ _) o)
theorem Kept.drew (h:Kept w W S):Kept w W.drew S:=h
theorem Kept.drewN (h:Kept w W S) (m:Nat):Kept w (W.drewN m) S:=h
theorem Kept.setCell (h:Kept w W S) {p:Addr} (hp:S p.block∨w.heap.size≤p.block) (u:Value):Kept w (W.setCell p u) S:=
  h.qg (S2:=fun k=>k=p.block) ⟨by simp[World.setCell],fun i _ hn=>Below.heap_setCell W p u i hn⟩ (fun k hk=>by rw[hk];exact hp)
theorem vr {g:Nat} {o:Obj} (hb:W.heap[g]? =some o) (hk:Kept W W2 S) (hne:¬S g):W2.heap[g]? =some o:=(hk.2 g (dB hb) hne).trans hb
end
end WW.bk
namespace WW.bk
open Go.RowKit
def gJ (P:World→Prop) (W:World) (ok:Nat→Prop):Prop:=∀W':World,(∀k,ok k→k<W.heap.size→W'.heap[k]? =W.heap[k]?)→P W'
theorem v_ {W W1:World} {k:Nat} (h:W1.heap[k]? =W.heap[k]?) (hlt:k<W.heap.size):k<W1.heap.size:=by
  rw[Array.getElem?_eq_getElem hlt]at h;exact(Array.getElem?_eq_some_iff.1 h).1
namespace gJ
variable {P Q:World→Prop} {W W1:World} {ok ok':Nat→Prop}
theorem now (h:gJ P W ok):P W:=h W (fun _ _ _=>rfl)
theorem mono (h:gJ P W ok) (hok:∀k,ok k→ok' k):gJ P W ok':=fun W' hW=>h W' (fun k hk hlt=>hW k (hok k hk) hlt)
theorem step (h:gJ P W ok) (hm:∀k,ok k→k<W.heap.size→W1.heap[k]? =W.heap[k]?):gJ P W1 ok:=fun W' hW=>h W' (fun k hk hlt=>(hW k hk (v_ (hm k hk hlt) hlt)).trans (hm k hk hlt))
theorem imp (h:gJ P W ok) (hi:∀W',P W'→Q W'):gJ Q W ok:=fun W' hW=>hi W' (h W' hW)
end gJ
namespace Kd
def F {α:Type} (d:Kd α) (W:World) (ok:Nat→Prop) (A:Option Addr) (n:Nat) (xs:List α):Prop:=gJ (fun W=>d.C W A n xs) W ok
def FK {α:Type} (d:Kd α) (W:World) (ok:Nat→Prop) (x:α) (c:List Value):Prop:=gJ (fun W=>d.K W x c) W ok
section
variable {α β:Type} {d:Kd α} {e base n n' cc g N:Nat} {ok ok' bN S:Nat→Prop} {w w0 w1 W W1:World} {A A':Option Addr} {u v v1:Value} {xs:List α} {xs':List β} {d':Kd β} {x:α} {c:List Value}
theorem uf (h:F d W ok A n xs) (hm:∀k,ok k→k<W.heap.size→W1.heap[k]? =W.heap[k]?):F d W1 ok A n xs:=gJ.step h hm
theorem oX (h:F d W ok A n xs) (hb:Below W.heap.size W W1):F d W1 ok A n xs:=uf h (fun k _ hlt=>hb.block k hlt)
theorem t_ (h:F d W ok A n xs) (o:Obj):F d (W.alloc o) ok A n xs:=oX h (bO (Below.refl _ _) o)
theorem ua (h:F d W ok A n xs):F d W.drew ok A n xs:=oX h (lS (Below.refl _ _))
theorem ub (h:F d W ok A n xs) (m:Nat):F d (W.drewN m) ok A n xs:=oX h (cN (Below.refl _ _) m)
theorem ud (d:Kd α) (W:World) (ok:Nat→Prop):F d W ok none ([]:List α).length []:=fun W' _=>tW d W'
theorem tZ (h:FK d W ok x c) (hm:∀k,ok k→k<W.heap.size→W1.heap[k]? =W.heap[k]?):FK d W1 ok x c:=gJ.step h hm
theorem tY (h:d.M W base ok x c):FK d W ok x c:=fun _ hW=>d.eF (qw h hW)
end
end Kd
end WW.bk
namespace WW.bk
open Go.RowKit
namespace Kd
def chunks (sz:Nat) (n:Nat) (inner:List Value):List (List Value):=(List.range n).map fun j=>(inner.drop (j*sz)).take sz
theorem mL (sz n:Nat) (inner:List Value):(chunks sz n inner).length=n:=by simp[chunks]
theorem vB {sz n:Nat} {inner:List Value} {j:Nat} (hj:j<n):(chunks sz n inner)[j]? =some ((inner.drop (j*sz)).take sz):=by simp[chunks,hj]
theorem rb {sz n:Nat} {inner:List Value} {j:Nat} {c:List Value} (h:(chunks sz n inner)[j]? =some c):c=(inner.drop (j*sz)).take sz:=by
  have hj:j<n:=by have:=(List.getElem?_eq_some_iff.1 h).1;rwa [mL]at this
  rw[vB hj]at h;injection h with h;exact h.symm
theorem yh {α:Type} {Rr:α→List Value→Prop} {sz:Nat} {xs:List α} {inner:List Value} (h:aY Rr sz xs inner) (hR:∀x c,Rr x c→c.length=sz∧∀u∈c,u.oneCell'=true):aY (fun x cs=>cs=x∧cs.length=sz∧∀u∈cs,u.oneCell'=true) sz (chunks sz xs.length inner) inner:=by
  refine⟨by rw[mL];exact h.1,fun j p hj=> ?_⟩;have hjl:j<xs.length:=by have:=(List.getElem?_eq_some_iff.1 hj).1;rwa [mL]at this
  have hp:=rb hj;exact⟨hp.symm,hR _ _ (h.2 j _ (List.getElem?_eq_getElem hjl))⟩
section
variable {α:Type} {d:Kd α} {e base n cc g:Nat} {ok ok' bN S:Nat→Prop} {w w1 W W1:World} {A:Option Addr} {u v v1:Value} {xs:List α} {x:α} {c:List Value}
def N {α:Type} (d:Kd α) (e:Nat) (w:World) (base:Nat) (ok:Nat→Prop) (v:Value) (xs:List α):Prop:=
  (∀k,v.ownBlock=some k→ok k)∧∃rows:List (List Value),rows.length=xs.length∧(raw d.sz).R e w base (fun k=>some k=v.ownBlock) v rows∧∀(j:Nat) (x:α) (c:List Value),xs[j]? =some x→rows[j]? =some c→FK d w (fun k=>ok k∧some k≠v.ownBlock) x c
theorem uy (h:d.R e w base ok v xs):N d e w base ok v xs:=by
  obtain⟨h0,inner,ho,hr⟩:=h;refine⟨h0,chunks d.sz xs.length inner,mL _ _ _,⟨fun k hk=>hk.symm,inner,by rw[mL];exact ho,yh hr (fun x c hp=>⟨d.fV (d.eF hp),d.fN (d.eF hp)⟩)⟩,fun j x c hx hc=> ?_⟩;rw[rb hc];exact tY (hr.2 j x hx)
theorem o0 (d:Kd α) (e:Nat) (w:World) (base:Nat) (ok:Nat→Prop):N d e w base ok (.slice none 0 0) []:=uy (bl _ _ _ _ _)
theorem uk (h:N d e w base ok v xs) (hm:∀k,ok k→k<w.heap.size→w1.heap[k]? =w.heap[k]?):N d e w1 base ok v xs:=by
  obtain⟨h0,rows,hl,hR,hf⟩:=h;exact⟨h0,rows,hl,lQ hR (fun k hk hlt=>hm k (h0 k hk.symm) hlt),fun j x c hx hc=>tZ (hf j x c hx hc) (fun k hk hlt=>hm k hk.1 hlt)⟩
theorem oZ (h:N d e w base ok v xs) (hb:Below w.heap.size w w1):N d e w1 base ok v xs:=uk h (fun k _ hk=>hb.block k hk)
theorem uh (h:N d e w base ok v xs) (o:Obj):N d e (w.alloc o) base ok v xs:=oZ h (bO (Below.refl _ _) o)
theorem ui (h:N d e w base ok v xs):N d e w.drew base ok v xs:=oZ h (lS (Below.refl _ _))
theorem uj (h:N d e w base ok v xs) (m:Nat):N d e (w.drewN m) base ok v xs:=oZ h (cN (Below.refl _ _) m)
end
end Kd
end WW.bk


namespace WW.bk
open Go.RowKit
section
variable {P:Program} {d:Nat} {xs ys:Array Value} {f:Field} {fs:List Field} {a b:Value} {r s:Bool} {w:World}
theorem rk (hn:(f.name== "_")=false) (ha:(part f.type xs f.offset).run P w= .ok a w) (hb:(part f.type ys f.offset).run P w= .ok b w) (he:(Op.equalIn d f.type a b).run P w= .ok r w):(Op.eqFields d xs ys [f]).run P w= .ok r w:=by
  have hn':f.name≠ "_" :=by simpa using hn
  simp only[Op.eqFields,aq hn',Sem.run_bind,ha,hb,he,Result.andThen_ok];cases r<;>simp
theorem n4 (hn:(f.name== "_")=false) (ha:(part f.type xs f.offset).run P w= .ok a w) (hb:(part f.type ys f.offset).run P w= .ok b w) (he:(Op.equalIn d f.type a b).run P w= .ok r w) (hr:(Op.eqFields d xs ys fs).run P w= .ok s w):(Op.eqFields d xs ys (f::fs)).run P w= .ok (r&&s) w:=by
  have hn':f.name≠ "_" :=by simpa using hn
  rw[Op.eqFields];simp only[aq hn',Sem.run_bind,ha,hb,he,Result.andThen_ok];cases r
  · simp
  · simpa using hr
theorem rj {t:TypeId} {fs:Array Field} (hu:P.underlying t=some (.struct fs)) (hp:P.stoodInHeld t=false) (h:(Op.eqFields d xs ys fs.toList).run P w= .ok r w):(Op.equalIn (d+1) t (.agg xs) (.agg ys)).run P w= .ok r w:=by
  have hf:P.fieldsOf t=fs:=by simp[Program.fieldsOf,hu]
  rw[run_equalIn_struct (P:=P) w d t xs ys (by rw[hf];exact hu) hp,hf];exact h
end
end WW.bk
namespace WW.bk
theorem aY.one {α:Type} {R:α→List Value→Prop} {ps:List α} {cs:List Value} {p:α} {v:Value} (hp:R p [v]) (h:aY R 1 ps cs):aY R 1 (p::ps) (v::cs):=by
  refine⟨by simp[h.1],fun j q hq=> ?_⟩;cases j with
  |zero=>
   simp only[List.getElem?_cons_zero,Option.some.injEq]at hq;subst hq;simpa using hp
  |succ j=>
   simp only[List.getElem?_cons_succ]at hq;have h1:=h.2 j q hq;simpa[Nat.mul_one]using h1
theorem aY.front {α:Type} {R:α→List Value→Prop} {size:Nat} {ps:List α} {cs c all:List Value} {p:α} (hp:R p c) (hc:c.length=size) (h:aY R size ps cs) (ha:c++cs=all):aY R size (p::ps) all:=by
  subst ha;refine⟨by rw[List.length_append,hc,h.1,List.length_cons,Nat.succ_mul,Nat.add_comm],fun j q hq=> ?_⟩;cases j with
  |zero=>
   simp only[List.getElem?_cons_zero,Option.some.injEq]at hq;subst hq;rw[Nat.zero_mul,List.drop_zero,List.take_append_of_le_length (by omega),List.take_of_length_le (by omega)];exact hp
  |succ j=>
   simp only[List.getElem?_cons_succ]at hq;have h1:=h.2 j q hq;rw[Nat.succ_mul,List.drop_append,List.drop_of_length_le (by rw[hc];exact Nat.le_add_left _ _),List.nil_append,hc,Nat.add_sub_cancel];exact h1
theorem aY.c2 {α:Type} {R:α→List Value→Prop} {ps:List α} {cs:List Value} {p:α} {va vb:Value} (hp:R p [va,vb]) (h:aY R 2 ps cs):aY R 2 (p::ps) (va::vb::cs):=aY.front hp rfl h rfl
theorem aY.c3 {α:Type} {R:α→List Value→Prop} {ps:List α} {cs:List Value} {p:α} {va vb vc:Value} (hp:R p [va,vb,vc]) (h:aY R 3 ps cs):aY R 3 (p::ps) (va::vb::vc::cs):=aY.front hp rfl h rfl
theorem aY.c4 {α:Type} {R:α→List Value→Prop} {ps:List α} {cs:List Value} {p:α} {va vb vc vd:Value} (hp:R p [va,vb,vc,vd]) (h:aY R 4 ps cs):aY R 4 (p::ps) (va::vb::vc::vd::cs):=aY.front hp rfl h rfl
theorem aY.c5 {α:Type} {R:α→List Value→Prop} {ps:List α} {cs:List Value} {p:α} {va vb vc vd u:Value} (hp:R p [va,vb,vc,vd,u]) (h:aY R 5 ps cs):aY R 5 (p::ps) (va::vb::vc::vd::u::cs):=aY.front hp rfl h rfl
theorem aY.c6 {α:Type} {R:α→List Value→Prop} {ps:List α} {cs:List Value} {p:α} {va vb vc vd u vf:Value} (hp:R p [va,vb,vc,vd,u,vf]) (h:aY R 6 ps cs):aY R 6 (p::ps) (va::vb::vc::vd::u::vf::cs):=aY.front hp rfl h rfl
theorem aY.c7 {α:Type} {R:α→List Value→Prop} {ps:List α} {cs:List Value} {p:α} {va vb vc vd u vf z:Value} (hp:R p [va,vb,vc,vd,u,vf,z]) (h:aY R 7 ps cs):aY R 7 (p::ps) (va::vb::vc::vd::u::vf::z::cs):=aY.front hp rfl h rfl
theorem aY.c8 {α:Type} {R:α→List Value→Prop} {ps:List α} {cs:List Value} {p:α} {va vb vc vd u vf z D:Value} (hp:R p [va,vb,vc,vd,u,vf,z,D]) (h:aY R 8 ps cs):aY R 8 (p::ps) (va::vb::vc::vd::u::vf::z::D::cs):=aY.front hp rfl h rfl
theorem aY.c9 {α:Type} {R:α→List Value→Prop} {ps:List α} {cs:List Value} {p:α} {va vb vc vd u vf z D vi:Value} (hp:R p [va,vb,vc,vd,u,vf,z,D,vi]) (h:aY R 9 ps cs):aY R 9 (p::ps) (va::vb::vc::vd::u::vf::z::D::vi::cs):=aY.front hp rfl h rfl
theorem aY.c10 {α:Type} {R:α→List Value→Prop} {ps:List α} {cs:List Value} {p:α} {va vb vc vd u vf z D vi vj:Value} (hp:R p [va,vb,vc,vd,u,vf,z,D,vi,vj]) (h:aY R 10 ps cs):aY R 10 (p::ps) (va::vb::vc::vd::u::vf::z::D::vi::vj::cs):=aY.front hp rfl h rfl
end WW.bk


namespace WW.bk
open Go.RowKit
section
variable {P:Program} {ops:Array Oper} {rest:List Oper} {o:Oper} {a:Act} {Q:Exit→Act→World→Prop} {W:World}
theorem ke (hw:Region.wanted o (yielded ops a.tmps)=true) (h:wpList P ops Q ({o with guard:=none}::rest) a W):wpList P ops Q (o::rest) a W:=by
  have h1:Region.wanted {o with guard:=none} (yielded ops a.tmps)=true:=rfl;unfold wpList at h ⊢;rw[aq h1]at h;rw[aq hw];exact h
end
end WW.bk

namespace WW.b6
open Go.RowKit WW.bk
theorem cR (k k':IntKind) (x y:Int):Builtin.max2 (.int k x) (.int k' y)=pure (.int k (if x<y then y else x)):=by simp only[Builtin.max2,gt_iff_lt]
theorem cV (k k':IntKind) (x y:Int):Builtin.min2 (.int k x) (.int k' y)=pure (.int k (if y<x then y else x)):=by simp only[Builtin.min2]
theorem cU (ats:Array TypeId) (ty:TypeId) (a b:Value):Builtin.max_ ats ty #[a,b]=(Builtin.max2 a b>>= fun s=>pure s):=by simp only[Builtin.max_,List.foldlM_cons,List.foldlM_nil]
theorem cY (ats:Array TypeId) (ty:TypeId) (a b:Value):Builtin.min_ ats ty #[a,b]=(Builtin.min2 a b>>= fun s=>pure s):=by simp only[Builtin.min_,List.foldlM_cons,List.foldlM_nil]
theorem cT (ats:Array TypeId) (ty:TypeId) (a b c:Value):Builtin.max_ ats ty #[a,b,c]=(Builtin.max2 a b>>= fun s=>Builtin.max2 s c>>= fun s=>pure s):=by simp only[Builtin.max_,List.foldlM_cons,List.foldlM_nil]
theorem cX (ats:Array TypeId) (ty:TypeId) (a b c:Value):Builtin.min_ ats ty #[a,b,c]=(Builtin.min2 a b>>= fun s=>Builtin.min2 s c>>= fun s=>pure s):=by simp only[Builtin.min_,List.foldlM_cons,List.foldlM_nil]
theorem cS (ats:Array TypeId) (ty:TypeId) (a b c d:Value):Builtin.max_ ats ty #[a,b,c,d]=(Builtin.max2 a b>>= fun s=>Builtin.max2 s c>>= fun s=>Builtin.max2 s d>>= fun s=>pure s):=by simp only[Builtin.max_,List.foldlM_cons,List.foldlM_nil]
theorem cW (ats:Array TypeId) (ty:TypeId) (a b c d:Value):Builtin.min_ ats ty #[a,b,c,d]=(Builtin.min2 a b>>= fun s=>Builtin.min2 s c>>= fun s=>Builtin.min2 s d>>= fun s=>pure s):=by simp only[Builtin.min_,List.foldlM_cons,List.foldlM_nil]
end WW.b6
namespace WW.bk
open Go.RowKit
section
variable {P:Program} {ops:Array Oper} {rest:List Oper} {o:Oper} {a:Act} {Q:Exit→Act→World→Prop} {W:World}
theorem bC {f:FuncId} {as:Array Operand} {ts:Array TypeId} (u:o.op= .call {callee:= .value (.func f),args:=as,argTypes:=ts}) (h:wpList P ops Q (o::rest) a W):wpList P ops Q (o::rest) a W:=h
theorem iF {b:Builtin} {xs:Array Operand} {ts:Array TypeId} (u:o.op= .call {callee:= .builtin b,args:=xs,argTypes:=ts}) (h:wpList P ops Q (o::rest) a W):wpList P ops Q (o::rest) a W:=h
end
def mx (a b:Int):Int:=if a<b then b else a
end WW.bk
namespace WW.bk
open Go.RowKit
namespace Kd
def V {α:Type} (d:Kd α) (z:Nat) (W:World) (u:Nat) (ok:Nat→Prop) (v:Value) (xs:List α):Prop:=∃A c,v= .slice A xs.length c∧xs.length≤c∧F d W ok A xs.length xs
section
variable {α β:Type} {d:Kd α} {e base base' n m c g N' lo hi:Nat} {ok ok' S:Nat→Prop} {w W w1:World} {A:Option Addr} {ad:Addr} {u v v1:Value} {xs:List α}
theorem pj (h:V d e W base ok v xs) (hF:∀A,F d W ok A xs.length xs→F d w1 ok' A xs.length xs):V d e w1 base' ok' v xs:=by
  obtain⟨A,c,hv,hl,hf⟩:=h;exact⟨A,c,hv,hl,hF A hf⟩
theorem pk (d:Kd α) (e:Nat) (W:World) (base:Nat) (ok:Nat→Prop):V d e W base ok (.slice none 0 0) []:=⟨none,0,rfl,Nat.le_refl _,ud d W ok⟩
theorem uQ (h:V d e W base ok v xs) (o:Obj):V d e (W.alloc o) base ok v xs:=pj h (fun _ hf=>t_ hf o)
theorem uR (h:V d e W base ok v xs):V d e W.drew base ok v xs:=pj h (fun _ hf=>ua hf)
theorem uS (h:V d e W base ok v xs) (m:Nat):V d e (W.drewN m) base ok v xs:=pj h (fun _ hf=>ub hf m)
end
end Kd
end WW.bk

namespace WW.bk
open Go.RowKit
theorem oB {w0 w W:World} (_:ae (Below w0.heap.size w0 w)) [h:ae (Below w0.heap.size w0 W)]:Below w0.heap.size w0 W:=h.out
end WW.bk
namespace WW.bk
open Go.RowKit
instance {w0 w:World} {o:Obj} [h:ae (Below w0.heap.size w0 w)]:ae (Below w0.heap.size w0 (w.alloc o)):=⟨by apply bO;exact h.out⟩
instance {n:Nat} {w0 w:World} [h:ae (Below w0.heap.size w0 w)]:ae (Below w0.heap.size w0 (w.drewN n)):=⟨by apply cN;exact h.out⟩
instance {w0 w:World} [h:ae (Below w0.heap.size w0 w)]:ae (Below w0.heap.size w0 w.drew):=⟨by apply cg;exact h.out⟩
instance {g j:Nat} {w0 w:World} {u:Value} [h:ae (Below w0.heap.size w0 w)] [h2:ae (w0.heap.size≤g)]:ae (Below w0.heap.size w0 (w.setCell ⟨g,j,none⟩ u)):=⟨by refine dA ?_ h2.out;exact h.out⟩
instance {α:Type} {d:Kd α} {e base:Nat} {w:World} {ok:Nat→Prop} {v:Value} {xs:List α} {o:Obj} [h:ae (Kd.R d e w base ok v xs)]:ae (Kd.R d e (w.alloc o) base ok v xs):=⟨by apply Kd.fg;exact h.out⟩
instance {α:Type} {d:Kd α} {e base:Nat} {w:World} {ok:Nat→Prop} {v:Value} {xs:List α} {n:Nat} [h:ae (Kd.R d e w base ok v xs)]:ae (Kd.R d e (w.drewN n) base ok v xs):=⟨by apply Kd.fX;exact h.out⟩
instance {α:Type} {d:Kd α} {e base:Nat} {w:World} {ok:Nat→Prop} {v:Value} {xs:List α} [h:ae (Kd.R d e w base ok v xs)]:ae (Kd.R d e w.drew base ok v xs):=⟨by apply Kd.dH;exact h.out⟩
instance {α:Type} {d:Kd α} {e base:Nat} {w:World} {ok:Nat→Prop} {v:Value} {xs:List α} {o:Obj} [h:ae (Kd.S d e w base ok v xs)]:ae (Kd.S d e (w.alloc o) base ok v xs):=⟨by apply Kd.uJ;exact h.out⟩
instance {α:Type} {d:Kd α} {e base:Nat} {w:World} {ok:Nat→Prop} {v:Value} {xs:List α} {n:Nat} [h:ae (Kd.S d e w base ok v xs)]:ae (Kd.S d e (w.drewN n) base ok v xs):=⟨by apply Kd.uM;exact h.out⟩
instance {α:Type} {d:Kd α} {e base:Nat} {w:World} {ok:Nat→Prop} {v:Value} {xs:List α} [h:ae (Kd.S d e w base ok v xs)]:ae (Kd.S d e w.drew base ok v xs):=⟨by apply Kd.uL;exact h.out⟩
instance {α:Type} {d:Kd α} {e base:Nat} {w:World} {ok:Nat→Prop} {v:Value} {xs:List α} {o:Obj} [h:ae (Kd.N d e w base ok v xs)]:ae (Kd.N d e (w.alloc o) base ok v xs):=⟨by apply Kd.uh;exact h.out⟩
instance {α:Type} {d:Kd α} {e base:Nat} {w:World} {ok:Nat→Prop} {v:Value} {xs:List α} {n:Nat} [h:ae (Kd.N d e w base ok v xs)]:ae (Kd.N d e (w.drewN n) base ok v xs):=⟨by apply Kd.uj;exact h.out⟩
instance {α:Type} {d:Kd α} {e base:Nat} {w:World} {ok:Nat→Prop} {v:Value} {xs:List α} [h:ae (Kd.N d e w base ok v xs)]:ae (Kd.N d e w.drew base ok v xs):=⟨by apply Kd.ui;exact h.out⟩
instance {α:Type} {d:Kd α} {e base:Nat} {w:World} {ok:Nat→Prop} {v:Value} {xs:List α} {o:Obj} [h:ae (Kd.V d e w base ok v xs)]:ae (Kd.V d e (w.alloc o) base ok v xs):=⟨by apply Kd.uQ;exact h.out⟩
instance {α:Type} {d:Kd α} {e base:Nat} {w:World} {ok:Nat→Prop} {v:Value} {xs:List α} {n:Nat} [h:ae (Kd.V d e w base ok v xs)]:ae (Kd.V d e (w.drewN n) base ok v xs):=⟨by apply Kd.uS;exact h.out⟩
instance {α:Type} {d:Kd α} {e base:Nat} {w:World} {ok:Nat→Prop} {v:Value} {xs:List α} [h:ae (Kd.V d e w base ok v xs)]:ae (Kd.V d e w.drew base ok v xs):=⟨by apply Kd.uR;exact h.out⟩
instance {α:Type} {d:Kd α} {e base:Nat} {w:World} {ok:Nat→Prop} {v:Value} {xs:List α} {o:Obj} [h:ae (Kd.Q d e w base ok v xs)]:ae (Kd.Q d e (w.alloc o) base ok v xs):=⟨by apply Kd.um;exact h.out⟩
instance {α:Type} {d:Kd α} {e base:Nat} {w:World} {ok:Nat→Prop} {v:Value} {xs:List α} {n:Nat} [h:ae (Kd.Q d e w base ok v xs)]:ae (Kd.Q d e (w.drewN n) base ok v xs):=⟨by apply Kd.ur;exact h.out⟩
instance {α:Type} {d:Kd α} {e base:Nat} {w:World} {ok:Nat→Prop} {v:Value} {xs:List α} [h:ae (Kd.Q d e w base ok v xs)]:ae (Kd.Q d e w.drew base ok v xs):=⟨by apply Kd.uq;exact h.out⟩
theorem bP {α:Type} {d:Kd α} {n:Nat} {w:World} {A:Option Addr} {xs:List α} {w1:World} (h:Kd.C d w A n xs) [hb:ae (Below w.heap.size w w1)]:Kd.C d w1 A n xs:=Kd.lL h hb.out
theorem oR {α:Type} {d:Kd α} {e base:Nat} {w W:World} {ok:Nat→Prop} {v:Value} {xs:List α} (_:ae (Kd.R d e w base ok v xs)) [h:ae (Kd.R d e W base ok v xs)]:Kd.R d e W base ok v xs:=h.out
theorem oS {α:Type} {d:Kd α} {e base:Nat} {w W:World} {ok:Nat→Prop} {v:Value} {xs:List α} (_:ae (Kd.S d e w base ok v xs)) [h:ae (Kd.S d e W base ok v xs)]:Kd.S d e W base ok v xs:=h.out
theorem oN {α:Type} {d:Kd α} {e base:Nat} {w W:World} {ok:Nat→Prop} {v:Value} {xs:List α} (_:ae (Kd.N d e w base ok v xs)) [h:ae (Kd.N d e W base ok v xs)]:Kd.N d e W base ok v xs:=h.out
theorem oV {α:Type} {d:Kd α} {e base:Nat} {w W:World} {ok:Nat→Prop} {v:Value} {xs:List α} (_:ae (Kd.V d e w base ok v xs)) [h:ae (Kd.V d e W base ok v xs)]:Kd.V d e W base ok v xs:=h.out
theorem oQ {α:Type} {d:Kd α} {e base:Nat} {w W:World} {ok:Nat→Prop} {v:Value} {xs:List α} (_:ae (Kd.Q d e w base ok v xs)) [h:ae (Kd.Q d e W base ok v xs)]:Kd.Q d e W base ok v xs:=h.out
theorem oK {w W:World} {g:Nat} {ob:Obj} (_:ae (w.heap[g]? =some ob)) [h:ae (W.heap[g]? =some ob)]:W.heap[g]? =some ob:=h.out
instance {w:World} {g:Nat} {ob o:Obj} [h:ae (w.heap[g]? =some ob)]:ae ((w.alloc o).heap[g]? =some ob):=⟨by refine bu ?_ _;exact h.out⟩
instance {w:World} {g n:Nat} {ob:Obj} [h:ae (w.heap[g]? =some ob)]:ae ((w.drewN n).heap[g]? =some ob):=⟨by refine bG ?_ _;exact h.out⟩
instance {w:World} {g:Nat} {ob:Obj} [h:ae (w.heap[g]? =some ob)]:ae (w.drew.heap[g]? =some ob):=⟨by refine bz ?_;exact h.out⟩
end WW.bk

end Go.Proofs.YtanhnhkcpbdfmaaGreat
