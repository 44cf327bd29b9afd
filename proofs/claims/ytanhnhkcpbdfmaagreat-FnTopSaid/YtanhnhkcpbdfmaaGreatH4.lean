/- What functions of the program come to (f), that their calls come to just this (calls), and the plain laws over lists and numbers. No condition but those of the given row. -/
import Derived.Test.YtanhnhkcpbdfmaaGreatH3
import Derived.Deep.RegionHeld3
import Derived.Shelf.GgSortFunc.Insertion
import Derived.Sort.WalkA6
import Derived.Sort.WalkC
import Derived.Sort.LotC
import Derived.Shelf.SlSortFuncK.PdqK
import Derived.RangeFuncBox
set_option linter.unusedVariables false
set_option linter.unusedSimpArgs false
namespace Go.Proofs.YtanhnhkcpbdfmaaGreat
namespace Q
open Go.RowKit P WW.bk WW.b6
theorem vP (l:List ah) (x:ah) (p:bL):fH (l++[x]) p=if p=x.f0 then x.f1 else fH l p:=by
  unfold fH;rw[pJ];by_cases h:p=x.f0<;>simp[h]
theorem sy {p q:bL}:p=q↔p.f0=q.f0∧p.f1=q.f1:=by
  obtain⟨a,b⟩:=p;obtain⟨c,d⟩:=q;simp
theorem vR (l:List ah) (a b:Int) (hl:l.length≤1048577):Ev (fun k=>dE.f k l a b) (if cI l=true then fH l ⟨a,b⟩else 0):=by
  have u:=ov l hl;by_cases h0:cI l=true;rotate_left
  · rw[au h0];replace h0:=Bool.eq_false_iff.mpr h0;rw[h0]at u;unfold dE.f;by_cases hz:l.length=0
    · have:l=[]:=List.length_eq_zero_iff.mp hz;subst this;exact absurd h0 (by decide)
    refine Ev.step (fun k=>by rw[dE.l0]) (ar (by omega) (Ev.bind u ?_));exact Ev.step (fun k=>by rw[dE.j1]) (aI (by decide) (evs rfl))
  rw[aq h0];rw[h0]at u
  have key:∀i,i≤l.length→Ev (fun k=>dE.l0 k l (fH (l.take i) ⟨a,b⟩) (i:Int) a b) (fH l ⟨a,b⟩):=by
    refine down (n:=l.length) ?_ ?_
    · refine Ev.step (fun k=>by rw[dE.l0]) (aI (by omega) ?_);exact Ev.step (fun k=>by rw[dE.j1]) (aI (by decide) (evs (by rw[List.take_length])))
    · intro i hi ih;refine Ev.step (fun k=>by rw[dE.l0]) (ar (by omega) (Ev.bind u ?_));refine Ev.step (fun k=>by rw[dE.j1]) (ar rfl (ar (by omega) (ar (by omega) ?_)));rw[lz l i hi,bW (n:=(i:Int)+1) (by omega) (by omega)];rw[List.take_succ_eq_append_getElem hi,vP]at ih;by_cases he:(⟨a,b⟩:bL)=l[i].f0
      · rw[aq he]at ih;obtain⟨e1,e2⟩:=sy.mp he;simp only at e1 e2;exact ar (by simp[←e1,←e2]) ih
      · rw[au he]at ih;refine aI ?_ ih;intro hh;simp only[Bool.and_eq_true,beq_iff_eq]at hh;exact he (sy.mpr ⟨hh.1.symm,hh.2.symm⟩)
  exact key 0 (Nat.zero_le _)
theorem vQ (l:List ah) (a b:Int) (ha:P.bY a) (hb:P.bY b) (hl:l.length≤1048577):ib.f l a b=some (if cI l=true then fH l ⟨a,b⟩else 0):=by
  unfold ib.f;rw[aq ⟨ha,hb,hl⟩]
end Q
namespace P
open Go.RowKit WW.bk
theorem wS {l:List ah} (h:Q.cI l=true):l.length≤30∧(∀x∈l,bY x.f0.f0∧bY x.f0.f1)∧∀x∈l,0≤x.f1∧x.f1≤2:=by
  have h1:l.length≤30:=by simp[Q.cI]at h;exact h.2
  have h2:Q.e6 0 l=true:=by simp[Q.cI]at h;exact h.1
  have key:∀(l:List ah) (p:Int),Q.e6 p l=true→∀x∈l,(bY x.f0.f0∧bY x.f0.f1)∧0≤x.f1∧x.f1≤2:=by
    intro l
    induction l with
    |nil=>intro p _ x hx;cases hx
    |cons e r ih=>
     intro p h x hx;simp only[Q.e6,Bool.and_eq_true]at h;rcases List.mem_cons.1 hx with rfl|hx
     · have:=h.1;simp[Q.lV]at this;exact⟨⟨kH (by omega) (by omega),kH (by omega) (by omega)⟩,by omega,by omega⟩
     · exact ih _ h.2.2 x hx
  exact⟨h1,fun x hx=>(key l 0 h2 x hx).1,fun x hx=>(key l 0 h2 x hx).2⟩
end P
namespace P
open Go.RowKit WW.bk WW.b_ WW.b6 V
open Go.Maps (Keyed)
attribute [local go_sem] dC dD
structure Found (m:bL→Option ah) (left:Lit→Bool) (xs:List ah):Prop where
  all:∀x∈xs,m x.f0=some x∧x.f1≠0∧bY x.f0.f0∧bY x.f0.f1∧left (e7 x.f0.f0 x.f0.f1)=false
  nodup:xs.Pairwise (fun a b=>a.f0≠b.f0)
  got:∀(p:bL) (x:ah),bY p.f0→bY p.f1→m p=some x→x.f1≠0→left (e7 p.f0 p.f1)=false→x∈xs
theorem Found.step {m:bL→Option ah} {left:Lit→Bool} {xs:List ah} (h:Found m left xs) (c:ah) (h0:bY c.f0.f0) (h1:bY c.f0.f1) (hm:m c.f0=some c)
    (hl:left (e7 c.f0.f0 c.f0.f1)=true):Found m (fun z=>left z&& !z.sameKey (e7 c.f0.f0 c.f0.f1)) (if c.f1≠0 then xs++[c]else xs):=by
  have hk:=lv.key (ln h0 h1);have D:(e7 c.f0.f0 c.f0.f1).sameKey (e7 c.f0.f0 c.f0.f1)=true:=WideAt.sameKey_self hk
  have hold:∀p x,bY p.f0→bY p.f1→m p=some x→x.f1≠0→(left (e7 p.f0 p.f1)&& !(e7 p.f0 p.f1).sameKey (e7 c.f0.f0 c.f0.f1))=false→x∈xs∨x=c:=by
    intro p x p0 p1 hp hx hf;rw[Bool.and_eq_false_iff]at hf;rcases hf with hf|hf
    · exact .inl (h.got p x p0 p1 hp hx hf)
    · by_cases he:e7 p.f0 p.f1=e7 c.f0.f0 c.f0.f1
      · obtain⟨e0,e1⟩:=su p0 p1 h0 h1 he
        have:p=c.f0:=by
          obtain⟨a,b⟩:=p;obtain⟨⟨u,v⟩,_,_⟩:=c;simp only at e0 e1;rw[e0,e1]
        subst this;rw[hm]at hp;exact .inr (aC hp).symm
      · rw[Maps.sameKey_ne he]at hf;cases hf
  by_cases hc:c.f1≠0
  · rw[aq hc];refine⟨fun x hx=> ?_,?_,fun p x p0 p1 hp hx hf=> ?_⟩
    · rcases List.mem_append.1 hx with hx|hx
      · obtain⟨a,b,u,v,w⟩:=h.all x hx;exact⟨a,b,u,v,by rw[w];rfl⟩
      · rw[List.mem_singleton]at hx;subst hx;exact⟨hm,hc,h0,h1,by rw[D];simp⟩
    · refine List.pairwise_append.2 ⟨h.nodup,List.pairwise_singleton _ _,fun a ha b hb e=> ?_⟩;rw[List.mem_singleton]at hb;subst hb;have:=(h.all a ha).2.2.2.2;rw[e,hl]at this;cases this
    · rcases hold p x p0 p1 hp hx hf with h'|h'
      · exact List.mem_append_left _ h'
      · rw[h'];simp
  · rw[au hc];refine⟨fun x hx=> ?_,h.nodup,fun p x p0 p1 hp hx hf=> ?_⟩
    · obtain⟨a,b,u,v,w⟩:=h.all x hx;exact⟨a,b,u,v,by rw[w];rfl⟩
    · rcases hold p x p0 p1 hp hx hf with h'|h'
      · exact h'
      · rw[h']at hx;exact absurd hx hc
theorem wW {D:DataW Unit} {m:bL→Option ah} (h:jU D m) {p:bL} (h0:bY p.f0) (h1:bY p.f1) {c:ah} (hat:∀zd,D.atKey (e7 p.f0 p.f1) zd=ig c):m p=some c:=by
  cases hm:m p with
  |none=>
   have a:=(h.at_ p h0 h1 (.map [])).symm.trans (hat _);rw[hm]at a;exact absurd a (by simp[ig])
  |some x=>
   have a:=(h.at_ p h0 h1 (.map [])).symm.trans (hat _);rw[hm]at a;exact congrArg some (pS a)
end P
namespace P
set_option maxHeartbeats 8000000
set_option maxRecDepth 100000
open Go.RowKit WW.bk WW.b_ WW.b6
attribute [local go_sem] cR cV cU cY cT cX cS cW
def mi.f (k:Nat) (l0:List (ah)):Option (Int×Int×Bool):=(bA.f k l0).bind fun u=>(if(u.length:Int)=0 then(some (0,0,false))else(if 0<(u.length:Int)then(some ((av u 0).f0.f0,(av u 0).f0.f1,true))else(none)))
theorem mi.c (k:Nat) (V:Option Addr) (c0:Nat) (l0:List (ah)) (r1:Int) (r2:Int) (r3:Bool) (w:World) (ao:Kd.C aT w V l0.length l0) (hc0:l0.length≤c0) (h:mi.f k l0=some (r1,r2,r3)):
  Calls Tryz.prog 101 #[.slice V l0.length c0] w fun e w'=>e= .returned (.tuple #[.agg #[.int .i64 r1,.int .i64 r2],.bool r3])∧Below w.heap.size w w':=by
 have a1:=Tryz.underlying74;have am:=A_ ao;have al:=A_ hc0;clear ao hc0;have z:=A_ (Below.refl w.heap.size w);have H:((bA.f k l0).bind fun u=>(if(u.length:Int)=0 then(some (0,0,false))else(if 0<(u.length:Int)then(some ((av u 0).f0.f0,(av u 0).f0.f1,true))else(none))))=some (r1,r2,r3):=h;clear h;replace H:=az H;obtain⟨u,ak,H⟩:=H
 (try dsimp only at H)
 have A2:=A_ ak;clear ak;by_cases c3:(u.length:Int)=0
 ·rw[aq c3]at H;have aw:((u.length:Int)==0)=true:=beq_iff_eq.mpr c3;have aB:((u.length:Int) != 0)=false:=bne_eq_false_iff_eq.mpr c3;clear c3;simp only[Option.some.injEq,Prod.mk.injEq]at H;obtain⟨rfl,rfl,rfl⟩:=H;go_enter Tryz.func101,Tryz.ntmps101
  go_wp2_with (first|((with_reducible refine aJ (N:=2) rfl ?_);refine bX (N:=2) (cs:= #[.int .i64 0,.int .i64 0]) (t:=74) ?_;intro J hg w4 K hb;have F:=A_ (bn (oB z) hb);have G:=A_ (K);have I:=A_ ((by rw[hg];exact(bm (oB z)):w.heap.size≤J));have U:=A_ ((by rw[hg];exact(bm (oB z)):w.heap.size≤J));clear z;have z:=F;have D:=G;have ar:=I;have ap:=U;clear F G I U hb K hg)|((with_reducible refine bC (f:=128) rfl ?_);refine gL (some 6) Tryz.func128 #[.slice V l0.length c0] ?_;(with_reducible refine(bA.c k _ _ l0 u _ ?bc ?bf A2.out).mono ?_);(case bc=>exact bP am.out);(case bf=>exact al.out);rintro e a4 ⟨aG,rfl,O,hb⟩;refine⟨_,rfl,?_⟩;have F:=A_ (Kd.dg O (bm (oB z)));have G:=A_ (bb D hb);have I:=A_ (bn (oB z) hb);clear D z;have X:=F;have D:=G;have z:=I;clear F G I;(try clear hb);(try clear hb2);(try clear hk);(try clear hi);(try clear O);obtain⟨aI,aQ,aF⟩:=Kd.dz X.out;subst aF;have aU:=cz D 0;have aV:=cz D 1;have aY:=aK D.out 0;have a0:=aK D.out 1))
  refine bodyPost_ret (eu rfl _ _ J 74 #[.int .i64 0,.int .i64 0] (0,0) _ rfl (by(with_reducible repeat(first|refine bG ?_ _|refine bz ?_|refine bu ?_ _));refine cr (cs:= #[.int .i64 0,.int .i64 0]) ?_ 1 _ rfl;(with_reducible repeat(first|refine bG ?_ _|refine bz ?_|refine bu ?_ _));refine cr (cs:= #[.int .i64 0,.int .i64 0]) ?_ 0 _ rfl;(with_reducible repeat(first|refine bG ?_ _|refine bz ?_|refine bu ?_ _));exact D.out) Tryz.underlying74 rfl (by kernel_rfl)) rfl ?_;exact⟨eR,oB z⟩
 ·rw[au c3]at H;have aw:((u.length:Int)==0)=false:=beq_eq_false_iff_ne.mpr c3;have aB:((u.length:Int) != 0)=true:=bne_iff_ne.mpr c3;have aM:¬(u=[]):=fun h_=>c3 (by rw[h_];rfl);by_cases c8:0<(u.length:Int)
  ·rw[aq c8]at H;have aN:decide (0<(u.length:Int))=true:=ag c8;have aO:decide (0<u.length)=true:=ag (by omega);clear c8;simp only[Option.some.injEq,Prod.mk.injEq]at H;obtain⟨rfl,rfl,rfl⟩:=H;go_enter Tryz.func101,Tryz.ntmps101
   go_wp2_with (first|((with_reducible refine aJ (N:=2) rfl ?_);refine bX (N:=2) (cs:= #[.int .i64 0,.int .i64 0]) (t:=74) ?_;intro J hg a5 K hb;have F:=A_ (bn (oB z) hb);have G:=A_ (K);have I:=A_ ((by rw[hg];exact(bm (oB z)):w.heap.size≤J));have U:=A_ ((by rw[hg];exact(bm (oB z)):w.heap.size≤J));clear z;have z:=F;have D:=G;have ar:=I;have ap:=U;clear F G I U hb K hg)|((with_reducible refine bC (f:=128) rfl ?_);refine gL (some 6) Tryz.func128 #[.slice V l0.length c0] ?_;(with_reducible refine(bA.c k _ _ l0 u _ ?bc ?bf A2.out).mono ?_);(case bc=>exact bP am.out);(case bf=>exact al.out);rintro e a3 ⟨aG,rfl,O,hb⟩;refine⟨_,rfl,?_⟩;have F:=A_ (Kd.dg O (bm (oB z)));have G:=A_ (bb D hb);have I:=A_ (bn (oB z) hb);clear D z;have X:=F;have D:=G;have z:=I;clear F G I;(try clear hb);(try clear hb2);(try clear hk);(try clear hi);(try clear O);obtain⟨aH,aP,aE⟩:=Kd.dz X.out;subst aE;have ai:0≤(0:Int):=(by omega);have aj:0<(u.length:Int):=oD;obtain⟨aL,aD,Y,Z,ad,af⟩:=er (Kd.cp X.out).2.2 0 ai aj;cases aD;have a2:(0<u.length)=True:=ax (by omega);(try rw[show((0:Int)).toNat=0 from rfl]at Y);(try rw[show 0*4=0 from rfl]at Y);(try rw[Addr.add_zero']at Y);(try rw[show((0:Int)).toNat=0 from rfl]at Z);(try rw[show 0*4=0 from rfl]at Z);(try rw[Addr.add_zero']at Z);(try rw[show((0:Int)).toNat=0 from rfl]at ad);(try rw[show 0*4=0 from rfl]at ad);(try rw[Addr.add_zero']at ad);(try rw[show((0:Int)).toNat=0 from rfl]at af);(try rw[show 0*4=0 from rfl]at af);(try rw[Addr.add_zero']at af);replace ai:=ax ai;replace aj:=ax aj;have aR:=cz D 0;have aS:=cz D 1;have aW:=aK D.out 0;have aX:=aK D.out 1))
   refine bodyPost_ret (eu rfl _ _ J 74 #[.int .i64 ((av u 0).f0.f0),.int .i64 ((av u 0).f0.f1)] (0,0) _ rfl (by(with_reducible repeat(first|refine bG ?_ _|refine bz ?_|refine bu ?_ _));refine cr (cs:= #[.int .i64 ((av u 0).f0.f0),.int .i64 0]) ?_ 1 _ rfl;(with_reducible repeat(first|refine bG ?_ _|refine bz ?_|refine bu ?_ _));refine cr (cs:= #[.int .i64 0,.int .i64 0]) ?_ 0 _ rfl;(with_reducible repeat(first|refine bG ?_ _|refine bz ?_|refine bu ?_ _));exact D.out) Tryz.underlying74 rfl (by kernel_rfl)) rfl ?_;exact⟨eR,oB z⟩
  ·rw[au c8]at H;exact absurd H (by simp)
end P
namespace P
set_option maxHeartbeats 8000000
set_option maxRecDepth 100000
set_option synthInstance.maxHeartbeats 400000
set_option synthInstance.maxSize 100000
open Go.RowKit WW.bk WW.b_ WW.b6 V
attribute [local go_sem] dC dD
attribute [local go_sem] cR cV cU cY cT cX cS cW
def lC.f (k:Nat) (l0:List (ah)) (a1:Int):Option ((List (ah))×Bool):=(mi.f k l0).bind fun u=>(if u.2.2=true then((fy.f k l0 u.1 u.2.1 0 a1).bind fun z=>(some (z.1,z.2)))else((gG.f l0).bind fun D=>(some (D,false))))
theorem lC.c (k:Nat) (z:Option Addr) (c0:Nat) (l0:List (ah)) (a1:Int) (r1:List (ah)) (r2:Bool) (w:World) (D:Kd.C aT w z l0.length l0) (hc0:l0.length≤c0) (h:lC.f k l0 a1=some (r1,r2)):
  Calls Tryz.prog 51 #[.slice z l0.length c0,.int .i64 a1] w fun e w'=>∃G:Value,e= .returned (.tuple #[G,.bool r2])∧Kd.R aT 104 w' w.heap.size (fun _=>True) G r1∧Below w.heap.size w w':=by
 replace D:=aM.mk D;replace hc0:=aj.mk hc0;unfold lC.f at h;have I:=Tryz.underlying74
 all_goals go_enter Tryz.func51,Tryz.ntmps51
 all_goals go_wp2_with ((first
  |((with_reducible refine aJ (N:=6) rfl ?_);refine bV #[.int .i64 0,.int .i64 0] 74 fun g w1 j1 j2 J=> ?_)
  |(go_at_call 101;replace h:=bI h;obtain⟨⟨t1,t2,t3⟩,A,h⟩:=h;(try dsimp only at h);refine(mi.c _ _ _ _ _ _ _ _ Rd.out aj.out A).mono ?_;rintro e w2 ⟨rfl,hb⟩;have F:=aw.mk hb;clear A hb)
  |(go_at_call 99;replace h:=bI h;obtain⟨⟨t1,t2⟩,A,h⟩:=h;(try dsimp only at h);refine(fy.c _ _ _ _ _ _ _ _ _ _ _ Rd.out aj.out A).mono ?_;rintro e w2 ⟨v0,rfl,u,hb⟩;obtain⟨H,b0,rfl,j0,q0⟩:=aH u;have F:=aw.mk hb;clear A u hb)
  |(go_at_call 96;replace h:=bI h;obtain⟨t,A,h⟩:=h;(try dsimp only at h);refine(gG.c _ _ _ _ _ Rd.out aj.out A).mono ?_;rintro e w2 ⟨v0,rfl,u,hb⟩;obtain⟨H,b0,rfl,j0,q0⟩:=aH u;have F:=aw.mk hb;clear A u hb));(repeat' first|((with_reducible replace h:=bq h);rcases h with ⟨hc,h⟩|⟨hc,h⟩<;>first|exact(bh h).elim|exact absurd hc (by decide)|subst hc|(replace hc:=aD hc;subst hc)|(have hd:=aV hc;have he:=aW hc;clear hc)|(have hd:=bo hc;have he:=bp hc)|(have hd:=ay hc)|(have hd:=ag hc)|skip));all_goals(try have hn:decide (0<t.length)=true:=ag (by omega));all_goals(try have hn:decide (0<t.length)=false:=ay (by omega)))
 all_goals simp only[Option.some.injEq,Prod.mk.injEq]at h
 all_goals obtain⟨rfl,rfl⟩:=h
 all_goals go_ret2
 all_goals exact⟨_,rfl,(by first|exact bj|exact Kd.bl _ _ _ _ _),From.out⟩
end P
namespace S
open Go.RowKit Go.Sort P Q V WW.bk
attribute [local go_sem] dC dD
abbrev E:=ah
instance:Inhabited E:=⟨dr⟩
def dK (x:E):List Value:=[.int .i64 x.f0.f0,.int .i64 x.f0.f1,.int .i64 x.f1,.int .i64 x.f2]
abbrev tI (x:E):Value:= .agg #[.int .i64 x.f0.f0,.int .i64 x.f0.f1,.int .i64 x.f1,.int .i64 x.f2]
class eN (W:World) (a:Addr) (v:outParam Value):Prop where out:W.cell? a=some v
section
variable {w w0 W:World} {a:Addr} {v:Value} {o:Obj} {n:Nat}
theorem pz (h:eN W a v):a.block<W.heap.size:=World.block_lt_of_cell? W a h.out
instance [h:eN W a v]:eN (W.alloc o) a v:=⟨((bO (RowKit.Below.refl W.heap.size W) o).cell (pz h)).trans h.out⟩
instance [h:eN W a v]:eN W.drew a v:=⟨h.out⟩
instance [h:eN W a v]:eN (W.drewN n) a v:=⟨h.out⟩
instance [b:aw w W] [h:eN w a v]:eN W a v:=⟨(b.out.cell (pz h)).trans h.out⟩
instance [b:eU w0 W] [h:eN w0 a v]:eN W a v:=⟨(b.out.cell (pz h)).trans h.out⟩
theorem vy (W:World) (a:Addr) {v:Value} [h:eN W a v]:W.cell? a=some v:=h.out
end
def jT (x:E):Prop:=x.f1=1∨x.f1=2
theorem py {a b:Int} (h:a≠b):(a != b)=true:=bne_iff_ne.mpr h
theorem px {a b:Int} (h:a=b):(a != b)=false:=bne_eq_false_iff_eq.mpr h
set_option maxHeartbeats 8000000 in
set_option maxRecDepth 100000 in
set_option synthInstance.maxHeartbeats 400000 in
set_option synthInstance.maxSize 100000 in
theorem yE (a b:E) (w:World) (ha:jT a) (hb:jT b):
    Calls Tryz.prog 143 #[tI a,tI b] w fun e w'=>e= .returned (.bool (aG a b))∧Below w.heap.size w w':=by
  obtain⟨⟨a0,a1⟩,a2,a3⟩:=a;obtain⟨⟨b0,b1⟩,b2,b3⟩:=b;obtain⟨r,hr⟩:∃r,aG ⟨⟨a0,a1⟩,a2,a3⟩ ⟨⟨b0,b1⟩,b2,b3⟩=r:=⟨_,rfl⟩;rw[hr];unfold jT at ha hb;simp only at ha hb;unfold aG at hr;simp only at hr;have hu:=Tryz.underlying104;have u:=Tryz.underlying74;have eW:∀{p q s:Prop} [Decidable p] [Decidable q] [Decidable s],True:=fun{_ _ _} _ _ _=>trivial;clear eW;by_cases h1:a2=b2
  · rw[aq h1]at hr;have h1:=px h1;by_cases h2:a3=b3
    · rw[aq h2]at hr;have h2:=px h2;by_cases h3:a0=b0
      · rw[aq h3]at hr;have h3:=px h3;clear ha hb;go_enter Tryz.func143,Tryz.ntmps143;go_wp2;go_ret;exact⟨rfl,From.out⟩
      · rw[au h3]at hr;have h3:=py h3;clear ha hb;go_enter Tryz.func143,Tryz.ntmps143;go_wp2;go_ret;exact⟨rfl,From.out⟩
    · rw[au h2]at hr;have h2:=py h2;clear ha hb;go_enter Tryz.func143,Tryz.ntmps143;go_wp2;go_ret;exact⟨rfl,From.out⟩
  · rw[au h1]at hr;have h4:(a2==2)=r:=(by rw[←hr,Bool.eq_iff_iff,beq_iff_eq,decide_eq_true_eq];omega);have h1:=py h1;clear ha hb hr;go_enter Tryz.func143,Tryz.ntmps143;go_wp2;go_ret;exact⟨rfl,From.out⟩
structure cC where
  g:Nat
  bs:Nat
  n:Nat
  c:Nat
  lb:Array Value
  sb:Array Value
class dc (C:outParam cC):Prop where
  swap:SwapSwapsK Tryz.prog 159 C.sb dK 4 C.g 0 C.n
  small:C.n<50
  lb:C.lb= #[.pointer (some ⟨C.bs,0,none⟩)]
  ne:C.bs≠C.g
structure bU (C:cC) (W:World) (D:Array E):Prop where
  hold:HoldsK dK 4 W C.g 0 D
  size:D.size=C.n
  box:W.heap[C.bs]? =some (.cells #[.slice (some ⟨C.g,0,none⟩) C.n C.c] 35 (0,0))
  lt:C.g<W.heap.size
  shape:∃cur:Array Value,W.heap[C.g]? =some (.cells cur 104 (0,0))∧cur.size=C.c*4
  n9:∀x∈D,jT x
class So (C:outParam cC) (W:World) (D:outParam (Array E)):Prop where out:bU C W D
theorem bU.at_ {C:cC} {W:World} {D:Array E} (h:bU C W D) (i:Nat) (hi:i<C.n):
    W.cell? ⟨C.g,i*4,none⟩=some (.int .i64 D[i]!.f0.f0)∧W.cell? ⟨C.g,i*4+1,none⟩=some (.int .i64 D[i]!.f0.f1)∧W.cell? ⟨C.g,i*4+2,none⟩=some (.int .i64 D[i]!.f1)∧W.cell? ⟨C.g,i*4+3,none⟩=some (.int .i64 D[i]!.f2):=by
  have hi':i<D.size:=by rw[h.size];exact hi
  have c0:=(h.hold.cell (i:=i) (c:=0) hi' (by omega)).1;have c1:=(h.hold.cell (i:=i) (c:=1) hi' (by omega)).1;have c2:=(h.hold.cell (i:=i) (c:=2) hi' (by omega)).1;have c3:=(h.hold.cell (i:=i) (c:=3) hi' (by omega)).1;simp only[Nat.zero_add,Nat.add_zero]at c0 c1 c2 c3;exact⟨c0,c1,c2,c3⟩
theorem bU.rz {C:cC} {W:World} {D:Array E} (h:bU C W D) (i:Nat) (hi:i<C.n):jT D[i]! :=by
  have hi':i<D.size:=by rw[h.size];exact hi
  rw[getElem!_pos D i hi'];exact h.n9 _ (Array.getElem_mem hi')
attribute [local go_sem] vy
set_option maxHeartbeats 8000000 in
set_option maxRecDepth 100000 in
set_option synthInstance.maxHeartbeats 400000 in
set_option synthInstance.maxSize 100000 in
theorem rQ (C:cC) (w:World) (D:Array E) (h:bU C w D) (hlb:C.lb= #[.pointer (some ⟨C.bs,0,none⟩)]) (hn:C.n<50) (i j:Nat) (hi:i<C.n) (hj:j<C.n):
    Calls Tryz.prog 142 (#[.int .i64 i,.int .i64 j]++C.lb) w fun e w'=>e= .returned (.bool (aG D[i]! D[j]!))∧Below w.heap.size w w':=by
  obtain⟨i0,i1,i2,i3⟩:=h.at_ i hi;obtain⟨j0,j1,j2,z⟩:=h.at_ j hj;have fi:=h.rz i hi;have fj:=h.rz j hj;generalize D[i]! =x at*;generalize D[j]! =y at*;have u:=h.box;rw[hlb];obtain⟨g,bs,n,c,lb,sb⟩:=C;simp only at*;have F:aQ w bs #[.slice (some ⟨g,0,none⟩) n c] 35:=⟨u⟩;have hs:=fun W=>yE x y W fi fj;have HS:=ae.mk hs;have k0:=eN.mk i0;have k1:=eN.mk i1;have k2:=eN.mk i2;have k3:=eN.mk i3;have k4:=eN.mk j0;have I:=eN.mk j1;have J:=eN.mk j2;have K:=eN.mk z;clear i0 i1 i2 i3 j0 j1 j2 z;have hi1:(0:Int)≤(i:Int):=by omega
  have hi2:(i:Int)<(n:Int):=by omega
  have hj1:(0:Int)≤(j:Int):=by omega
  have hj2:(j:Int)<(n:Int):=by omega
  clear h hlb u hs fi fj hn hi hj;have hu:=Tryz.underlying104;go_enter Tryz.func142,Tryz.ntmps142;go_wp2;refine mg ?_;intro w3 H
  go_region_held3 (fun w'=>eU w3 w') (first|exact⟨From.out⟩|skip) (first|(go_at_call 143;refine(HS.out _).mono ?_;rintro e w2 ⟨rfl,hb⟩;have G:=aw.mk hb;clear hb))
  all_goals go_wp2
  all_goals go_ret
  all_goals exact⟨rfl,From.out⟩
end S
namespace S
open Go.RowKit Go.Sort P Q V WW.bk
class Ix (i:Int) (n:Nat):Prop where
  lo:0≤i
  hi:i<(n:Int)
theorem nZ (x:E):(dK x).length=4:=rfl
def iL (C:cC) (D:Array E) (W:World) (i j:Int):World:=(W.setCells C.g (0+i.toNat*4) (dK D[j.toNat]!)).setCells C.g (0+j.toNat*4) (dK D[i.toNat]!)
theorem pY {C:cC} {W:World} {D:Array E} (h:bU C W D) (i j:Int) (hi:i.toNat<C.n) (hj:j.toNat<C.n):iL C D W i j=putRowK dK 4 W C.g 0 (swp D i.toNat j.toNat):=by
  have:=swap_worldK dK 4 nZ W 0 0 C.g 0 D i.toNat j.toNat (by rw[h.size];exact hi) (by rw[h.size];exact hj)
  rw[show((putRowK dK 4 (Sort.ahead W 0) C.g 0 D).drewN 0)=W by
    rw[show∀X:World,X.drewN 0=X from fun _=>rfl];exact putRowK_self dK 4 W C.g 0 D h.hold]at this
  exact this
theorem w_ {D:Array E} {i j:Nat} {x:E} (h:x∈swp D i j) (hi:i<D.size) (hj:j<D.size):x∈D:=by
  obtain⟨k,hk,rfl⟩:=Array.mem_iff_getElem.mp h;have hk':k<D.size:=by simpa[size_swp]using hk
  rw[←getElem!_pos (swp D i j) k hk];by_cases e1:k=j
  · subst e1;rw[swp_right D i k hk',getElem!_pos D i hi];exact Array.getElem_mem hi
  · by_cases e2:k=i
    · subst e2;rw[swp_left D k j hk' e1,getElem!_pos D j hj];exact Array.getElem_mem hj
    · rw[swp_other D i j k e2 e1,getElem!_pos D k hk'];exact Array.getElem_mem hk'
theorem sK {W:World} {g:Nat} {D:Array E} {c:Nat} (h:∃cur:Array Value,W.heap[g]? =some (.cells cur 104 (0,0))∧cur.size=c):∃cur:Array Value,(putRowK dK 4 W g 0 D).heap[g]? =some (.cells cur 104 (0,0))∧cur.size=c:=by
  obtain⟨cur,hc,hs⟩:=h;refine⟨putCells id 0 (flatK dK 4 D) cur,?_,by simpa[putCells]using hs⟩;unfold putRowK putRow;rw[pN,aq rfl,hc];rfl
class Fr (C:outParam cC) (w0 W:World):Prop where out:w0.grownBy W (some C.g)
section
variable {C:cC} {w w0 W:World} {D:Array E} {o:Obj} {n x i:Nat} {v:Value} {cs:Array Value} {t:TypeId}
theorem bU.move (h:bU C w D) (hs:w.heap.size≤W.heap.size) (h1:W.heap[C.g]? =w.heap[C.g]?) (h2:W.heap[C.bs]? =w.heap[C.bs]?):bU C W D:=
  ⟨fun j hj=>by
    obtain⟨a,b⟩:=h.hold j hj;exact⟨(World.cell?_of_block (a:=⟨C.g,0+j,none⟩) h1).trans a,(World.frozen?_of_block (a:=⟨C.g,0+j,none⟩) h1).trans b⟩,h.size,h2.trans h.box,Nat.lt_of_lt_of_le h.lt hs,by rw[h1];exact h.shape,h.n9⟩
theorem bU.mJ (h:bU C W D):C.bs<W.heap.size:=dB h.box
theorem bU.below (h:bU C w D) (hb:RowKit.Below w.heap.size w W):bU C W D:=h.move hb.size (hb.block _ h.lt) (hb.block _ h.mJ)
instance [h:So C W D]:So C (W.alloc o) D:=⟨h.out.below (bO (RowKit.Below.refl _ _) o)⟩
instance [h:So C W D]:So C W.drew D:=⟨h.out.below (cg (RowKit.Below.refl _ _))⟩
instance [h:So C W D]:So C (W.drewN n) D:=⟨h.out.below (cN (RowKit.Below.refl _ _) n)⟩
instance [b:aw w W] [h:So C w D]:So C W D:=⟨h.out.below b.out⟩
instance [h:So C W D] [k:fC W x]:dw x C.g:=⟨by rw[k.out];exact Nat.ne_of_gt h.out.lt⟩
instance [h:So C W D] [k:fC W x]:dw x C.bs:=⟨by rw[k.out];exact Nat.ne_of_gt h.out.mJ⟩
instance [h:So C W D] [k:dw x C.g] [l:dw x C.bs]:So C (W.setCell ⟨x,i,none⟩ v) D:=
  ⟨h.out.move (by simp) (Below.heap_setCell W ⟨x,i,none⟩ v _ (Ne.symm k.out)) (Below.heap_setCell W ⟨x,i,none⟩ v _ (Ne.symm l.out))⟩
theorem pZ (h:bU C W D) (i j:Int) (hi:i.toNat<C.n) (hj:j.toNat<C.n):W.grownBy (iL C D W i j) (some C.g):=by
  rw[pY h i j hi hj];refine⟨rfl,rfl,rfl,by simp[putRowK],fun k hk hne=> ?_⟩;unfold putRowK putRow;rw[pN,au (fun hh=>hne (by rw[hh]))]
theorem iQ {i:Int} {n:Nat} (h:Ix i n):i.toNat<n:=by have:=h.lo;have:=h.hi;omega
theorem yD [g:dc C] (h:bU C W D) (i j:Int) (hi:i.toNat<C.n) (hj:j.toNat<C.n):bU C (iL C D W i j) (swp D i.toNat j.toNat):=by
  have hg:=pZ h i j hi hj;refine⟨?_,by rw[size_swp];exact h.size,(hg.block _ h.mJ (fun e=>g.ne (aC e))).trans h.box,Nat.lt_of_lt_of_le h.lt hg.size,by rw[pY h i j hi hj];exact sK h.shape,fun x hx=>h.n9 x (w_ hx (by rw[h.size];exact hi) (by rw[h.size];exact hj))⟩;rw[pY h i j hi hj];exact holdsK_putRowK dK 4 W C.g 0 D _ h.hold (size_swp _ _ _)
instance {i j:Int} [g:dc C] [h:So C W D] [a:Ix i C.n] [b:Ix j C.n]:So C (iL C D W i j) (swp D i.toNat j.toNat):=⟨yD h.out i j (iQ a) (iQ b)⟩
instance {i j:Int} [h:So C W D] [k:aQ W x cs t] [l:dw x C.g] [a:Ix i C.n] [b:Ix j C.n]:aQ (iL C D W i j) x cs t:=⟨((pZ h.out i j (iQ a) (iQ b)).block x (dB k.out) (fun e=>l.out (aC e))).trans k.out⟩
theorem tu (W:World) (i j:Int) [g:dc C] [h:So C W D] [a:Ix i C.n] [b:Ix j C.n]:(callFunc 159 (#[.int .i64 i,.int .i64 j]++C.sb)).run Tryz.prog W= .ok (.value (.tuple #[])) (iL C D W i j):=by
  have:=g.swap W D h.out.hold h.out.size i.toNat j.toNat (iQ a) (iQ b);rw[show((i.toNat:Nat):Int)=i from Int.toNat_of_nonneg a.lo,show((j.toNat:Nat):Int)=j from Int.toNat_of_nonneg b.lo]at this;exact this
theorem pK [g:dc C] [h:So C W D] (i j:Int) [a:Ix i C.n] [b:Ix j C.n]:
    Calls Tryz.prog 142 (#[.int .i64 i,.int .i64 j]++C.lb) W fun e w'=>e= .returned (.bool (aG D[i.toNat]! D[j.toNat]!))∧RowKit.Below W.heap.size W w':=by
  have:=rQ C W D h.out g.lb g.small i.toNat j.toNat (iQ a) (iQ b);rw[show((i.toNat:Nat):Int)=i from Int.toNat_of_nonneg a.lo,show((j.toNat:Nat):Int)=j from Int.toNat_of_nonneg b.lo]at this;exact this
class bZ (D:Array E) (i j:Int) (b:outParam Bool):Prop where out:aG D[i.toNat]! D[j.toNat]! =b
theorem bZ.of {D:Array E} {i j:Int} {b:Bool} {i' j':Nat} (h:aG D[i']! D[j']! =b) (hi:i=i') (hj:j=j'):bZ D i j b:=⟨by rw[hi,hj,Int.toNat_natCast,Int.toNat_natCast];exact h⟩
theorem eD {b:Bool} [g:dc C] [h:So C W D] (i j:Int) [a:Ix i C.n] [k:Ix j C.n] [l:bZ D i j b]:
    Calls Tryz.prog 142 (#[.int .i64 i,.int .i64 j]++C.lb) W fun e w'=>e= .returned (.bool b)∧RowKit.Below W.heap.size W w':=
  (pK i j).mono fun e w' h=>⟨by rw[h.1,l.out],h.2⟩
theorem gP {w0 w W:World} {r:Option Nat} (h:w0.grownBy w r) (k:w.grownBy W r):w0.grownBy W r:=
  ⟨k.os.trans h.os,k.tape.trans h.tape,k.output.trans h.output,Nat.le_trans h.size k.size,fun j hj hne=>(k.block j (Nat.lt_of_lt_of_le hj h.size) hne).trans (h.block j hj hne)⟩
theorem ia {w W:World} {r:Option Nat} (h:RowKit.Below w.heap.size w W):w.grownBy W r:=⟨h.os,h.tape,h.output,h.size,fun j hj _=>h.block j hj⟩
instance [h:So C w D]:Fr C w w:=⟨ia (RowKit.Below.refl _ _)⟩
instance [h:Fr C w W]:Fr C w (W.alloc o):=⟨gP h.out (ia (bO (RowKit.Below.refl _ _) o))⟩
instance [h:Fr C w W]:Fr C w W.drew:=⟨gP h.out (ia (cg (RowKit.Below.refl _ _)))⟩
instance [h:Fr C w W]:Fr C w (W.drewN n):=⟨gP h.out (ia (cN (RowKit.Below.refl _ _) n))⟩
instance [b:aw w W] [h:Fr C w0 w]:Fr C w0 W:=⟨gP h.out (ia b.out)⟩
instance {i j:Int} [h:Fr C w0 W] [k:So C W D] [a:Ix i C.n] [b:Ix j C.n]:Fr C w0 (iL C D W i j):=⟨gP h.out (pZ k.out i j (iQ a) (iQ b))⟩
class Gb (C:outParam cC) (w:outParam World) (W:World):Prop where out:w.grownBy W (some C.g)
instance [b:Gb C w W] [h:Fr C w0 w]:Fr C w0 W:=⟨gP h.out b.out⟩
instance [b:Gb C w W] [h:aQ w x cs t] [l:dw x C.g]:aQ W x cs t:=⟨(b.out.block x (dB h.out) (fun e=>l.out (aC e))).trans h.out⟩
end
end S
namespace S
open Go.RowKit Go.Sort P Q V WW.bk
attribute [local go_sem] dC dD tu
abbrev fZ (C:cC):Value:= .agg #[.func (.func 142) #[] C.lb,.func (.func 159) #[] C.sb]
set_option maxHeartbeats 8000000 in
set_option maxRecDepth 100000 in
set_option synthInstance.maxHeartbeats 400000 in
set_option synthInstance.maxSize 100000 in
theorem wu (C:cC) [dc C] (w:World) (D:Array E) (h:bU C w D) (a b:Nat) (hab:a≤b) (hb:b≤C.n):
    Calls Tryz.prog 162 #[fZ C,.int .i64 a,.int .i64 b] w fun e w'=>e= .returned (.tuple #[])∧bU C w' (insertionSort aG D a b)∧w.grownBy w' (some C.g):=by
  have j0:=So.mk h;have hsm:=dc.small (C:=C);have U:dw w.heap.size C.g:=⟨Nat.ne_of_gt h.lt⟩;clear h;have hu:=Tryz.underlying162;go_enter Tryz.func162,Tryz.ntmps162;go_wp2
  go_loopw [6] (fun vi wr=>∃(i:Nat) (dk:Array E),vi= .int .i64 i∧ae (a<i)∧ae (i≤b+1)∧So C wr dk∧Fr C w wr∧aQ wr w.heap.size #[.func (.func 142) #[] C.lb,.func (.func 159) #[] C.sb] 162∧ae (insOuter aG a b i dk=insOuter aG a b (a+1) D)) (fun vi _=>b+1-(intOf vi).toNat)
  case atStart=>exact⟨a+1,D,by go_num,⟨by omega⟩,⟨by omega⟩,inferInstance,inferInstance,⟨fG w _⟩,⟨rfl⟩⟩
  case round=>
    clear j0;obtain⟨i,dk,rfl,u,O,j1,j2,F,HO⟩:=hrel;by_cases hib:i<b
    · have I:decide ((i:Int)<(b:Int))=true:=ag (by omega);go_wp2
      go_loopw [7] (fun vj wr2=>∃(j:Nat) (dj:Array E),vj= .int .i64 j∧ae (a≤j)∧ae (j≤i)∧So C wr2 dj∧Fr C w wr2∧aQ wr2 w.heap.size #[.func (.func 142) #[] C.lb,.func (.func 159) #[] C.sb] 162∧ae (insInner aG a j dj=insInner aG a i dk)) (fun vj _=>(intOf vj).toNat)
      case atStart=>exact⟨i,dk,rfl,⟨by have:=u.out;omega⟩,⟨Nat.le_refl _⟩,j1,j2,F,⟨rfl⟩⟩
      case round=>
        clear j1 j2 F;obtain⟨j,dj,rfl,G,H,j1,j2,F,z⟩:=hrel;have hjb:=H.out;have haj:=G.out;by_cases hja:a<j
        · have J:decide ((a:Int)<(j:Int))=true:=ag (by omega);have x1:Ix (j:Int) C.n:=⟨by omega,by omega⟩;have x2:Ix ((j:Int)-1) C.n:=⟨by omega,by omega⟩;have e1:((j:Int)-1).toNat=j-1:=(by omega);cases hl:aG dj[j]! dj[j-1]! with
          |true=>
           go_wp2_with (first|(go_at_call 142;refine(pK _ _).mono ?_;rintro e w2 ⟨he,hb⟩;rw[Int.toNat_natCast,e1,hl]at he;subst he;have K:=aw.mk hb;clear hb))
           refine⟨⟨j-1,swp dj j (j-1),by congr 1;omega,⟨by omega⟩,⟨by omega⟩,?_,inferInstance,inferInstance,⟨?_⟩⟩,by simp[intOf];omega⟩
           · have k:So C (iL C dj w2 (j:Int) ((j:Int)-1)) (swp dj (j:Int).toNat ((j:Int)-1).toNat):=inferInstance;rw[Int.toNat_natCast,e1]at k;exact k
           · rw[←z.out,insInner_go aG a j dj hja hl]
          |false=>
           go_wp2_with (first|(go_at_call 142;refine(pK _ _).mono ?_;rintro e w2 ⟨he,hb⟩;rw[Int.toNat_natCast,e1,hl]at he;subst he;have K:=aw.mk hb;clear hb))
           refine⟨⟨i+1,dj,by go_num,⟨by have:=u.out;omega⟩,⟨by omega⟩,inferInstance,inferInstance,inferInstance,⟨?_⟩⟩,by simp[intOf];omega⟩;rw[←HO.out,insOuter_go aG a b i dk hib,←z.out,insInner_stop aG a j dj (.inr hl)]
        · have J:decide ((a:Int)<(j:Int))=false:=ay (by omega);go_wp2;refine⟨⟨i+1,dj,by go_num,⟨by have:=u.out;omega⟩,⟨by omega⟩,inferInstance,inferInstance,inferInstance,⟨?_⟩⟩,by simp[intOf];omega⟩;rw[←HO.out,insOuter_go aG a b i dk hib,←z.out,insInner_stop aG a j dj (.inl (by omega))]
    · have I:decide ((i:Int)<(b:Int))=false:=ay (by omega);go_wp2
      go_end0
      refine⟨rfl,?_,Fr.out⟩;have:=HO.out;rw[insOuter_stop aG a b i dk hib]at this;unfold insertionSort;rw[←this];exact So.out
abbrev cK (C:cC):Array Value:= #[.func (.func 142) #[] C.lb,.func (.func 159) #[] C.sb]
theorem dR {C:cC} {W:World} {D D':Array E} (h:So C W D) (e:D=D'):bU C W D':=e▸h.out
set_option maxHeartbeats 8000000 in
set_option maxRecDepth 100000 in
set_option synthInstance.maxHeartbeats 400000 in
set_option synthInstance.maxSize 100000 in
theorem yB (C:cC) [dc C] (w:World) (D:Array E) (h:bU C w D) (lo hi first:Nat) (hf:first+hi≤C.n) (hlo:lo≤C.n):
    Calls Tryz.prog 170 #[fZ C,.int .i64 lo,.int .i64 hi,.int .i64 first] w fun e w'=>e= .returned (.tuple #[])∧bU C w' (siftDown aG hi first lo D)∧w.grownBy w' (some C.g):=by
  have j0:=So.mk h;have hsm:=dc.small (C:=C);have J:dw w.heap.size C.g:=⟨Nat.ne_of_gt h.lt⟩;clear h;have hu:=Tryz.underlying162;go_enter Tryz.func170,Tryz.ntmps170;go_wp2
  go_loopw [8] (fun v wr=>∃(r:Nat) (dk:Array E),v= .int .i64 r∧ae (r≤C.n)∧So C wr dk∧Fr C w wr∧aQ wr w.heap.size (cK C) 162∧ae (siftDown aG hi first r dk=siftDown aG hi first lo D)) (fun v _=>hi-(intOf v).toNat)
  case atStart=>exact⟨lo,D,rfl,⟨hlo⟩,inferInstance,inferInstance,⟨fG w _⟩,⟨rfl⟩⟩
  case round=>
    clear j0;obtain⟨r,dk,rfl,G,j1,j2,I,HO⟩:=hrel;have H:=G.out;have u:=HO.out;rw[siftDown]at u;by_cases c1:2*r+1≥hi
    · rw[dif_pos c1]at u;have u:=ae.mk u;have d1:decide ((hi:Int)≤2*(r:Int)+1)=true:=ag (by omega);go_wp2
      go_end0
      exact⟨rfl,dR j1 u.out,Fr.out⟩
    rw[dif_neg c1]at u;have d1:decide ((hi:Int)≤2*(r:Int)+1)=false:=ay (by omega);have x1:Ix ((first:Int)+(2*(r:Int)+1)) C.n:=⟨by omega,by omega⟩;have x0:Ix ((first:Int)+(r:Int)) C.n:=⟨by omega,by omega⟩;by_cases c2:2*r+1+1<hi
    · have d2:decide (2*(r:Int)+1+1<(hi:Int))=true:=ag (by omega);have x2:Ix ((first:Int)+(2*(r:Int)+1)+1) C.n:=⟨by omega,by omega⟩;have x3:Ix ((first:Int)+(2*(r:Int)+1+1)) C.n:=⟨by omega,by omega⟩;cases l1:aG dk[first+(2*r+1)]! dk[first+(2*r+1)+1]! with
      |true=>
       have y1:bZ dk ((first:Int)+(2*(r:Int)+1)) ((first:Int)+(2*(r:Int)+1)+1) true:=bZ.of l1 (by omega) (by omega);rw[l1,ag c2,Bool.and_self,aq rfl]at u;clear l1;cases l2:aG dk[first+r]! dk[first+(2*r+2)]! with
       |true=>
        have F:bZ dk ((first:Int)+(r:Int)) ((first:Int)+(2*(r:Int)+1+1)) true:=bZ.of l2 (by omega) (by omega);rw[l2,au (by decide),dif_pos c2]at u;have u:=ae.mk u;clear l2
        go_wp2_with (first|(go_at_call 142;refine(eD _ _).mono ?_;rintro e w2 ⟨rfl,hb⟩;have z:=aw.mk hb;clear hb))
        refine⟨⟨2*r+2,swp dk (first+r) (first+(2*r+2)),by first|rfl|(congr 1;omega),⟨by omega⟩,⟨dR (D':=swp dk (first+r) (first+(2*r+2))) inferInstance (by first|rfl|(congr 1<;>omega))⟩,inferInstance,inferInstance,u⟩,by simp[intOf];omega⟩
       |false=>
        have F:bZ dk ((first:Int)+(r:Int)) ((first:Int)+(2*(r:Int)+1+1)) false:=bZ.of l2 (by omega) (by omega);rw[l2,aq (by decide)]at u;have u:=ae.mk u;clear l2
        go_wp2_with (first|(go_at_call 142;refine(eD _ _).mono ?_;rintro e w2 ⟨rfl,hb⟩;have z:=aw.mk hb;clear hb))
        ((try simp only[Exit.inBlock,Exit.then]);refine bodyPost_ret (results_none rfl _ _ _) rfl ?_)
        exact⟨rfl,dR inferInstance u.out,Fr.out⟩
      |false=>
       have y1:bZ dk ((first:Int)+(2*(r:Int)+1)) ((first:Int)+(2*(r:Int)+1)+1) false:=bZ.of l1 (by omega) (by omega);rw[l1,Bool.and_false,au (by decide)]at u;clear l1;cases l2:aG dk[first+r]! dk[first+(2*r+1)]! with
       |true=>
        have F:bZ dk ((first:Int)+(r:Int)) ((first:Int)+(2*(r:Int)+1)) true:=bZ.of l2 (by omega) (by omega);rw[l2,au (by decide)]at u;have u:=ae.mk u;clear l2
        go_wp2_with (first|(go_at_call 142;refine(eD _ _).mono ?_;rintro e w2 ⟨rfl,hb⟩;have z:=aw.mk hb;clear hb))
        refine⟨⟨2*r+1,swp dk (first+r) (first+(2*r+1)),by first|rfl|(congr 1;omega),⟨by omega⟩,⟨dR (D':=swp dk (first+r) (first+(2*r+1))) inferInstance (by first|rfl|(congr 1<;>omega))⟩,inferInstance,inferInstance,u⟩,by simp[intOf];omega⟩
       |false=>
        have F:bZ dk ((first:Int)+(r:Int)) ((first:Int)+(2*(r:Int)+1)) false:=bZ.of l2 (by omega) (by omega);rw[l2,aq (by decide)]at u;have u:=ae.mk u;clear l2
        go_wp2_with (first|(go_at_call 142;refine(eD _ _).mono ?_;rintro e w2 ⟨rfl,hb⟩;have z:=aw.mk hb;clear hb))
        ((try simp only[Exit.inBlock,Exit.then]);refine bodyPost_ret (results_none rfl _ _ _) rfl ?_)
        exact⟨rfl,dR inferInstance u.out,Fr.out⟩
    · have d2:decide (2*(r:Int)+1+1<(hi:Int))=false:=ay (by omega);rw[ay c2,Bool.false_and,au (by decide)]at u;cases l2:aG dk[first+r]! dk[first+(2*r+1)]! with
      |true=>
       have F:bZ dk ((first:Int)+(r:Int)) ((first:Int)+(2*(r:Int)+1)) true:=bZ.of l2 (by omega) (by omega);rw[l2,au (by decide)]at u;have u:=ae.mk u;clear l2
       go_wp2_with (first|(go_at_call 142;refine(eD _ _).mono ?_;rintro e w2 ⟨rfl,hb⟩;have z:=aw.mk hb;clear hb))
       refine⟨⟨2*r+1,swp dk (first+r) (first+(2*r+1)),by first|rfl|(congr 1;omega),⟨by omega⟩,⟨dR (D':=swp dk (first+r) (first+(2*r+1))) inferInstance (by first|rfl|(congr 1<;>omega))⟩,inferInstance,inferInstance,u⟩,by simp[intOf];omega⟩
      |false=>
       have F:bZ dk ((first:Int)+(r:Int)) ((first:Int)+(2*(r:Int)+1)) false:=bZ.of l2 (by omega) (by omega);rw[l2,aq (by decide)]at u;have u:=ae.mk u;clear l2
       go_wp2_with (first|(go_at_call 142;refine(eD _ _).mono ?_;rintro e w2 ⟨rfl,hb⟩;have z:=aw.mk hb;clear hb))
       ((try simp only[Exit.inBlock,Exit.then]);refine bodyPost_ret (results_none rfl _ _ _) rfl ?_)
       exact⟨rfl,dR inferInstance u.out,Fr.out⟩
theorem s7 {C:cC} {W:World} {D:Array E} [dc C] [h:So C W D] (lo' hi' first':Int) (lo hi first:Nat) (e1:lo'=lo) (e2:hi'=hi) (e3:first'=first) (hf:first+hi≤C.n) (hlo:lo≤C.n):
    Calls Tryz.prog 170 #[fZ C,.int .i64 lo',.int .i64 hi',.int .i64 first'] W fun e w'=>e= .returned (.tuple #[])∧bU C w' (siftDown aG hi first lo D)∧W.grownBy w' (some C.g):=by
  subst e1 e2 e3;exact yB C W D h.out lo hi first hf hlo
set_option maxHeartbeats 8000000 in
set_option maxRecDepth 100000 in
set_option synthInstance.maxHeartbeats 400000 in
set_option synthInstance.maxSize 100000 in
theorem vZ (C:cC) [dc C] (w:World) (D:Array E) (h:bU C w D) (a b:Nat) (hab:a≤b) (hb:b≤C.n):
    Calls Tryz.prog 163 #[fZ C,.int .i64 a,.int .i64 b] w fun e w'=>e= .returned (.tuple #[])∧bU C w' (heapSort aG D a b)∧w.grownBy w' (some C.g):=by
  have j0:=So.mk h;have hsm:=dc.small (C:=C);have G:dw w.heap.size C.g:=⟨Nat.ne_of_gt h.lt⟩;clear h;have hu:=Tryz.underlying162
  have hq:Int.tdiv ((b:Int)-(a:Int)-1) 2=(((b-a-1)/2:Nat):Int):=by
    by_cases h0:b-a=0
    · rw[h0,show(b:Int)-(a:Int)-1= -1 by omega];decide
    · rw[show(b:Int)-(a:Int)-1=((b-a-1:Nat):Int)by omega];rfl
  go_enter Tryz.func163,Tryz.ntmps163;go_wp2
  go_loopw [9] (fun v wr=>∃(k:Nat) (z:Int) (dk:Array E),v= .int .i64 z∧ae (z=(k:Int)-1)∧ae (k≤(b-a-1)/2+1)∧So C wr dk∧Fr C w wr∧aQ wr w.heap.size (cK C) 162∧ae (heapBuild aG (b-a) a k dk=heapBuild aG (b-a) a ((b-a-1)/2+1) D)) (fun v _=>(intOf v+1).toNat)
  case atStart=>
    refine⟨(b-a-1)/2+1,_,D,rfl,⟨?_⟩,⟨Nat.le_refl _⟩,inferInstance,inferInstance,⟨fG w _⟩,⟨rfl⟩⟩;omega
  case round=>
    clear j0;obtain⟨k,z,dk,rfl,u,HK,j1,j2,F,HO⟩:=hrel;have hz:=u.out;have hk:=HK.out;cases k with
    |succ m=>
     obtain rfl:z=(m:Int):=(by omega);have d1:decide (0≤(m:Int))=true:=ag (by omega);clear hq hz
     go_wp2_with (first|(go_at_call 170;refine(s7 _ _ _ m (b-a) a rfl (by omega) rfl (by omega) (by omega)).mono ?_;rintro e w2 ⟨rfl,hs,hg⟩;have k1:=So.mk hs;have k2:=Gb.mk hg;clear hs hg))
     exact⟨⟨m,_,_,rfl,⟨rfl⟩,⟨by omega⟩,k1,inferInstance,inferInstance,⟨HO.out⟩⟩,by simp[intOf]⟩
    |zero=>
     obtain rfl:z= -1:=(by omega);have ho:dk=heapBuild aG (b-a) a ((b-a-1)/2+1) D:=HO.out;clear hq hz HO;go_wp2
     go_loopw [10] (fun v wr=>∃(k:Nat) (z:Int) (dj:Array E),v= .int .i64 z∧ae (z=(k:Int)-1)∧ae (k≤b-a)∧So C wr dj∧Fr C w wr∧aQ wr w.heap.size (cK C) 162∧ae (heapPop aG a k dj=heapSort aG D a b)) (fun v _=>(intOf v+1).toNat)
     case atStart=>exact⟨b-a,_,dk,rfl,⟨by omega⟩,⟨Nat.le_refl _⟩,j1,j2,F,⟨by rw[ho];rfl⟩⟩
     case round=>
       clear j1 j2 F u HK ho hk;obtain⟨k,z,dj,rfl,u,HK,j1,j2,F,HO⟩:=hrel;have hz:=u.out;have hk:=HK.out;cases k with
       |succ m=>
        obtain rfl:z=(m:Int):=(by omega);have d1:decide (0≤(m:Int))=true:=ag (by omega);have x1:Ix (a:Int) C.n:=⟨by omega,by omega⟩;have x2:Ix ((a:Int)+(m:Int)) C.n:=⟨by omega,by omega⟩;clear hz
        go_wp2_with (first|(go_at_call 170;refine(s7 _ _ _ 0 m a rfl rfl rfl (by omega) (by omega)).mono ?_;rintro e w2 ⟨rfl,hs,hg⟩;have k1:=So.mk hs;have k2:=Gb.mk hg;clear hs hg))
        refine⟨⟨m,_,_,rfl,⟨rfl⟩,⟨by omega⟩,⟨dR (D':=siftDown aG m a 0 (swp dj a (a+m))) k1 (by first|rfl|(congr 2<;>omega))⟩,inferInstance,inferInstance,⟨HO.out⟩⟩,by simp[intOf]⟩
       |zero=>
        obtain rfl:z= -1:=(by omega);have ho:dj=heapSort aG D a b:=HO.out;clear hz;go_wp2
        go_end0
        exact⟨rfl,dR j1 ho,Fr.out⟩
class Fx (x:outParam Nat) (w0 W:World):Prop where out:w0.grownBy W (some x)
class Gx (x:outParam Nat) (w:outParam World) (W:World):Prop where out:w.grownBy W (some x)
section
variable {C:cC} {w w0 W:World} {D:Array E} {o:Obj} {n x y i:Nat} {v:Value} {cs:Array Value} {t:TypeId}
instance [h:Fx x w W]:Fx x w (W.alloc o):=⟨gP h.out (ia (bO (RowKit.Below.refl _ _) o))⟩
instance [h:Fx x w W]:Fx x w W.drew:=⟨gP h.out (ia (cg (RowKit.Below.refl _ _)))⟩
instance [h:Fx x w W]:Fx x w (W.drewN n):=⟨gP h.out (ia (cN (RowKit.Below.refl _ _) n))⟩
instance [b:aw w W] [h:Fx x w0 w]:Fx x w0 W:=⟨gP h.out (ia b.out)⟩
instance [b:Gx x w W] [h:Fx x w0 w]:Fx x w0 W:=⟨gP h.out b.out⟩
instance [h:Fx x w W]:Fx x w (W.setCell ⟨x,i,none⟩ v):=⟨gP h.out ⟨rfl,rfl,rfl,by simp,fun k _ hk=>Below.heap_setCell W ⟨x,i,none⟩ v k (fun e=>hk (by rw[e]))⟩⟩
instance [b:Gx x w W] [h:aQ w y cs t] [l:dw y x]:aQ W y cs t:=⟨(b.out.block y (dB h.out) (fun e=>l.out (aC e))).trans h.out⟩
instance [b:Gx x w W] [h:From w0 w] [l:Nw w0 x]:From w0 W:=⟨h.out.grown b.out h.out.size (fun k hk=>by cases hk;exact l.out)⟩
end
set_option maxHeartbeats 8000000 in
set_option maxRecDepth 100000 in
set_option synthInstance.maxHeartbeats 400000 in
set_option synthInstance.maxSize 100000 in
theorem xt (C:cC) [dc C] (w:World) (D:Array E) (h:bU C w D) (a b:Int) (ha:Ix a C.n) (hb:Ix b C.n) (x:Nat) (s:Int) (hs:0≤s) (hs2:s≤100) (hx:w.heap[x]? =some (.cells #[.int .i64 s] 3 (0,0))) (hg:x≠C.g) (u:x≠C.bs):
    Calls Tryz.prog 175 #[fZ C,.int .i64 a,.int .i64 b,.pointer (some ⟨x,0,none⟩)] w fun e w'=>∃r1 r2 s':Int,e= .returned (.tuple #[.int .i64 r1,.int .i64 r2])∧((r1=a∧r2=b)∨(r1=b∧r2=a))∧0≤s'∧s'≤s+1∧bU C w' D∧w'.heap[x]? =some (.cells #[.int .i64 s'] 3 (0,0))∧w.grownBy w' (some x):=by
  have j0:=So.mk h;have hxl:x<w.heap.size:=dB hx;have jn:dw w.heap.size x:=⟨by omega⟩;have H:dw x w.heap.size:=⟨by omega⟩;have G:dw x C.g:=⟨hg⟩;have z:dw x C.bs:=⟨u⟩;have I:=aQ.mk hx;have F:Fx x w w:=⟨ia (RowKit.Below.refl _ _)⟩;have J:=fun o:Obj=>fG w o;clear h hx hg u hxl;have hu:=Tryz.underlying162;cases l:aG D[b.toNat]! D[a.toNat]! with
  |true=>
   have y1:bZ D b a true:=⟨l⟩;clear l;go_enter Tryz.func175,Tryz.ntmps175
   go_wp2_with (first|(go_at_call 142;refine(eD _ _).mono ?_;rintro e w2 ⟨rfl,hb⟩;have z:=aw.mk hb;clear hb))
   go_ret2;exact⟨b,a,s+1,rfl,.inr ⟨rfl,rfl⟩,by omega,by omega,So.out,aQ.out,Fx.out⟩
  |false=>
   have y1:bZ D b a false:=⟨l⟩;clear l;go_enter Tryz.func175,Tryz.ntmps175
   go_wp2_with (first|(go_at_call 142;refine(eD _ _).mono ?_;rintro e w2 ⟨rfl,hb⟩;have z:=aw.mk hb;clear hb))
   go_ret2;exact⟨a,b,s,rfl,.inl ⟨rfl,rfl⟩,by omega,by omega,So.out,aQ.out,Fx.out⟩
theorem wB {r1 r2 a b:Int} {n:Nat} (h:(r1=a∧r2=b)∨(r1=b∧r2=a)) (ha:Ix a n) (hb:Ix b n):Ix r1 n∧Ix r2 n:=by
  rcases h with ⟨rfl,rfl⟩|⟨rfl,rfl⟩
  · exact⟨ha,hb⟩
  · exact⟨hb,ha⟩
set_option maxHeartbeats 8000000 in
set_option maxRecDepth 100000 in
set_option synthInstance.maxHeartbeats 400000 in
set_option synthInstance.maxSize 100000 in
theorem wY (C:cC) [dc C] (w:World) (D:Array E) (h:bU C w D) (a b c:Int) (ha:Ix a C.n) (hb:Ix b C.n) (hc:Ix c C.n) (x:Nat) (s:Int) (hs:0≤s) (hs2:s≤90) (hx:w.heap[x]? =some (.cells #[.int .i64 s] 3 (0,0))) (hg:x≠C.g) (u:x≠C.bs):
    Calls Tryz.prog 174 #[fZ C,.int .i64 a,.int .i64 b,.int .i64 c,.pointer (some ⟨x,0,none⟩)] w fun e w'=>∃r s':Int,e= .returned (.int .i64 r)∧(r=a∨r=b∨r=c)∧bU C w' D∧w'.heap[x]? =some (.cells #[.int .i64 s'] 3 (0,0))∧w.grownBy w' (some x):=by
  have j0:=So.mk h;have hxl:x<w.heap.size:=dB hx;have F:dw w.heap.size x:=⟨by omega⟩;have G:=aQ.mk hx;have z:Fx x w w:=⟨ia (RowKit.Below.refl _ _)⟩;have I:=aQ.mk (fG w (.cells (cK C) 162));have H:aQ (w.alloc (.cells (cK C) 162)) x #[.int .i64 s] 3:=⟨bu hx _⟩;clear h hx hxl;have hu:=Tryz.underlying162;go_enter Tryz.func174,Tryz.ntmps174
  go_wp2_with (first|(go_at_call 175;refine(xt C _ _ So.out _ _ inferInstance inferInstance x _ (by omega) (by omega) aQ.out hg u).mono ?_;rintro e w2 ⟨r1,r2,s2,rfl,hr,h1,h2,h3,h4,h5⟩;obtain⟨i1,i2⟩:=wB (n:=C.n) hr inferInstance inferInstance;have k1:=So.mk h3;have k2:=aQ.mk h4;have k3:=Gx.mk h5;clear h3 h4 h5))
  go_ret;refine⟨_,_,rfl,?_,So.out,aQ.out,Fx.out⟩;omega
set_option maxHeartbeats 8000000 in
set_option maxRecDepth 100000 in
set_option synthInstance.maxHeartbeats 400000 in
set_option synthInstance.maxSize 100000 in
theorem vA (C:cC) [dc C] (w:World) (D:Array E) (h:bU C w D) (a b:Nat) (hab:a<b) (hb:b≤C.n):
    Calls Tryz.prog 165 #[fZ C,.int .i64 a,.int .i64 b] w fun e w'=>∃p k:Int,e= .returned (.tuple #[.int .i64 p,.int .i64 k])∧a≤p∧p<b∧(k=0∨k=1∨k=2)∧RowKit.Below w.heap.size w w':=by
  have j0:=So.mk h;have u:=h.lt;have hbl:=h.mJ;have hsm:=dc.small (C:=C);obtain⟨q,hq⟩:∃q:Int,Int.tdiv ((b:Int)-(a:Int)) 4=q:=⟨_,rfl⟩
  have hq1:0≤q∧4*q≤(b:Int)-a:=by
    rw[←hq,show(b:Int)-(a:Int)=((b-a:Nat):Int)by omega];have:Int.tdiv (((b-a:Nat)):Int) 4=(((b-a)/4:Nat):Int):=rfl;rw[this];omega
  have F:=aQ.mk (fG w (.cells (cK C) 162));have z:aQ ((w.alloc (.cells (cK C) 162)).alloc (.cells #[.int .i64 0] 3)) (w.heap.size+1) #[.int .i64 0] 3:=⟨by have:=fG (w.alloc (.cells (cK C) 162)) (.cells #[.int .i64 0] 3);simpa using this⟩;have jn:Nw w (w.heap.size+1):=⟨by omega⟩;have hu:=Tryz.underlying162;have d2:decide (50≤(b:Int)-(a:Int))=false:=ay (by omega);by_cases h8:8≤(b:Int)-(a:Int)
  · have d1:decide (8≤(b:Int)-(a:Int))=true:=ag h8;have x1:Ix ((a:Int)+q) C.n:=⟨by omega,by omega⟩;have x2:Ix ((a:Int)+q*2) C.n:=⟨by omega,by omega⟩;have x3:Ix ((a:Int)+q*3) C.n:=⟨by omega,by omega⟩;go_enter Tryz.func165,Tryz.ntmps165
    go_wp2_with (first|(go_at_call 174;refine(wY C _ _ So.out _ _ _ inferInstance inferInstance inferInstance (w.heap.size+1) _ (by omega) (by omega) aQ.out (by omega) (by omega)).mono ?_;rintro e w2 ⟨r,s2,rfl,hr,h3,h4,h5⟩;have k1:=So.mk h3;have k2:=aQ.mk h4;have k3:=Gx.mk h5;clear h3 h4 h5))
    all_goals go_ret2
    all_goals exact⟨_,_,rfl,by omega,by omega,by omega,From.out⟩
  · have d1:decide (8≤(b:Int)-(a:Int))=false:=ay h8;go_enter Tryz.func165,Tryz.ntmps165;go_wp2
    all_goals go_ret2
    all_goals exact⟨_,_,rfl,by omega,by omega,by omega,From.out⟩
theorem xH {lt:E→E→Bool} {a b:Nat} {D:Array E} (h:b-a<50):partialInsertionSort lt D a b=(D,decide (scanSorted lt D b (a+1)=b)):=by
  unfold partialInsertionSort;rw[partialIns];by_cases hb:scanSorted lt D b (a+1)=b
  · simp[hb]
  · simp[hb,h]
set_option maxHeartbeats 8000000 in
set_option maxRecDepth 100000 in
set_option synthInstance.maxHeartbeats 400000 in
set_option synthInstance.maxSize 100000 in
theorem xG (C:cC) [dc C] (w:World) (D:Array E) (h:bU C w D) (a b:Nat) (hab:a<b) (hb:b≤C.n):
    Calls Tryz.prog 167 #[fZ C,.int .i64 a,.int .i64 b] w fun e w'=>∃r:Bool,e= .returned (.bool r)∧partialInsertionSort aG D a b=(D,r)∧RowKit.Below w.heap.size w w':=by
  have j0:=So.mk h;have hsm:=dc.small (C:=C);have z:=ae.mk (xH (lt:=aG) (D:=D) (show b-a<50 by omega));have F:=fG w (.cells (cK C) 162);have d50:decide ((b:Int)-(a:Int)<50)=true:=ag (by omega);clear h;have hu:=Tryz.underlying162;go_enter Tryz.func167,Tryz.ntmps167;go_wp2
  go_loopw [7,8] (fun v7 v8 wr=>v7= .int .i64 ((a:Int)+1)∧v8= .int .i64 0∧So C wr D∧From w wr∧aQ wr w.heap.size (cK C) 162) (fun _ _ _=>0)
  case atStart=>exact⟨rfl,rfl,inferInstance,inferInstance,⟨F⟩⟩
  case round=>
    clear j0 F;obtain⟨rfl,rfl,j1,j2,u⟩:=hrel;go_wp2
    go_loopw [7] (fun v7 wr=>∃i:Nat,v7= .int .i64 i∧ae (a<i)∧ae (i≤b)∧So C wr D∧From w wr∧aQ wr w.heap.size (cK C) 162∧ae (scanSorted aG D b i=scanSorted aG D b (a+1))) (fun v _=>b-(intOf v).toNat)
    case atStart=>exact⟨a+1,by go_num,⟨by omega⟩,⟨by omega⟩,j1,j2,u,⟨rfl⟩⟩
    case round=>
      clear j1 j2 u;obtain⟨i,rfl,G,H,j1,j2,u,HO⟩:=hrel;have J:=G.out;have hib:=H.out;by_cases c1:i<b
      · have d1:decide ((i:Int)<(b:Int))=true:=ag (by omega);have d3:((i:Int)==(b:Int))=false:=beq_eq_false_iff_ne.mpr (by omega);have x1:Ix (i:Int) C.n:=⟨by omega,by omega⟩;have x2:Ix ((i:Int)-1) C.n:=⟨by omega,by omega⟩;cases l:aG D[i]! D[i-1]! with
        |true=>
         have y1:bZ D (i:Int) ((i:Int)-1) true:=bZ.of l rfl (by omega);have hs:=ae.mk (scanSorted_stop (lt:=aG) D b i (.inr l));clear l
         go_wp2_with (first|(go_at_call 142;refine(eD _ _).mono ?_;rintro e w2 ⟨rfl,hb⟩;have I:=aw.mk hb;clear hb))
         go_ret;refine⟨false,rfl,?_,From.out⟩;rw[z.out,←HO.out,hs.out,ay (by omega)]
        |false=>
         have y1:bZ D (i:Int) ((i:Int)-1) false:=bZ.of l rfl (by omega);have hs:=ae.mk (scanSorted_go (lt:=aG) D b i c1 l);clear l
         go_wp2_with (first|(go_at_call 142;refine(eD _ _).mono ?_;rintro e w2 ⟨rfl,hb⟩;have I:=aw.mk hb;clear hb))
         exact⟨⟨i+1,by go_num,⟨by omega⟩,⟨by omega⟩,inferInstance,inferInstance,inferInstance,⟨by rw[←HO.out,hs.out]⟩⟩,by simp[intOf];omega⟩
      · have d1:decide ((i:Int)<(b:Int))=false:=ay (by omega);obtain rfl:i=b:=(by omega);have hs:=ae.mk (scanSorted_stop (lt:=aG) D i i (.inl (by omega)));go_wp2;go_ret;refine⟨true,rfl,?_,From.out⟩;rw[z.out,←HO.out,hs.out,ag rfl]
theorem sk (D:Array E) (a b p i j:Nat) (hi:scanUp (fun x=>aG x (swp D a p)[a]!) (swp D a p) (b-1) (a+1)=i) (hj:scanDown (fun x=> !aG x (swp D a p)[a]!) (swp D a p) i (b-1)=j) (h:i>j):
    partition aG D a b p=(j,true,swp (swp D a p) j a):=by
  unfold partition;simp only[hi,hj,aq h]
theorem xM (D:Array E) (a b p i j:Nat) (hi:scanUp (fun x=>aG x (swp D a p)[a]!) (swp D a p) (b-1) (a+1)=i) (hj:scanDown (fun x=> !aG x (swp D a p)[a]!) (swp D a p) i (b-1)=j) (h:¬i>j):
    partition aG D a b p=((partLoop aG a (i+1) (j-1) (swp (swp D a p) i j)).1,false,swp (partLoop aG a (i+1) (j-1) (swp (swp D a p) i j)).2 (partLoop aG a (i+1) (j-1) (swp (swp D a p) i j)).1 a):=by
  unfold partition;simp only[hi,hj,au h]
set_option maxHeartbeats 16000000 in
set_option maxRecDepth 100000 in
set_option synthInstance.maxHeartbeats 400000 in
set_option synthInstance.maxSize 100000 in
theorem xL (C:cC) [dc C] (w:World) (D:Array E) (h:bU C w D) (a b p:Nat) (hap:a≤p) (hpb:p<b) (hb:b≤C.n):
    Calls Tryz.prog 169 #[fZ C,.int .i64 a,.int .i64 b,.int .i64 p] w fun e w'=>e= .returned (.tuple #[.int .i64 (partition aG D a b p).1,.bool (partition aG D a b p).2.1])∧bU C w' (partition aG D a b p).2.2∧w.grownBy w' (some C.g):=by
  have j0:=So.mk h;have hsm:=dc.small (C:=C);have aL:dw w.heap.size C.g:=⟨Nat.ne_of_gt h.lt⟩;have aK:=aQ.mk (fG w (.cells (cK C) 162));have aM:Ix (a:Int) C.n:=⟨by omega,by omega⟩;have aN:Ix (p:Int) C.n:=⟨by omega,by omega⟩;obtain⟨R,G⟩:∃R,partition aG D a b p=R:=⟨_,rfl⟩;rw[G];have G:=ae.mk G.symm;clear h;have hu:=Tryz.underlying162;go_enter Tryz.func169,Tryz.ntmps169;go_wp2;have aI:So C (iL C D (w.alloc (.cells (cK C) 162)) (a:Int) (p:Int)) (swp D a p):=⟨dR (D':=swp D a p) inferInstance rfl⟩;have aH:Fr C w (iL C D (w.alloc (.cells (cK C) 162)) (a:Int) (p:Int)):=inferInstance;have aJ:aQ (iL C D (w.alloc (.cells (cK C) 162)) (a:Int) (p:Int)) w.heap.size (cK C) 162:=inferInstance;clear j0 aK
  go_loopw [10] (fun v wr=>∃i1:Nat,v= .int .i64 i1∧ae (a<i1)∧ae (i1≤b-1+1)∧So C wr (swp D a p)∧Fr C w wr∧aQ wr w.heap.size (cK C) 162∧ae (scanUp (fun x=>aG x (swp D a p)[a]!) (swp D a p) (b-1) i1=scanUp (fun x=>aG x (swp D a p)[a]!) (swp D a p) (b-1) (a+1))) (fun v _=>b-1+1-(intOf v).toNat)
  case atStart=>exact⟨a+1,by first|rfl|go_num,⟨by omega⟩,⟨by omega⟩,inferInstance,inferInstance,inferInstance,⟨rfl⟩⟩
  case round=>
    clear aI aJ aH;obtain⟨i1,rfl,ak,am,m1,m2,m3,z⟩:=hrel;have ha1:=ak.out;have hb1:=am.out;have x2:Ix (a:Int) C.n:=⟨by omega,by omega⟩;by_cases c1:i1≤b-1∧aG (swp D a p)[i1]! (swp D a p)[a]! =true
    · obtain⟨c1,l⟩:=c1;have d1:decide ((i1:Int)≤(b:Int)-1)=true:=ag (by omega);have x1:Ix (i1:Int) C.n:=⟨by omega,by omega⟩;have y1:bZ (swp D a p) (i1:Int) (a:Int) true:=bZ.of l rfl rfl;have hs:=ae.mk (scanUp_go (fun x=>aG x (swp D a p)[a]!) (swp D a p) (b-1) i1 c1 l);clear l
      go_wp2_with (first|(go_at_call 142;refine(eD _ _).mono ?_;rintro e w2 ⟨rfl,hb⟩;have J:=aw.mk hb;clear hb))
      first
        |exact⟨⟨i1+1,by first|rfl|go_num,⟨by omega⟩,⟨by omega⟩,inferInstance,inferInstance,inferInstance,⟨by rw[←z.out,hs.out]⟩⟩,by simp[intOf];omega⟩
        |(go_roundw;(case rel=>((repeat apply Exists.intro);exact⟨⟨i1+1,by first|rfl|go_num,⟨by omega⟩,⟨by omega⟩,inferInstance,inferInstance,inferInstance,⟨by rw[←z.out,hs.out]⟩⟩,(by first|rfl|(simp only[Int.natCast_add,Int.natCast_one];rfl)|(simp only[Int.natCast_add,Int.natCast_one,I];rfl))⟩));(case measure=>first|(simp[intOf];omega)|(simp[intOf];done)))
    · have X:ae (scanUp (fun x=>aG x (swp D a p)[a]!) (swp D a p) (b-1) (a+1)=i1):=⟨by
        rw[←z.out];refine scanUp_end (fun x=>aG x (swp D a p)[a]!) (swp D a p) (b-1) i1 ?_;by_cases c:i1≤b-1
        · refine .inr ?_
          have:aG (swp D a p)[i1]! (swp D a p)[a]! =false:=by
            cases h:aG (swp D a p)[i1]! (swp D a p)[a]! with
            |true=>exact absurd ⟨c,h⟩ c1
            |false=>rfl
          simp[this]
        · exact .inl c⟩
      have step:(i1≤b-1∧aG (swp D a p)[i1]! (swp D a p)[a]! =false)∨¬i1≤b-1:=by
        by_cases c:i1≤b-1
        · refine .inl ⟨c,?_⟩;cases h:aG (swp D a p)[i1]! (swp D a p)[a]! with
          |true=>exact absurd ⟨c,h⟩ c1
          |false=>rfl
        · exact .inr c
      clear c1 z;rcases step with ⟨c1,l⟩|c1
      · have d1:decide ((i1:Int)≤(b:Int)-1)=true:=ag (by omega);have x1:Ix (i1:Int) C.n:=⟨by omega,by omega⟩;have y1:bZ (swp D a p) (i1:Int) (a:Int) false:=bZ.of l rfl rfl;have ad:=ae.mk l;clear l
        go_wp2_with (first|(go_at_call 142;refine(eD _ _).mono ?_;rintro e w2 ⟨rfl,hb⟩;have J:=aw.mk hb;clear hb))
        clear d1
        go_loopw [11] (fun v wr=>∃j1:Nat,v= .int .i64 j1∧ae (i1≤j1+1)∧ae (j1≤b-1)∧So C wr (swp D a p)∧Fr C w wr∧aQ wr w.heap.size (cK C) 162∧ae (scanDown (fun x=> !aG x (swp D a p)[a]!) (swp D a p) i1 j1=scanDown (fun x=> !aG x (swp D a p)[a]!) (swp D a p) i1 (b-1))) (fun v _=>(intOf v).toNat)
        case atStart=>exact⟨b-1,by first|rfl|(congr 1;omega),⟨by omega⟩,⟨by omega⟩,inferInstance,inferInstance,inferInstance,⟨rfl⟩⟩
        case round=>
          clear m1 m2 m3;obtain⟨j1,rfl,af,ai,n1,n2,n3,z⟩:=hrel;have hc1:=af.out;have aB:=ai.out;by_cases c2:i1≤j1∧aG (swp D a p)[j1]! (swp D a p)[a]! =false
          · obtain⟨c2,l⟩:=c2;have d2:decide ((i1:Int)≤(j1:Int))=true:=ag (by omega);have H:decide (i1≤j1)=true:=ag (by omega);have x3:Ix (j1:Int) C.n:=⟨by omega,by omega⟩;have Z:bZ (swp D a p) (j1:Int) (a:Int) false:=bZ.of l rfl rfl;have hs:=ae.mk (scanDown_go (fun x=> !aG x (swp D a p)[a]!) (swp D a p) i1 j1 c2 (by omega) (by simp[l]));clear l
            go_wp2_with (first|(go_at_call 142;refine(eD _ _).mono ?_;rintro e w2 ⟨rfl,hb⟩;have J:=aw.mk hb;clear hb))
            have I:((j1-1:Nat):Int)=(j1:Int)-1:=by omega
            first
              |exact⟨⟨j1-1,by first|rfl|(congr 1;omega),⟨by omega⟩,⟨by omega⟩,inferInstance,inferInstance,inferInstance,⟨by rw[←z.out,hs.out]⟩⟩,by simp[intOf];omega⟩
              |(go_roundw;(case rel=>((repeat apply Exists.intro);exact⟨⟨j1-1,by first|rfl|(congr 1;omega),⟨by omega⟩,⟨by omega⟩,inferInstance,inferInstance,inferInstance,⟨by rw[←z.out,hs.out]⟩⟩,(by first|rfl|(simp only[Int.natCast_add,Int.natCast_one];rfl)|(simp only[Int.natCast_add,Int.natCast_one,I];rfl))⟩));(case measure=>first|(simp[intOf];omega)|(simp[intOf];done)))
          · have Y:ae (scanDown (fun x=> !aG x (swp D a p)[a]!) (swp D a p) i1 (b-1)=j1):=⟨by
              rw[←z.out];refine scanDown_end (fun x=> !aG x (swp D a p)[a]!) (swp D a p) i1 j1 ?_;by_cases c:i1≤j1
              · refine .inr ?_
                have:aG (swp D a p)[j1]! (swp D a p)[a]! =true:=by
                  cases h:aG (swp D a p)[j1]! (swp D a p)[a]! with
                  |false=>exact absurd ⟨c,h⟩ c2
                  |true=>rfl
                simp[this]
              · exact .inl c⟩
            have step:(i1≤j1∧aG (swp D a p)[j1]! (swp D a p)[a]! =true)∨¬i1≤j1:=by
              by_cases c:i1≤j1
              · refine .inl ⟨c,?_⟩;cases h:aG (swp D a p)[j1]! (swp D a p)[a]! with
                |false=>exact absurd ⟨c,h⟩ c2
                |true=>rfl
              · exact .inr c
            clear c2 z;rcases step with ⟨c2,l⟩|c2
            · have d2:decide ((i1:Int)≤(j1:Int))=true:=ag (by omega);have H:decide (i1≤j1)=true:=ag (by omega);have d3:decide ((j1:Int)<(i1:Int))=false:=ay (by omega);have K:decide (j1<i1)=false:=ay (by omega);have x3:Ix (j1:Int) C.n:=⟨by omega,by omega⟩;have x1:Ix (i1:Int) C.n:=⟨by omega,by omega⟩;have Z:bZ (swp D a p) (j1:Int) (a:Int) true:=bZ.of l rfl rfl
              have hge:a+1≤i1:=by
                have:=scanUp_ge (fun x=>aG x (swp D a p)[a]!) (swp D a p) (b-1) (a+1);rw[X.out]at this;exact this
              have hne:i1≠j1:=by
                rintro rfl;have:=ad.out;rw[l]at this;cases this
              clear l
              go_wp2_with (first|(go_at_call 142;refine(eD _ _).mono ?_;rintro e w2 ⟨rfl,hb⟩;have J:=aw.mk hb;clear hb))
              have V:=ae.mk (xM D a b p i1 j1 X.out Y.out (by omega))
              go_loopw [10,11] (fun v u wr=>∃(i j:Nat) (dk:Array E),v= .int .i64 i∧u= .int .i64 j∧ae (a<i)∧ae (i≤j+1)∧ae (j<b)∧So C wr dk∧Fr C w wr∧aQ wr w.heap.size (cK C) 162∧ae (partLoop aG a i j dk=partLoop aG a (i1+1) (j1-1) (swp (swp D a p) i1 j1))) (fun v u _=>(intOf u).toNat+1-(intOf v).toNat)
              case atStart=>exact⟨i1+1,j1-1,swp (swp D a p) i1 j1,by go_num,by congr 1;omega,⟨by omega⟩,⟨by omega⟩,⟨by omega⟩,⟨dR (D':=swp (swp D a p) i1 j1) inferInstance rfl⟩,inferInstance,inferInstance,⟨rfl⟩⟩
              case round=>
                clear n1 n2 n3 d2 d3 H K Z x1 x3;obtain⟨i,j,dk,rfl,rfl,ap,ar,av,aD,aE,aF,HO⟩:=hrel;have hp:=ap.out;have hq:=ar.out;have hr:=av.out;go_wp2
                go_loopw [10] (fun v wr=>∃i2:Nat,v= .int .i64 i2∧ae (a<i2)∧ae (i2≤j+1)∧So C wr dk∧Fr C w wr∧aQ wr w.heap.size (cK C) 162∧ae (scanUp (fun x=>aG x dk[a]!) dk (j) i2=scanUp (fun x=>aG x dk[a]!) dk (j) (i))) (fun v _=>j+1-(intOf v).toNat)
                case atStart=>exact⟨i,by first|rfl|go_num,⟨by omega⟩,⟨by omega⟩,inferInstance,inferInstance,inferInstance,⟨rfl⟩⟩
                case round=>
                  clear aD aE aF;obtain⟨i2,rfl,al,ao,m1,m2,m3,F⟩:=hrel;have ha2:=al.out;have hb2:=ao.out;have x2:Ix (a:Int) C.n:=⟨by omega,by omega⟩;by_cases c1:i2≤j∧aG dk[i2]! dk[a]! =true
                  · obtain⟨c1,l⟩:=c1;have d1:decide ((i2:Int)≤(j:Int))=true:=ag (by omega);have x1:Ix (i2:Int) C.n:=⟨by omega,by omega⟩;have y1:bZ dk (i2:Int) (a:Int) true:=bZ.of l rfl rfl;have hs:=ae.mk (scanUp_go (fun x=>aG x dk[a]!) dk (j) i2 c1 l);clear l
                    go_wp2_with (first|(go_at_call 142;refine(eD _ _).mono ?_;rintro e w2 ⟨rfl,hb⟩;have J:=aw.mk hb;clear hb))
                    first
                      |exact⟨⟨i2+1,by first|rfl|go_num,⟨by omega⟩,⟨by omega⟩,inferInstance,inferInstance,inferInstance,⟨by rw[←F.out,hs.out]⟩⟩,by simp[intOf];omega⟩
                      |(go_roundw;(case rel=>((repeat apply Exists.intro);exact⟨⟨i2+1,by first|rfl|go_num,⟨by omega⟩,⟨by omega⟩,inferInstance,inferInstance,inferInstance,⟨by rw[←F.out,hs.out]⟩⟩,(by first|rfl|(simp only[Int.natCast_add,Int.natCast_one];rfl)|(simp only[Int.natCast_add,Int.natCast_one,I];rfl))⟩));(case measure=>first|(simp[intOf];omega)|(simp[intOf];done)))
                  · have O:ae (scanUp (fun x=>aG x dk[a]!) dk (j) (i)=i2):=⟨by
                      rw[←F.out];refine scanUp_end (fun x=>aG x dk[a]!) dk (j) i2 ?_;by_cases c:i2≤j
                      · refine .inr ?_
                        have:aG dk[i2]! dk[a]! =false:=by
                          cases h:aG dk[i2]! dk[a]! with
                          |true=>exact absurd ⟨c,h⟩ c1
                          |false=>rfl
                        simp[this]
                      · exact .inl c⟩
                    have step:(i2≤j∧aG dk[i2]! dk[a]! =false)∨¬i2≤j:=by
                      by_cases c:i2≤j
                      · refine .inl ⟨c,?_⟩;cases h:aG dk[i2]! dk[a]! with
                        |true=>exact absurd ⟨c,h⟩ c1
                        |false=>rfl
                      · exact .inr c
                    clear c1 F;rcases step with ⟨c1,l⟩|c1
                    · have d1:decide ((i2:Int)≤(j:Int))=true:=ag (by omega);have x1:Ix (i2:Int) C.n:=⟨by omega,by omega⟩;have y1:bZ dk (i2:Int) (a:Int) false:=bZ.of l rfl rfl;have ad:=ae.mk l;clear l
                      go_wp2_with (first|(go_at_call 142;refine(eD _ _).mono ?_;rintro e w2 ⟨rfl,hb⟩;have J:=aw.mk hb;clear hb))
                      clear d1
                      go_loopw [11] (fun v wr=>∃j2:Nat,v= .int .i64 j2∧ae (i2≤j2+1)∧ae (j2≤j)∧So C wr dk∧Fr C w wr∧aQ wr w.heap.size (cK C) 162∧ae (scanDown (fun x=> !aG x dk[a]!) dk i2 j2=scanDown (fun x=> !aG x dk[a]!) dk i2 (j))) (fun v _=>(intOf v).toNat)
                      case atStart=>exact⟨j,by first|rfl|(congr 1;omega),⟨by omega⟩,⟨by omega⟩,inferInstance,inferInstance,inferInstance,⟨rfl⟩⟩
                      case round=>
                        clear m1 m2 m3;obtain⟨j2,rfl,ah,aj,n1,n2,n3,F⟩:=hrel;have hc2:=ah.out;have hd2:=aj.out;by_cases c2:i2≤j2∧aG dk[j2]! dk[a]! =false
                        · obtain⟨c2,l⟩:=c2;have d2:decide ((i2:Int)≤(j2:Int))=true:=ag (by omega);have H:decide (i2≤j2)=true:=ag (by omega);have x3:Ix (j2:Int) C.n:=⟨by omega,by omega⟩;have Z:bZ dk (j2:Int) (a:Int) false:=bZ.of l rfl rfl;have hs:=ae.mk (scanDown_go (fun x=> !aG x dk[a]!) dk i2 j2 c2 (by omega) (by simp[l]));clear l
                          go_wp2_with (first|(go_at_call 142;refine(eD _ _).mono ?_;rintro e w2 ⟨rfl,hb⟩;have J:=aw.mk hb;clear hb))
                          have I:((j2-1:Nat):Int)=(j2:Int)-1:=by omega
                          first
                            |exact⟨⟨j2-1,by first|rfl|(congr 1;omega),⟨by omega⟩,⟨by omega⟩,inferInstance,inferInstance,inferInstance,⟨by rw[←F.out,hs.out]⟩⟩,by simp[intOf];omega⟩
                            |(go_roundw;(case rel=>((repeat apply Exists.intro);exact⟨⟨j2-1,by first|rfl|(congr 1;omega),⟨by omega⟩,⟨by omega⟩,inferInstance,inferInstance,inferInstance,⟨by rw[←F.out,hs.out]⟩⟩,(by first|rfl|(simp only[Int.natCast_add,Int.natCast_one];rfl)|(simp only[Int.natCast_add,Int.natCast_one,I];rfl))⟩));(case measure=>first|(simp[intOf];omega)|(simp[intOf];done)))
                        · have U:ae (scanDown (fun x=> !aG x dk[a]!) dk i2 (j)=j2):=⟨by
                            rw[←F.out];refine scanDown_end (fun x=> !aG x dk[a]!) dk i2 j2 ?_;by_cases c:i2≤j2
                            · refine .inr ?_
                              have:aG dk[j2]! dk[a]! =true:=by
                                cases h:aG dk[j2]! dk[a]! with
                                |false=>exact absurd ⟨c,h⟩ c2
                                |true=>rfl
                              simp[this]
                            · exact .inl c⟩
                          have step:(i2≤j2∧aG dk[j2]! dk[a]! =true)∨¬i2≤j2:=by
                            by_cases c:i2≤j2
                            · refine .inl ⟨c,?_⟩;cases h:aG dk[j2]! dk[a]! with
                              |false=>exact absurd ⟨c,h⟩ c2
                              |true=>rfl
                            · exact .inr c
                          clear c2 F;rcases step with ⟨c2,l⟩|c2
                          · have d2:decide ((i2:Int)≤(j2:Int))=true:=ag (by omega);have H:decide (i2≤j2)=true:=ag (by omega);have d3:decide ((j2:Int)<(i2:Int))=false:=ay (by omega);have K:decide (j2<i2)=false:=ay (by omega);have x3:Ix (j2:Int) C.n:=⟨by omega,by omega⟩;have x1:Ix (i2:Int) C.n:=⟨by omega,by omega⟩;have Z:bZ dk (j2:Int) (a:Int) true:=bZ.of l rfl rfl
                            have hge:i≤i2:=by
                              have:=scanUp_ge (fun x=>aG x dk[a]!) dk (j) (i);rw[O.out]at this;exact this
                            have hne:i2≠j2:=by
                              rintro rfl;have:=ad.out;rw[l]at this;cases this
                            clear l
                            go_wp2_with (first|(go_at_call 142;refine(eD _ _).mono ?_;rintro e w2 ⟨rfl,hb⟩;have J:=aw.mk hb;clear hb))
                            have I:((j2-1:Nat):Int)=(j2:Int)-1:=by omega
                            first
                              |exact⟨⟨i2+1,j2-1,swp dk i2 j2,by first|rfl|go_num,by first|rfl|(congr 1;omega),⟨by omega⟩,⟨by omega⟩,⟨by omega⟩,⟨dR (D':=swp dk i2 j2) inferInstance rfl⟩,inferInstance,inferInstance,⟨by
                              rw[←HO.out,partLoop_eq aG a i j dk,O.out,U.out,au (by omega)]⟩⟩,by simp[intOf];omega⟩
                              |(go_roundw;(case rel=>((repeat apply Exists.intro);exact⟨⟨i2+1,j2-1,swp dk i2 j2,by first|rfl|go_num,by first|rfl|(congr 1;omega),⟨by omega⟩,⟨by omega⟩,⟨by omega⟩,⟨dR (D':=swp dk i2 j2) inferInstance rfl⟩,inferInstance,inferInstance,⟨by
                              rw[←HO.out,partLoop_eq aG a i j dk,O.out,U.out,au (by omega)]⟩⟩,(by first|rfl|(simp only[Int.natCast_add,Int.natCast_one];rfl)|(simp only[Int.natCast_add,Int.natCast_one,I];rfl))⟩));(case measure=>first|(simp[intOf];omega)|(simp[intOf];done)))
                          · have d2:decide ((i2:Int)≤(j2:Int))=false:=ay (by omega);have H:decide (i2≤j2)=false:=ay (by omega);have d3:decide ((j2:Int)<(i2:Int))=true:=ag (by omega);have K:decide (j2<i2)=true:=ag (by omega);have x3:Ix (j2:Int) C.n:=⟨by omega,by omega⟩;go_wp2;go_ret2;have hz:=HO.out;rw[partLoop_eq aG a i j dk,O.out,U.out,aq (by omega)]at hz;refine⟨by rw[G.out,V.out,←hz];rfl,dR (D':=R.2.2) (D:=swp dk j2 a) ⟨dR (D':=swp dk j2 a) inferInstance rfl⟩ (by rw[G.out,V.out,←hz]),Fr.out⟩
                    · have d1:decide ((i2:Int)≤(j:Int))=false:=ay (by omega);go_wp2
                      go_loopw [11] (fun v wr=>∃j2:Nat,v= .int .i64 j2∧ae (i2≤j2+1)∧ae (j2≤j)∧So C wr dk∧Fr C w wr∧aQ wr w.heap.size (cK C) 162∧ae (scanDown (fun x=> !aG x dk[a]!) dk i2 j2=scanDown (fun x=> !aG x dk[a]!) dk i2 (j))) (fun v _=>(intOf v).toNat)
                      case atStart=>exact⟨j,by first|rfl|(congr 1;omega),⟨by omega⟩,⟨by omega⟩,inferInstance,inferInstance,inferInstance,⟨rfl⟩⟩
                      case round=>
                        clear m1 m2 m3;obtain⟨j2,rfl,ah,aj,n1,n2,n3,F⟩:=hrel;have hc2:=ah.out;have hd2:=aj.out;have c2:¬i2≤j2:=by omega
                        have U:ae (scanDown (fun x=> !aG x dk[a]!) dk i2 (j)=j2):=⟨by
                          rw[←F.out];exact scanDown_end (fun x=> !aG x dk[a]!) dk i2 j2 (.inl c2)⟩
                        clear F;have d2:decide ((i2:Int)≤(j2:Int))=false:=ay (by omega);have H:decide (i2≤j2)=false:=ay (by omega);have d3:decide ((j2:Int)<(i2:Int))=true:=ag (by omega);have K:decide (j2<i2)=true:=ag (by omega);have x3:Ix (j2:Int) C.n:=⟨by omega,by omega⟩;go_wp2;go_ret2;have hz:=HO.out;rw[partLoop_eq aG a i j dk,O.out,U.out,aq (by omega)]at hz;refine⟨by rw[G.out,V.out,←hz];rfl,dR (D':=R.2.2) (D:=swp dk j2 a) ⟨dR (D':=swp dk j2 a) inferInstance rfl⟩ (by rw[G.out,V.out,←hz]),Fr.out⟩
            · have d2:decide ((i1:Int)≤(j1:Int))=false:=ay (by omega);have H:decide (i1≤j1)=false:=ay (by omega);have d3:decide ((j1:Int)<(i1:Int))=true:=ag (by omega);have K:decide (j1<i1)=true:=ag (by omega);have x3:Ix (j1:Int) C.n:=⟨by omega,by omega⟩;go_wp2;go_ret2;have hz:=sk D a b p i1 j1 X.out Y.out (by omega);refine⟨by rw[G.out,hz];rfl,dR (D':=R.2.2) (D:=swp (swp D a p) j1 a) ⟨dR (D':=swp (swp D a p) j1 a) inferInstance rfl⟩ (by rw[G.out,hz]),Fr.out⟩
      · have d1:decide ((i1:Int)≤(b:Int)-1)=false:=ay (by omega);go_wp2
        go_loopw [11] (fun v wr=>∃j1:Nat,v= .int .i64 j1∧ae (i1≤j1+1)∧ae (j1≤b-1)∧So C wr (swp D a p)∧Fr C w wr∧aQ wr w.heap.size (cK C) 162∧ae (scanDown (fun x=> !aG x (swp D a p)[a]!) (swp D a p) i1 j1=scanDown (fun x=> !aG x (swp D a p)[a]!) (swp D a p) i1 (b-1))) (fun v _=>(intOf v).toNat)
        case atStart=>exact⟨b-1,by first|rfl|(congr 1;omega),⟨by omega⟩,⟨by omega⟩,inferInstance,inferInstance,inferInstance,⟨rfl⟩⟩
        case round=>
          clear m1 m2 m3;obtain⟨j1,rfl,af,ai,n1,n2,n3,z⟩:=hrel;have hc1:=af.out;have aB:=ai.out;have c2:¬i1≤j1:=by omega
          have Y:ae (scanDown (fun x=> !aG x (swp D a p)[a]!) (swp D a p) i1 (b-1)=j1):=⟨by
            rw[←z.out];exact scanDown_end (fun x=> !aG x (swp D a p)[a]!) (swp D a p) i1 j1 (.inl c2)⟩
          clear z;have d2:decide ((i1:Int)≤(j1:Int))=false:=ay (by omega);have H:decide (i1≤j1)=false:=ay (by omega);have d3:decide ((j1:Int)<(i1:Int))=true:=ag (by omega);have K:decide (j1<i1)=true:=ag (by omega);have x3:Ix (j1:Int) C.n:=⟨by omega,by omega⟩;go_wp2;go_ret2;have hz:=sk D a b p i1 j1 X.out Y.out (by omega);refine⟨by rw[G.out,hz];rfl,dR (D':=R.2.2) (D:=swp (swp D a p) j1 a) ⟨dR (D':=swp (swp D a p) j1 a) inferInstance rfl⟩ (by rw[G.out,hz]),Fr.out⟩
set_option maxHeartbeats 16000000 in
set_option maxRecDepth 100000 in
set_option synthInstance.maxHeartbeats 400000 in
set_option synthInstance.maxSize 100000 in
theorem xJ (C:cC) [dc C] (w:World) (D:Array E) (h:bU C w D) (a b p:Nat) (hap:a≤p) (hpb:p<b) (hb:b≤C.n):
    Calls Tryz.prog 168 #[fZ C,.int .i64 a,.int .i64 b,.int .i64 p] w fun e w'=>e= .returned (.int .i64 (partitionEqual aG D a b p).1)∧bU C w' (partitionEqual aG D a b p).2∧w.grownBy w' (some C.g):=by
  have j0:=So.mk h;have hsm:=dc.small (C:=C);have al:dw w.heap.size C.g:=⟨Nat.ne_of_gt h.lt⟩;have aj:=aQ.mk (fG w (.cells (cK C) 162));have am:Ix (a:Int) C.n:=⟨by omega,by omega⟩;have ao:Ix (p:Int) C.n:=⟨by omega,by omega⟩;have hR:partitionEqual aG D a b p=partEqLoop aG a (a+1) (b-1) (swp D a p):=rfl;obtain⟨R,V⟩:∃R,partitionEqual aG D a b p=R:=⟨_,rfl⟩;rw[V]at hR ⊢;have hR:=ae.mk hR;clear h V;have hu:=Tryz.underlying162;go_enter Tryz.func168,Tryz.ntmps168;go_wp2
  go_loopw [9,10] (fun v u wr=>∃(i j:Nat) (dk:Array E),v= .int .i64 i∧u= .int .i64 j∧ae (a<i)∧ae (i≤j+1)∧ae (j<b)∧So C wr dk∧Fr C w wr∧aQ wr w.heap.size (cK C) 162∧ae (partEqLoop aG a i j dk=R)) (fun v u _=>(intOf u).toNat+1-(intOf v).toNat)
  case atStart=>exact⟨a+1,b-1,swp D a p,by go_num,by congr 1;omega,⟨by omega⟩,⟨by omega⟩,⟨by omega⟩,⟨dR (D':=swp D a p) inferInstance rfl⟩,inferInstance,inferInstance,⟨hR.out.symm⟩⟩
  case round=>
    clear j0 aj;obtain⟨i,j,dk,rfl,rfl,ad,af,ah,j1,j2,ai,HO⟩:=hrel;have hp:=ad.out;have hq:=af.out;have hr:=ah.out;go_wp2
    go_loopw [9] (fun v wr=>∃i2:Nat,v= .int .i64 i2∧ae (a<i2)∧ae (i2≤j+1)∧So C wr dk∧Fr C w wr∧aQ wr w.heap.size (cK C) 162∧ae (scanUp (fun x=> !aG dk[a]! x) dk (j) i2=scanUp (fun x=> !aG dk[a]! x) dk (j) (i))) (fun v _=>j+1-(intOf v).toNat)
    case atStart=>exact⟨i,by first|rfl|go_num,⟨by omega⟩,⟨by omega⟩,inferInstance,inferInstance,inferInstance,⟨rfl⟩⟩
    case round=>
      clear j1 j2 ai;obtain⟨i2,rfl,Y,Z,m1,m2,m3,z⟩:=hrel;have ha2:=Y.out;have hb2:=Z.out;have x2:Ix (a:Int) C.n:=⟨by omega,by omega⟩;by_cases c1:i2≤j∧aG dk[a]! dk[i2]! =false
      · obtain⟨c1,l⟩:=c1;have d1:decide ((i2:Int)≤(j:Int))=true:=ag (by omega);have x1:Ix (i2:Int) C.n:=⟨by omega,by omega⟩;have y1:bZ dk (a:Int) (i2:Int) false:=bZ.of l rfl rfl;have hs:=ae.mk (scanUp_go (fun x=> !aG dk[a]! x) dk (j) i2 c1 (by simp[l]));clear l
        go_wp2_with (first|(go_at_call 142;refine(eD _ _).mono ?_;rintro e w2 ⟨rfl,hb⟩;have O:=aw.mk hb;clear hb))
        first
          |exact⟨⟨i2+1,by first|rfl|go_num,⟨by omega⟩,⟨by omega⟩,inferInstance,inferInstance,inferInstance,⟨by rw[←z.out,hs.out]⟩⟩,by simp[intOf];omega⟩
          |(go_roundw;(case rel=>((repeat apply Exists.intro);exact⟨⟨i2+1,by first|rfl|go_num,⟨by omega⟩,⟨by omega⟩,inferInstance,inferInstance,inferInstance,⟨by rw[←z.out,hs.out]⟩⟩,(by first|rfl|(simp only[Int.natCast_add,Int.natCast_one];rfl)|(simp only[Int.natCast_add,Int.natCast_one,H];rfl))⟩));(case measure=>first|(simp[intOf];omega)|(simp[intOf];done)))
      · have F:ae (scanUp (fun x=> !aG dk[a]! x) dk (j) (i)=i2):=⟨by
          rw[←z.out];refine scanUp_end (fun x=> !aG dk[a]! x) dk (j) i2 ?_;by_cases c:i2≤j
          · refine .inr ?_
            have:aG dk[a]! dk[i2]! =true:=by
              cases h:aG dk[a]! dk[i2]! with
              |false=>exact absurd ⟨c,h⟩ c1
              |true=>rfl
            simp[this]
          · exact .inl c⟩
        have step:(i2≤j∧aG dk[a]! dk[i2]! =true)∨¬i2≤j:=by
          by_cases c:i2≤j
          · refine .inl ⟨c,?_⟩;cases h:aG dk[a]! dk[i2]! with
            |false=>exact absurd ⟨c,h⟩ c1
            |true=>rfl
          · exact .inr c
        clear c1 z;rcases step with ⟨c1,l⟩|c1
        · have d1:decide ((i2:Int)≤(j:Int))=true:=ag (by omega);have x1:Ix (i2:Int) C.n:=⟨by omega,by omega⟩;have y1:bZ dk (a:Int) (i2:Int) true:=bZ.of l rfl rfl;have X:=ae.mk l;clear l
          go_wp2_with (first|(go_at_call 142;refine(eD _ _).mono ?_;rintro e w2 ⟨rfl,hb⟩;have O:=aw.mk hb;clear hb))
          clear d1
          go_loopw [10] (fun v wr=>∃j2:Nat,v= .int .i64 j2∧ae (i2≤j2+1)∧ae (j2≤j)∧So C wr dk∧Fr C w wr∧aQ wr w.heap.size (cK C) 162∧ae (scanDown (fun x=>aG dk[a]! x) dk i2 j2=scanDown (fun x=>aG dk[a]! x) dk i2 (j))) (fun v _=>(intOf v).toNat)
          case atStart=>exact⟨j,by first|rfl|(congr 1;omega),⟨by omega⟩,⟨by omega⟩,inferInstance,inferInstance,inferInstance,⟨rfl⟩⟩
          case round=>
            clear m1 m2 m3;obtain⟨j2,rfl,I,J,n1,n2,n3,z⟩:=hrel;have hc2:=I.out;have hd2:=J.out;by_cases c2:i2≤j2∧aG dk[a]! dk[j2]! =true
            · obtain⟨c2,l⟩:=c2;have d2:decide ((i2:Int)≤(j2:Int))=true:=ag (by omega);have K:decide (i2≤j2)=true:=ag (by omega);have x3:Ix (j2:Int) C.n:=⟨by omega,by omega⟩;have ak:bZ dk (a:Int) (j2:Int) true:=bZ.of l rfl rfl;have hs:=ae.mk (scanDown_go (fun x=>aG dk[a]! x) dk i2 j2 c2 (by omega) l);clear l
              go_wp2_with (first|(go_at_call 142;refine(eD _ _).mono ?_;rintro e w2 ⟨rfl,hb⟩;have O:=aw.mk hb;clear hb))
              have H:((j2-1:Nat):Int)=(j2:Int)-1:=by omega
              first
                |exact⟨⟨j2-1,by first|rfl|(congr 1;omega),⟨by omega⟩,⟨by omega⟩,inferInstance,inferInstance,inferInstance,⟨by rw[←z.out,hs.out]⟩⟩,by simp[intOf];omega⟩
                |(go_roundw;(case rel=>((repeat apply Exists.intro);exact⟨⟨j2-1,by first|rfl|(congr 1;omega),⟨by omega⟩,⟨by omega⟩,inferInstance,inferInstance,inferInstance,⟨by rw[←z.out,hs.out]⟩⟩,(by first|rfl|(simp only[Int.natCast_add,Int.natCast_one];rfl)|(simp only[Int.natCast_add,Int.natCast_one,H];rfl))⟩));(case measure=>first|(simp[intOf];omega)|(simp[intOf];done)))
            · have G:ae (scanDown (fun x=>aG dk[a]! x) dk i2 (j)=j2):=⟨by
                rw[←z.out];refine scanDown_end (fun x=>aG dk[a]! x) dk i2 j2 ?_;by_cases c:i2≤j2
                · refine .inr ?_
                  have:aG dk[a]! dk[j2]! =false:=by
                    cases h:aG dk[a]! dk[j2]! with
                    |true=>exact absurd ⟨c,h⟩ c2
                    |false=>rfl
                  simp[this]
                · exact .inl c⟩
              have step:(i2≤j2∧aG dk[a]! dk[j2]! =false)∨¬i2≤j2:=by
                by_cases c:i2≤j2
                · refine .inl ⟨c,?_⟩;cases h:aG dk[a]! dk[j2]! with
                  |true=>exact absurd ⟨c,h⟩ c2
                  |false=>rfl
                · exact .inr c
              clear c2 z;rcases step with ⟨c2,l⟩|c2
              · have d2:decide ((i2:Int)≤(j2:Int))=true:=ag (by omega);have K:decide (i2≤j2)=true:=ag (by omega);have d3:decide ((j2:Int)<(i2:Int))=false:=ay (by omega);have U:decide (j2<i2)=false:=ay (by omega);have x3:Ix (j2:Int) C.n:=⟨by omega,by omega⟩;have x1:Ix (i2:Int) C.n:=⟨by omega,by omega⟩;have ak:bZ dk (a:Int) (j2:Int) false:=bZ.of l rfl rfl
                have hge:i≤i2:=by
                  have:=scanUp_ge (fun x=> !aG dk[a]! x) dk (j) (i);rw[F.out]at this;exact this
                have hne:i2≠j2:=by
                  rintro rfl;have:=X.out;rw[l]at this;cases this
                clear l
                go_wp2_with (first|(go_at_call 142;refine(eD _ _).mono ?_;rintro e w2 ⟨rfl,hb⟩;have O:=aw.mk hb;clear hb))
                have H:((j2-1:Nat):Int)=(j2:Int)-1:=by omega
                first
                  |exact⟨⟨i2+1,j2-1,swp dk i2 j2,by first|rfl|go_num,by first|rfl|(congr 1;omega),⟨by omega⟩,⟨by omega⟩,⟨by omega⟩,⟨dR (D':=swp dk i2 j2) inferInstance rfl⟩,inferInstance,inferInstance,⟨by
                  rw[←HO.out,partEqLoop_eq aG a i j dk,F.out,G.out,au (by omega)]⟩⟩,by simp[intOf];omega⟩
                  |(go_roundw;(case rel=>((repeat apply Exists.intro);exact⟨⟨i2+1,j2-1,swp dk i2 j2,by first|rfl|go_num,by first|rfl|(congr 1;omega),⟨by omega⟩,⟨by omega⟩,⟨by omega⟩,⟨dR (D':=swp dk i2 j2) inferInstance rfl⟩,inferInstance,inferInstance,⟨by
                  rw[←HO.out,partEqLoop_eq aG a i j dk,F.out,G.out,au (by omega)]⟩⟩,(by first|rfl|(simp only[Int.natCast_add,Int.natCast_one];rfl)|(simp only[Int.natCast_add,Int.natCast_one,H];rfl))⟩));(case measure=>first|(simp[intOf];omega)|(simp[intOf];done)))
              · have d2:decide ((i2:Int)≤(j2:Int))=false:=ay (by omega);have K:decide (i2≤j2)=false:=ay (by omega);have d3:decide ((j2:Int)<(i2:Int))=true:=ag (by omega);have U:decide (j2<i2)=true:=ag (by omega);have x3:Ix (j2:Int) C.n:=⟨by omega,by omega⟩;go_wp2;go_ret;have hz:=HO.out;rw[partEqLoop_eq aG a i j dk,F.out,G.out,aq (by omega)]at hz;exact⟨by rw[←hz];rfl,dR (D:=dk) inferInstance (by rw[←hz]),Fr.out⟩
        · have d1:decide ((i2:Int)≤(j:Int))=false:=ay (by omega);go_wp2
          go_loopw [10] (fun v wr=>∃j2:Nat,v= .int .i64 j2∧ae (i2≤j2+1)∧ae (j2≤j)∧So C wr dk∧Fr C w wr∧aQ wr w.heap.size (cK C) 162∧ae (scanDown (fun x=>aG dk[a]! x) dk i2 j2=scanDown (fun x=>aG dk[a]! x) dk i2 (j))) (fun v _=>(intOf v).toNat)
          case atStart=>exact⟨j,by first|rfl|(congr 1;omega),⟨by omega⟩,⟨by omega⟩,inferInstance,inferInstance,inferInstance,⟨rfl⟩⟩
          case round=>
            clear m1 m2 m3;obtain⟨j2,rfl,I,J,n1,n2,n3,z⟩:=hrel;have hc2:=I.out;have hd2:=J.out;have c2:¬i2≤j2:=by omega
            have G:ae (scanDown (fun x=>aG dk[a]! x) dk i2 (j)=j2):=⟨by
              rw[←z.out];exact scanDown_end (fun x=>aG dk[a]! x) dk i2 j2 (.inl c2)⟩
            clear z;have d2:decide ((i2:Int)≤(j2:Int))=false:=ay (by omega);have K:decide (i2≤j2)=false:=ay (by omega);have d3:decide ((j2:Int)<(i2:Int))=true:=ag (by omega);have U:decide (j2<i2)=true:=ag (by omega);have x3:Ix (j2:Int) C.n:=⟨by omega,by omega⟩;go_wp2;go_ret;have hz:=HO.out;rw[partEqLoop_eq aG a i j dk,F.out,G.out,aq (by omega)]at hz;exact⟨by rw[←hz];rfl,dR (D:=dk) inferInstance (by rw[←hz]),Fr.out⟩
end S
namespace S
open Go.RowKit Go.Sort P Q V WW.bk
theorem nk:SWO aG where
  irrefl:=before_irrefl
  trans:=fun x y z h k=>before_trans h k
  ntrans:=fun x y z h k=>by
    rw[Bool.eq_false_iff,ne_eq,qU]at h k ⊢;omega
theorem wZ {a b:Nat} {D D':Array E} (hb:b≤D.size) (h:PermIn a b D D'):∀x∈D',x∈D:=by
  intro x hx;obtain⟨k,hk,rfl⟩:=Array.mem_iff_getElem.mp hx;have hk':k<D.size:=by rw[←h.1];exact hk
  by_cases hin:a≤k∧k<b
  · have hall:=permIn_all D D' a b (fun y=>y∈D) hb h (fun i hi hi'=>by
      rw[getElem!_pos D i (by omega)];exact Array.getElem_mem _) k hin.1 hin.2
    rw[getElem!_pos D' k hk]at hall;exact hall
  · have:=h.2.1 k (by omega);rw[getElem!_pos D' k hk,getElem!_pos D k hk']at this;rw[this];exact Array.getElem_mem _
theorem s9 {C:cC} [g:dc C] {w:World} {D D':Array E} {a b:Nat} (h:bU C w D) (hb:b≤C.n) (hp:PermIn a b D D') (n:Nat) (os:Array Obj):
    bU C (sortWorldK dK 4 w C.g 0 n D' os) D'∧w.grownBy (sortWorldK dK 4 w C.g 0 n D' os) (some C.g):=by
  have hs:D'.size=D.size:=hp.1
  have hg:w.grownBy (sortWorldK dK 4 w C.g 0 n D' os) (some C.g):=by
    unfold sortWorldK;refine⟨rfl,rfl,rfl,by rw[size_grow,size_putRowK];show w.heap.size≤w.heap.size+os.size;omega,fun k u hk2=> ?_⟩;rw[heap_grow_old _ _ (by rw[size_putRowK];exact u)];unfold putRowK putRow;rw[pN,au (fun hh=>hk2 (by rw[hh]))];rfl
  exact⟨⟨holdsK_sortWorldK dK 4 w C.g 0 n D D' os h.lt h.hold hs,by rw[hs];exact h.size,(hg.block _ h.mJ (fun e=>g.ne (aC e))).trans h.box,Nat.lt_of_lt_of_le h.lt hg.size,by
    unfold sortWorldK;rw[heap_grow_old _ _ (by rw[size_putRowK];exact h.lt)];exact sK (W:=Sort.ahead w n) h.shape,fun x hx=>h.n9 x (wZ (by rw[h.size];exact hb) hp x hx)⟩,hg⟩
theorem vu (C:cC) [g:dc C] (w:World) (D:Array E) (h:bU C w D) (a b:Nat) (hab:a≤b) (hb:b≤C.n):
    Calls Tryz.prog 164 #[fZ C,.int .i64 a,.int .i64 b] w fun e w'=>e= .returned (.tuple #[])∧∃D',bU C w' D'∧PermIn a b D D'∧w.grownBy w' (some C.g):=by
  have hsw:SwapSwapsK Tryz.prog 159 C.sb dK 4 C.g 0 D.size:=by rw[h.size];exact g.swap
  have:=Any.breakPatterns_func_cells_w (P:=Tryz.prog) (ρ:=oG) {oF with} dK 4 nZ (.func 142) #[] C.lb 159 C.sb C.g 0 a b D w hsw h.hold h.lt hab (by rw[h.size];exact hb) (by have:=g.small;rw[h.size];omega);refine this.mono ?_;rintro e w' ⟨he,n,os,rfl⟩;have hp:=breakPatterns_holds D a b hab (by rw[h.size];exact hb);obtain⟨h1,h2⟩:=s9 h hb hp n os;exact⟨he,_,h1,hp,h2⟩
theorem yl (C:cC) [g:dc C] (w:World) (D:Array E) (h:bU C w D) (a b:Nat) (hab:a≤b) (hb:b≤C.n):
    Calls Tryz.prog 166 #[fZ C,.int .i64 a,.int .i64 b] w fun e w'=>e= .returned (.tuple #[])∧∃D',bU C w' D'∧PermIn a b D D'∧w.grownBy w' (some C.g):=by
  have hsw:SwapSwapsK Tryz.prog 159 C.sb dK 4 C.g 0 D.size:=by rw[h.size];exact g.swap
  have:=Any.reverseRange_func_cells_w (P:=Tryz.prog) (ρ:=oG) {oF with} dK 4 nZ (.func 142) #[] C.lb 159 C.sb C.g 0 a b D w hsw h.hold h.lt hab (by rw[h.size];exact hb) (by have:=g.small;rw[h.size];omega);refine this.mono ?_;rintro e w' ⟨he,n,os,rfl⟩;have hp:=reverseRange_holds D a b hab (by rw[h.size];exact hb);obtain⟨h1,h2⟩:=s9 h hb hp n os;exact⟨he,_,h1,hp,h2⟩
theorem wR {C:cC} {W:World} {D:Array E} [g:dc C] (h:bU C W D) (i j:Int) (i' j':Nat) (u:i=i') (z:j=j') (hi:i'<C.n) (hj:j'<C.n):
    Calls Tryz.prog 142 (#[.int .i64 i,.int .i64 j]++C.lb) W fun e w'=>∃lb,e= .returned (.bool lb)∧aG D[i']! D[j']! =lb∧RowKit.Below W.heap.size W w':=by
  subst u z;exact(rQ C W D h g.lb g.small i' j' hi hj).mono fun e w' hh=>⟨_,hh.1,rfl,hh.2⟩
theorem xI {C:cC} {W:World} {D:Array E} [dc C] (h:bU C W D) (a b p:Nat) (p':Int) (e:p'=p) (hap:a≤p) (hpb:p<b) (hb:b≤C.n):
    Calls Tryz.prog 168 #[fZ C,.int .i64 a,.int .i64 b,.int .i64 p'] W fun e w'=>∃mid D',partitionEqual aG D a b p=(mid,D')∧e= .returned (.int .i64 (mid:Nat))∧bU C w' D'∧W.grownBy w' (some C.g):=by
  subst e;exact(xJ C W D h a b p hap hpb hb).mono fun e w' hh=>⟨_,_,rfl,hh⟩
theorem xK {C:cC} {W:World} {D:Array E} [dc C] (h:bU C W D) (a b p:Nat) (p':Int) (e:p'=p) (hap:a≤p) (hpb:p<b) (hb:b≤C.n):
    Calls Tryz.prog 169 #[fZ C,.int .i64 a,.int .i64 b,.int .i64 p'] W fun e w'=>∃mid ap D',partition aG D a b p=(mid,ap,D')∧e= .returned (.tuple #[.int .i64 (mid:Nat),.bool ap])∧bU C w' D'∧W.grownBy w' (some C.g):=by
  subst e;exact(xL C W D h a b p hap hpb hb).mono fun e w' hh=>⟨_,_,_,rfl,hh⟩
end S
namespace S
open Go.RowKit Go.Sort P Q V WW.bk
attribute [local go_sem] dC dD tu
def o5 (C:cC) (N:Nat):Prop:=∀(w:World) (D:Array E),bU C w D→∀a b limit:Nat,b-a<N→a≤b→b≤C.n→limit≤100→Sort.Below aG a b D→∀a' b' l':Int,a'=a→b'=b→l'=limit→
    Calls Tryz.prog 149 #[fZ C,.int .i64 a',.int .i64 b',.int .i64 l'] w fun e w'=>e= .returned (.tuple #[])∧∃D',bU C w' D'∧PermIn a b D D'∧SortedIn aG a b D'∧w.grownBy w' (some C.g)
set_option maxHeartbeats 16000000 in
set_option maxRecDepth 100000 in
set_option synthInstance.maxHeartbeats 400000 in
set_option synthInstance.maxSize 100000 in
theorem xN (C:cC) [dc C] (N:Nat) (ih:o5 C N):o5 C (N+1):=by
  intro w D h a b limit hN hab hb hlim hB a' b' l' ea eb el;subst ea eb el;have j0:=So.mk h;have hsm:=dc.small (C:=C);have hsz:=h.size;have aR:dw w.heap.size C.g:=⟨Nat.ne_of_gt h.lt⟩;have aK:=aQ.mk (fG w (.cells (cK C) 162));have aJ:=ae.mk hB;have IH:=ae.mk ih;clear h hB ih;have hu:=Tryz.underlying162;go_enter Tryz.func149,Tryz.ntmps149;go_wp2
  go_loopg [1,2,3,8,9] (b-a) (fun kx v1 v2 v3 v8 v9 wr=>∃(a1 b1 l1:Nat) (wb wp:Bool) (dk:Array E),v1= .int .i64 a1∧v2= .int .i64 b1∧v3= .int .i64 l1∧v8= .bool wb∧v9= .bool wp∧ae (a1≤b1∧b1≤C.n∧b1-a1≤kx∧kx≤b-a∧l1≤100)∧ae (Sort.Below aG a1 b1 dk)∧ae (∀R,PermIn a1 b1 dk R→SortedIn aG a1 b1 R→PermIn a b D R∧SortedIn aG a b R)∧So C wr dk∧Fr C w wr∧aQ wr w.heap.size (cK C) 162)
  case atStart=>exact⟨a,b,limit,true,true,D,rfl,rfl,rfl,rfl,rfl,⟨⟨by omega,by omega,by omega,by omega,by omega⟩⟩,aJ,⟨fun R h1 h2=>⟨h1,h2⟩⟩,inferInstance,inferInstance,inferInstance⟩
  case round=>
    clear j0 aK;obtain⟨a1,b1,l1,wb,wp,dk,rfl,rfl,rfl,rfl,rfl,ar,Z,G,j1,j2,u⟩:=hrel;obtain⟨af,hb1,aP,hn2,aO⟩:=ar.out;have hds:dk.size=C.n:=j1.out.size;by_cases c12:b1-a1≤12
    · have d1:decide ((b1:Int)-(a1:Int)≤12)=true:=ag (by omega)
      go_wp2_with (first|(go_at_call 162;refine(wu C _ _ So.out a1 b1 (by omega) (by omega)).mono ?_;rintro e w2 ⟨rfl,hs,hg⟩;have k1:=So.mk hs;have k2:=Gb.mk hg;clear hs hg))
      ((try simp only[Exit.inBlock,Exit.then]);refine bodyPost_ret (results_none rfl _ _ _) rfl ?_)
      obtain⟨h1,h2⟩:=insertionSort_holds nk dk a1 b1 af (by omega);obtain⟨h3,h4⟩:=G.out _ h1 h2;exact⟨rfl,_,So.out,h3,h4,Fr.out⟩
    have d1:decide ((b1:Int)-(a1:Int)≤12)=false:=ay (by omega);by_cases c0:l1=0
    · subst c0
      go_wp2_with (first|(go_at_call 163;refine(vZ C _ _ So.out a1 b1 (by omega) (by omega)).mono ?_;rintro e w2 ⟨rfl,hs,hg⟩;have k1:=So.mk hs;have k2:=Gb.mk hg;clear hs hg))
      ((try simp only[Exit.inBlock,Exit.then]);refine bodyPost_ret (results_none rfl _ _ _) rfl ?_)
      obtain⟨h1,h2⟩:=heapSort_holds nk dk a1 b1 af (by omega);obtain⟨h3,h4⟩:=G.out _ h1 h2;exact⟨rfl,_,So.out,h3,h4,Fr.out⟩
    have d0:((l1:Int)==0)=false:=beq_eq_false_iff_ne.mpr (by omega)
    go_upto_if 35 with fail
    go_cut [3]from 19 (fun s3 wc=>∃(l2:Nat) (dj:Array E),s3= .int .i64 l2∧ae (l2≤100)∧ae (PermIn a1 b1 dk dj)∧So C wc dj∧Fr C w wc∧aQ wc w.heap.size (cK C) 162)
    case first=>
      cases wb
      · go_wp2_with (first|(go_at_call 164;refine(vu C _ _ So.out a1 b1 (by omega) (by omega)).mono ?_;rintro e w2 ⟨rfl,F,hs,hp,hg⟩;have k1:=So.mk hs;have k2:=Gb.mk hg;have K:=ae.mk hp;clear hs hg hp))
        go_meet
        case rel=>exact⟨l1-1,F,by congr 1;omega,⟨by omega⟩,K,inferInstance,inferInstance,inferInstance⟩
      · go_wp2_with fail
        go_meet
        case rel=>exact⟨l1,dk,rfl,⟨by omega⟩,⟨permIn_refl dk a1 b1⟩,j1,j2,u⟩
    case rest=>
      clear j1 j2 u d0 d1;obtain⟨l2,dj,rfl,ao,HS,j1,j2,u⟩:=hcut;have hl2:=ao.out
      go_upto_if 50 with (go_at_call 165;refine(vA C _ _ So.out a1 b1 (by omega) (by omega)).mono ?_;rintro e w2 ⟨p,k,rfl,hp1,hp2,hk,hb⟩;have Y:=aw.mk hb;clear hb)
      obtain⟨p,rfl⟩:∃p':Nat,p=p':=⟨p.toNat,by omega⟩
      go_cut [11,12]from 19 (fun aL s12 wc=>∃(q:Nat) (k:Int) (z:Array E),aL= .int .i64 q∧s12= .int .i64 k∧ae (a1≤q∧q<b1)∧ae (PermIn a1 b1 dk z)∧So C wc z∧Fr C w wc∧aQ wc w.heap.size (cK C) 162)
      case first=>
        by_cases h2:k=2
        · have aI:(k==2)=true:=beq_iff_eq.mpr h2
          go_wp2_with (first|(go_at_call 166;refine(yl C _ _ So.out a1 b1 (by omega) (by omega)).mono ?_;rintro e w3 ⟨rfl,F,hs,hp,hg⟩;have k1:=So.mk hs;have k2:=Gb.mk hg;have K:=ae.mk (permIn_trans _ _ _ _ _ HS.out hp);clear hs hg hp))
          go_meet
          case rel=>exact⟨b1-1-(p-a1),1,F,by congr 1;omega,rfl,⟨⟨by omega,by omega⟩⟩,K,inferInstance,inferInstance,inferInstance⟩
        · have aI:(k==2)=false:=beq_eq_false_iff_ne.mpr h2
          go_wp2_with fail
          go_meet
          case rel=>exact⟨p,k,dj,rfl,rfl,⟨⟨by omega,by omega⟩⟩,HS,inferInstance,inferInstance,inferInstance⟩
      case rest=>
        clear j1 j2 u Y hk hp1 hp2 HS;obtain⟨q,k,z,rfl,rfl,aD,HS,j1,j2,u⟩:=hcut;obtain⟨hq1,ai⟩:=aD.out
        go_upto_region 16 with fail
        go_cut [68]from 19 (fun aM wx=>∃t:Bool,aM= .bool t∧wx=wc)
        case first=>
          cases wb<;>cases wp<;>by_cases ah:k=1<;>
            (first|have hkb:(k==1)=true:=beq_iff_eq.mpr ah|have hkb:(k==1)=false:=beq_eq_false_iff_ne.mpr ah)<;>
            (go_wp2_with fail
             go_meet
             exact⟨_,rfl,rfl⟩)
        case rest=>
          obtain⟨t,rfl,rfl⟩:=hcut
          go_upto_if 68 with fail
          go_cut []from 19 (fun wx=>So C wx z∧Fr C w wx∧aQ wx w.heap.size (cK C) 162)
          case first=>
            cases t
            · go_wp2_with fail
              go_meet
              case rel=>exact⟨j1,j2,u⟩
            · go_wp2_with (first|(go_at_call 167;refine(xG C _ _ So.out a1 b1 (by omega) (by omega)).mono ?_;rintro e w3 ⟨r,rfl,hpi,hb⟩;have Y:=aw.mk hb;have aB:=ae.mk hpi;clear hb hpi;cases r))
              · go_meet
                exact⟨inferInstance,inferInstance,inferInstance⟩
              · ((try simp only[Exit.inBlock,Exit.then]);refine bodyPost_ret (results_none rfl _ _ _) rfl ?_)
                obtain⟨h1,h2⟩:=partialInsertionSort_holds nk z a1 b1 (by omega) (by rw[HS.out.1,hds];omega) (Below.perm Z.out (by rw[hds];omega) HS.out);rw[aB.out]at h1 h2;obtain⟨h3,h4⟩:=G.out _ (permIn_trans _ _ _ _ _ HS.out h1) (h2 rfl);exact⟨rfl,_,So.out,h3,h4,Fr.out⟩
          case rest=>
            clear j1 j2 u;obtain⟨j1,j2,u⟩:=hcut
            go_upto_region 18 with fail
            go_cut [83]from 19 (fun aN wx=>∃t:Bool,aN= .bool t∧ae (t=true→0<a1∧aG z[a1-1]! z[q]! =false)∧So C wx z∧Fr C w wx∧aQ wx w.heap.size (cK C) 162)
            case first=>
              by_cases ha0:a1=0
              · have ha1:decide (0<(a1:Int))=false:=ay (by omega);have ha2:decide (0<a1)=false:=ay (by omega)
                go_wp2_with fail
                go_meet
                case rel=>exact⟨false,rfl,⟨fun h=>by cases h⟩,j1,j2,u⟩
              · have ha1:decide (0<(a1:Int))=true:=ag (by omega);have ha2:decide (0<a1)=true:=ag (by omega)
                go_wp2_with (first|(go_at_call 142;refine(wR So.out _ _ (a1-1) q (by omega) rfl (by omega) (by omega)).mono ?_;rintro e w3 ⟨lb,rfl,hlb,hb⟩;have Y:=aw.mk hb;have am:=ae.mk hlb;clear hb hlb;cases lb))
                · go_meet
                  exact⟨true,rfl,⟨fun _=>⟨by omega,am.out⟩⟩,inferInstance,inferInstance,inferInstance⟩
                · go_meet
                  exact⟨false,rfl,⟨fun h=>by cases h⟩,inferInstance,inferInstance,inferInstance⟩
            case rest=>
              clear j1 j2 u;obtain⟨t,rfl,aE,j1,j2,u⟩:=hcut;have aj:b1≤z.size:=(by rw[HS.out.1,hds];omega);have ad:=ae.mk (Below.perm Z.out (by rw[hds];omega) HS.out);cases t
              · go_upto_if 109 with (go_at_call 169;refine(xK So.out a1 b1 q _ rfl (by omega) (by omega) (by omega)).mono ?_;rintro e w3 ⟨mid,ap,F,hx,rfl,hs,hg⟩;have k1:=So.mk hs;have k2:=Gb.mk hg;obtain⟨r1,r2,r3,I,J,ak,al⟩:=round_part nk (partition_holds aG) hq1 ai aj ad.out hx;have O:=ae.mk I;have U:=ae.mk J;have aF:=ae.mk ak;have aH:=ae.mk al;clear hs hg hx r3 I J ak al)
                by_cases h4:mid-a1<b1-mid
                · have h4z:decide ((mid:Int)-(a1:Int)<(b1:Int)-(mid:Int))=true:=ag (by omega)
                  go_wp2_with (first|(go_at_call 149;refine(IH.out _ _ So.out a1 mid l2 (by omega) (by omega) (by omega) (by omega) O.out _ _ _ rfl rfl rfl).mono ?_;rintro e w4 ⟨rfl,L,hs,hp,H,hg⟩;have k3:=So.mk hs;have k4:=Gb.mk hg;obtain⟨u1,u2⟩:=aF.out L hp H;have V:=ae.mk u1;have X:=ae.mk u2;clear hs hp H hg u1 u2))
                  go_roundg (b1-(mid+1))
                  case measure=>omega
                  case rel=>exact⟨mid+1,b1,l2,_,ap,L,by first|rfl|go_num,rfl,rfl,rfl,rfl,⟨⟨by omega,by omega,by omega,by omega,by omega⟩⟩,V,⟨fun R g1 g2=>by obtain⟨g3,g4⟩:=X.out R g1 g2;exact G.out R (permIn_trans _ _ _ _ _ HS.out g3) g4⟩,inferInstance,inferInstance,inferInstance⟩
                · have h4z:decide ((mid:Int)-(a1:Int)<(b1:Int)-(mid:Int))=false:=ay (by omega)
                  go_wp2_with (first|(go_at_call 149;refine(IH.out _ _ So.out (mid+1) b1 l2 (by omega) (by omega) (by omega) (by omega) U.out _ _ _ (by omega) rfl rfl).mono ?_;rintro e w4 ⟨rfl,L,hs,hp,H,hg⟩;have k3:=So.mk hs;have k4:=Gb.mk hg;obtain⟨u1,u2⟩:=aH.out L hp H;have V:=ae.mk u1;have X:=ae.mk u2;clear hs hp H hg u1 u2))
                  go_roundg (mid-a1)
                  case measure=>omega
                  case rel=>exact⟨a1,mid,l2,_,ap,L,rfl,rfl,rfl,rfl,rfl,⟨⟨by omega,by omega,by omega,by omega,by omega⟩⟩,V,⟨fun R g1 g2=>by obtain⟨g3,g4⟩:=X.out R g1 g2;exact G.out R (permIn_trans _ _ _ _ _ HS.out g3) g4⟩,inferInstance,inferInstance,inferInstance⟩
              · obtain⟨ha0,hnl⟩:=aE.out rfl;have av:=ae.mk hnl;clear hnl
                go_wp2_with (first|(go_at_call 168;refine(xI So.out a1 b1 q _ rfl (by omega) (by omega) (by omega)).mono ?_;rintro e w3 ⟨mid,F,hx,rfl,hs,hg⟩;have k1:=So.mk hs;have k2:=Gb.mk hg;obtain⟨r1,r2,r3,I,J⟩:=round_eq nk (partitionEqual_holds aG) ha0 hq1 ai aj ad.out av.out hx;have O:=ae.mk I;have U:=ae.mk J;clear hs hg hx r3 I J))
                go_roundg (b1-mid)
                case measure=>omega
                case rel=>exact⟨mid,b1,l2,wb,wp,F,rfl,rfl,rfl,rfl,rfl,⟨⟨by omega,by omega,by omega,by omega,by omega⟩⟩,O,⟨fun R g1 g2=>by obtain⟨g3,g4⟩:=U.out R g1 g2;exact G.out R (permIn_trans _ _ _ _ _ HS.out g3) g4⟩,inferInstance,inferInstance,inferInstance⟩
theorem sq (C:cC) [dc C]:∀N,o5 C N
  |0=>fun _ _ _ _ _ _ h=>absurd h (Nat.not_lt_zero _)
  |N+1=>xN C N (sq C N)
end S
namespace S
open Go.RowKit Go.Sort Go.Lib P Q V WW.bk
theorem sD:Plain aT dK where
  len:=fun _=>rfl
  pos:=by decide
  of:=fun{w base ok x cs} h=>by
    obtain⟨c0,c1,rfl,⟨d0,d1,rfl,h0,h1⟩,e0,e1,rfl,h2,h3⟩:=h;rw[h0,h1,h2,h3];rfl
  make:=fun w base ok x=>iR w base ok x
theorem uH {C:cC} {w w':World} {base:Nat} {ok:Nat→Prop} {xs:List E} {D:Array E} (h:aT.R 104 w base ok (.slice (some ⟨C.g,0,none⟩) xs.length C.c) xs) (hs:bU C w' D) (hn:xs.length=C.n):
    aT.R 104 w' base ok (.slice (some ⟨C.g,0,none⟩) xs.length C.c) D.toList:=by
  obtain⟨hok,inner,ho,hr⟩:=h;rcases ho.2 with ⟨hn',_⟩|⟨g',cap',I,hv,hg,hh,hle,hmx,hcs,J⟩
  · simp at hn'
  obtain⟨e1,e2⟩:C.g=g'∧C.c=cap':=by simpa using hv
  subst e1 e2;obtain⟨cur,hc,u⟩:=hs.shape;have hD:D.size=xs.length:=by rw[hs.size,hn]
  have hat:∀i,i<D.size→(cur.toList.drop (i*4)).take 4=dK D[i]! :=by
    intro i hi;obtain⟨a0,a1,a2,a3⟩:=hs.at_ i (by rw[←hs.size];exact hi);have e0:=(cA hc (i*4)).symm.trans a0;have e1:=(cA hc (i*4+1)).symm.trans a1;have e2:=(cA hc (i*4+2)).symm.trans a2;have e3:=(cA hc (i*4+3)).symm.trans a3;refine List.ext_getElem? fun c=> ?_;by_cases F:c<4
    · rw[ra F,Array.getElem?_toList];rcases c with _|_|_|_|c
      · exact e0
      · exact e1
      · exact e2
      · exact e3
      · omega
    · rw[List.getElem?_eq_none (by rw[List.length_take];omega),List.getElem?_eq_none (by show(dK D[i]!).length≤c;rw[nZ];omega)]
  have hlen:D.toList.length=xs.length:=by simpa using hD
  have z:(cur.toList.take (xs.length*4)).length=xs.length*4:=by
    have G:cur.toList.length=C.c*4:=(by simpa using u);rw[List.length_take,G];exact Nat.min_eq_left (Nat.mul_le_mul_right 4 hle)
  refine⟨hok,cur.toList.take (xs.length*4),⟨?_,.inr ⟨C.g,C.c,cur,by rw[hlen],hg,hc,by rw[hlen];exact hle,hmx,u,by rw[hlen];rfl⟩⟩,?_,fun i x hx=> ?_⟩
  · rw[hlen];exact z
  · rw[hlen];exact z
  · have hi:i<D.size:=by have:=(List.getElem?_eq_some_iff.1 hx).1;simpa using this
    have H:D[i]! =x:=by
      have:=(List.getElem?_eq_some_iff.1 hx).2;rw[getElem!_pos D i hi];simpa using this
    have e:((cur.toList.take (xs.length*4)).drop (i*4)).take 4=dK x:=by
      rw[List.drop_take,List.take_take,Nat.min_eq_left (by rw[←hD];omega),hat i hi,H]
    show aT.M w' base _ x (((cur.toList.take (xs.length*4)).drop (i*4)).take 4);rw[e];exact sD.make _ _ _ _
noncomputable def tr:TypeInfo:=(Tryz.prog.info? 35).get (by kernel_rfl)
noncomputable def iv:TypeInfo:=(Tryz.prog.info? 104).get (by kernel_rfl)
theorem yN (n:Nat) (h2:2≤n):Lib.swapperK n iv 25=9:=by
  have a:iv.hasPointers=false:=by kernel_rfl
  have b:iv.bytes=32:=by kernel_rfl
  have c:(n==0)=false:=by simp;omega
  have d:(n==1)=false:=by simp;omega
  simp[Lib.swapperK,a,b,c,d]
theorem yF (w:World) (g cap bs base:Nat) (ok:Nat→Prop) (xs:List E) (hR:aT.R 104 w base ok (.slice (some ⟨g,0,none⟩) xs.length cap) xs) (hB:w.heap[bs]? =some (.cells #[.slice (some ⟨g,0,none⟩) xs.length cap] 35 (0,0)))
    (hne:bs≠g) (h2:2≤xs.length) (h50:xs.length<50) (hf:∀x∈xs,jT x):
    Calls Tryz.prog 141 #[.iface 35 (.slice (some ⟨g,0,none⟩) xs.length cap),.func (.func 142) #[] #[.pointer (some ⟨bs,0,none⟩)]] w fun e w'=>e= .returned (.tuple #[])∧
      ∃D:Array E,PermIn 0 xs.length xs.toArray D∧SortedIn aG 0 xs.length D∧aT.R 104 w' base ok (.slice (some ⟨g,0,none⟩) xs.length cap) D.toList∧w.grownBy w' (some g):=by
  refine Any.sort_Slice_of_pdq oF 35 104 tr iv (by kernel_rfl) (by kernel_rfl) (by kernel_rfl) (by kernel_rfl) 25 (fun _=>by kernel_rfl) _ xs.length cap (by omega) 159 (by rw[yN _ h2];kernel_rfl) _ _ _ w _ ?_
  have hbd:sliceBound Tryz.prog 104 iv 25 (some ⟨g,0,none⟩) xs.length cap= #[.slice (some ⟨g,0,none⟩) xs.length cap,typeHandle Tryz.prog 104]:=by
    unfold sliceBound;rw[au (swapperK_gt _ _ _ h2)]
  rw[hbd]
  let C:cC:=⟨g,bs,xs.length,cap,#[.pointer (some ⟨bs,0,none⟩)],#[.slice (some ⟨g,0,none⟩) xs.length cap,typeHandle Tryz.prog 104]⟩
  haveI:dc C:=⟨swapSwapsK_of_literal false 159 (fun args W=>run_callFunc_extern Tryz.func159 (by kernel_rfl) (by kernel_rfl) (by kernel_rfl) (e:=Extern.ReflectliteSwapper.swap false) (by kernel_rfl) args W) 104 iv (by kernel_rfl) dK 4 (fun _=>rfl) (by kernel_rfl) (fun _=>by kernel_rfl) (fun x v hv=>by simp[dK]at hv;rcases hv with rfl|rfl|rfl|rfl<;>rfl) g 0 xs.length cap,h50,rfl,hne⟩
  have h0:bU C w xs.toArray:=by
    have z:=hR;obtain⟨_,inner,ho,_⟩:=z;rcases ho.2 with ⟨hn',_⟩|⟨g',cap',u,hv,hg,hh,hle,hmx,hcs,H⟩
    · simp at hn'
    obtain⟨e1,e2⟩:g=g'∧cap=cap':=(by simpa using hv);subst e1 e2;exact⟨wj sD hR,by simp[C],hB,dB hh,⟨u,hh,hcs⟩,fun x hx=>hf x (by simpa using hx)⟩
  have hbl:RowKit.Below w.heap.size w (sliceWorld Tryz.prog oG 35 (some ⟨g,0,none⟩) xs.length cap w):=bO (bO (RowKit.Below.refl _ _) _) _;have h1:=h0.below hbl;have G:Lib.bitLen xs.length≤62:=Lib.bitLen_le xs.length 62 (by omega) (by omega);have:=sq C (xs.length+1) _ _ h1 0 xs.length (Lib.bitLen xs.length) (by omega) (by omega) (Nat.le_refl _) (by omega) (.inl rfl) _ _ _ rfl rfl rfl;refine this.mono ?_;rintro e w' ⟨he,D,hs,hp,F,hg⟩;exact⟨he,D,hp,F,uH (C:=C) hR hs rfl,gP (ia hbl) hg⟩
theorem yG (w:World) (A:Option Addr) (n cap bs:Nat) (h1:n≤1):
    Calls Tryz.prog 141 #[.iface 35 (.slice A n cap),.func (.func 142) #[] #[.pointer (some ⟨bs,0,none⟩)]] w fun e w'=>e= .returned (.tuple #[])∧RowKit.Below w.heap.size w w':=by
  have hK:n=0∨n=1:=by omega
  have a:iv.hasPointers=false:=by kernel_rfl
  have b:iv.bytes=32:=by kernel_rfl
  have key:∀f,Tryz.prog.funcs.findIdx? (·.name== "internal/reflectlite" ++ ".Swapper$" ++toString (swapperK n iv 25))=some f→Calls Tryz.prog 141 #[.iface 35 (.slice A n cap),.func (.func 142) #[] #[.pointer (some ⟨bs,0,none⟩)]] w fun e w'=>e= .returned (.tuple #[])∧RowKit.Below w.heap.size w w':=by
    intro f hf;refine(Any.sort_Slice_tiny oF 35 104 tr iv (by kernel_rfl) (by kernel_rfl) (by kernel_rfl) (by kernel_rfl) 25 (fun _=>by kernel_rfl) A n cap h1 f hf _ _ _ w).mono ?_;rintro e w' ⟨he,os,rfl⟩;exact⟨he,rfl,rfl,rfl,by simp,fun k hk=>heap_grow_old _ _ hk⟩
  rcases hK with rfl|rfl
  · exact key 151 (by rw[show swapperK 0 iv 25=1 from rfl];kernel_rfl)
  · exact key 152 (by rw[show swapperK 1 iv 25=2 from rfl];kernel_rfl)
end S
namespace P
open Go.RowKit WW.bk WW.b_ WW.b6 V
open Go.Maps (Keyed)
attribute [local go_sem] dC dD
set_option maxHeartbeats 8000000 in
set_option maxRecDepth 100000 in
set_option synthInstance.maxHeartbeats 400000 in
set_option synthInstance.maxSize 100000 in
theorem gQ.vx (k:Nat) (av:Option Addr) (c0:Nat) (l0:List (ah)) (w:World) (a2:Kd.C aT w av l0.length l0) (hc0:l0.length≤c0) (A:eX.f k l0=some true) (bq:l0.length≤30) (hw:∀x∈l0,bY x.f0.f0∧bY x.f0.f1) (hfl:∀x∈l0,0≤x.f1∧x.f1≤2):
    Calls Tryz.prog 132 #[.slice av l0.length c0] w fun e w'=>∃a4:Value,e= .returned (a4)∧Kd.R aT 104 w' w.heap.size (fun _=>True) a4 (Q.dP l0 l0.length)∧Below w.heap.size w w':=by
  have hl:l0.length≤1000:=by omega
  have bb:=ae.mk hfl;clear hfl;have i0:=aM.mk a2;have i1:=aj.mk hc0;have A:=ae.mk A;have HW:=ae.mk hw;clear a2 hc0 hw;have bs:=Tryz.underlying104;have br:=Tryz.underlying74;go_enter Tryz.func132,Tryz.ntmps132
  go_wp2_with (first
    |(go_at_call 77;refine(eX.c k _ _ _ true _ Rd.out aj.out A.out).mono ?_;rintro e w2 ⟨rfl,hb⟩;have bg:=aw.mk hb;clear hb)
    |(go_at_call 92;refine(pE.c _ _ _ _ Rd.out aj.out hl HW.out).mono ?_;rintro e w3 ⟨b,rfl,hb1,hm,hb⟩;obtain⟨D,hD,aW⟩:=hm;have bg:=aw.mk hb;have HD:=ae.mk hD;have aH:=ae.mk aW;have J:=ae.mk hb1;clear hb hb1 hD aW)
    |(at_range;refine wpList_range_own _ rfl _ 114 rfl 74 104 lv Tryz.underlying114 iI b l0.length D rfl HD.out ?_;intro w4 hrg hg hs;have F:=ae.mk hrg;have HG:=ae.mk hg;have HS:=ae.mk hs;clear hrg hg hs))
  go_frame
  have bm:=ae.mk (F.out.ne);have aV:=ae.mk (HD.out.size_le);have bd:=ae.mk (HD.out.lt);have K:ae (w2.heap.size+2≤w3.heap.size):=⟨by have hs:=(aw.out (W:=w3)).size;simpa using hs⟩;have aN:ae (w2.heap.size+2≤b):=⟨by have:=J.out;simpa using this⟩;have al:ae (w.heap.size≤w2.heap.size):=⟨Sz.out⟩;have aD:ae (Below w.heap.size w w4):=⟨(From.out:Below w.heap.size w w3).grown HG.out (Sz.out:w.heap.size≤w3.heap.size) (fun k hk=>by cases hk)⟩
  have u:ae (w4.heap[w2.heap.size+1]? =some (.cells #[.slice (some ⟨w2.heap.size,0,none⟩) 0 0] 35 (0,0))):=⟨by
    have h3:aQ w3 (w2.heap.size+1) #[.slice (some ⟨w2.heap.size,0,none⟩) 0 0] 35:=⟨jZ (by have:=fG (w2.alloc (.cells #[] 104 (0,0))) (.cells #[.slice (some ⟨w2.heap.size,0,none⟩) 0 0] 35 (0,0));simpa using this) (aw.out (W:=w3))⟩;exact(HG.out.block _ (dB h3.out) (by simp)).trans h3.out⟩
  have aU:ae (Kd.R aT 104 w4 w.heap.size (fun j=>j≠w2.heap.size+1∧j≠b∧j≠w3.heap.size) (.slice (some ⟨w2.heap.size,0,none⟩) 0 0) []):=⟨by
    have h3:aQ w3 w2.heap.size #[] 104:=⟨jZ (bu (fG w2 (.cells #[] 104 (0,0))) (.cells #[.slice (some ⟨w2.heap.size,0,none⟩) 0 0] 35 (0,0))) (aw.out (W:=w3))⟩;have h4:w4.heap[w2.heap.size]? =some (.cells #[] 104 (0,0)):=(HG.out.block _ (dB h3.out) (by simp)).trans h3.out;refine⟨fun k hk=> ?_,[],⟨rfl,.inr ⟨w2.heap.size,0,#[],rfl,al.out,h4,Nat.le_refl _,Nat.zero_le _,rfl,rfl⟩⟩,aY.none _ _⟩;obtain rfl:w2.heap.size=k:=(by simpa[Value.ownBlock]using hk);exact⟨by omega,by have:=aN.out;omega,by have:=K.out;omega⟩⟩
  have aI:ae (Found (gS l0) (Maps.has D) []):=⟨⟨fun x hx=>by simp at hx,List.Pairwise.nil,fun p x h0 h1 hm hx hf=>by
    have e1:=Maps.atKey_of_not_has hf (.map []);have e2:=aH.out.at_ p h0 h1 (.map []);rw[hm]at e2;exact absurd (e1.symm.trans e2) (by simp[ig])⟩⟩
  go_loopg [] (Maps.size D+1) (fun bh wr=>∃(left:Lit→Bool) (cnt:Nat) (v:Value) (xs:List ah),ae (bh=cnt+1)∧ae (xs.length+cnt≤Maps.size D)∧ae (wr.ranges Tryz.prog 74 iI b w3.heap.size l0.length D left cnt)∧ae (Found (gS l0) left xs)∧ae (Kd.R aT 104 wr w.heap.size (fun j=>j≠w2.heap.size+1∧j≠b∧j≠w3.heap.size) v xs)∧ae (wr.heap[w2.heap.size+1]? =some (.cells #[v] 35 (0,0)))∧ae (Below w.heap.size w wr))
  case atStart=>exact⟨_,_,_,[],⟨rfl⟩,⟨by simp⟩,F,aI,aU,u,aD⟩
  case round=>
    clear F aI aU u aD HG;obtain⟨left,cnt,v,xs,HK,X,F,H,z,u,G⟩:=hrel
    go_wp2_with (first
      |(at_next;refine wpList_next_ranges _ rfl _ rfl 74 lv iI (fun p:bL=>jG p.f0 p.f1) ma (fun key kl h=>by obtain⟨a,b,rfl,_⟩:=rK h;exact⟨⟨a,b⟩,rfl⟩) (fun v y h=>by obtain⟨x,rfl,_⟩:=sx h;exact⟨x,rfl⟩) b w3.heap.size l0.length D left cnt rfl F.out ?_ ?_))
    rotate_left
    · intro p c kl y1 bk O cnt1 hk hlk hv hat hrg1 hlt hg1 hs1 hen
      obtain⟨p0,p1⟩:bY p.f0∧bY p.f1:=by
        obtain⟨a,b',e,ha,hb⟩:=rK hk;simp[jG]at e;rw[e.1,e.2];exact⟨ha,hb⟩
      obtain rfl:kl=e7 p.f0 p.f1:=aC (hk.symm.trans (ln p0 p1))
      obtain⟨rfl,rfl⟩:y1=ig c∧bk=[]:=by
        have:=(pP c).symm.trans hv;simp at this;exact⟨this.1.symm,this.2⟩
      have hm:=wW aH.out p0 p1 hat
      obtain rfl:c.f0=p:=by
        have:=(Q.pI l0 p c l0.length (Nat.le_refl _)).mp (by rw[List.take_length];exact hm);obtain⟨_,_,_,e,_⟩:=this;exact e
      have HST:=ae.mk (H.out.step c p0 p1 hm hlk);have ao:=ae.mk hrg1;have V:=ae.mk hlt;have ak:=ae.mk hg1;have bo:=ae.mk hs1;clear hk hlk hv hat hrg1 hlt hg1 hs1 hm H F;simp only[jG,ma]at hen ⊢;have am:=ae.mk (Kd.uE z.out ak.out (fun j hj e=>hj.2.2 (aC e)));have U:ae (O.heap[w2.heap.size+1]? =some (.cells #[v] 35 (0,0))):=⟨(ak.out.block _ (dB u.out) (fun e=>by have:=K.out;have:=aC e;omega)).trans u.out⟩;have J:ae (Below w.heap.size w O):=⟨G.out.grown ak.out G.out.size (fun k hk=>by cases hk;have:=K.out;have:=al.out;omega)⟩;have a3:=aQ.mk U.out;have bl:=ae.mk (show(if c.f1≠0 then xs++[c]else xs)=(if c.f1≠0 then xs++[c]else xs)from rfl);clear z u G;by_cases hc:c.f1=0
      · rw[au (by simpa using hc)]at HST;obtain⟨bp,c1,c2⟩:=c;simp only at hc;subst hc;simp only at hen ⊢;go_wp2
        go_roundg (cnt1+1)
        case measure=>have:=HK.out;have:=V.out;omega
        case rel=>
          refine⟨_,cnt1,v,xs,⟨rfl⟩,⟨by have:=X.out;have:=V.out;omega⟩,⟨ao.out.alloc _⟩,HST,⟨Kd.fg am.out _⟩,⟨bu U.out _⟩,⟨bO J.out _⟩⟩
      · rw[aq hc]at HST;have hd:=beq_eq_false_iff_ne.mpr hc;have he:=bne_iff_ne.mpr hc
        go_upto_region 8 with (fail)
        generalize hW:O.alloc _=W;have Y:ae (Kd.R aT 104 W w.heap.size (fun j=>j≠w2.heap.size+1∧j≠b∧j≠w3.heap.size) v xs):=⟨by rw[←hW];exact Kd.fg am.out _⟩;have ai:ae (W.heap[w2.heap.size+1]? =some (.cells #[v] 35 (0,0))):=⟨by rw[←hW];exact bu U.out _⟩;have aE:ae (Below w.heap.size w W):=⟨by rw[←hW];exact bO J.out _⟩;have aR:ae (W.ranges Tryz.prog 74 iI b w3.heap.size l0.length D _ cnt1):=⟨by rw[←hW];exact ao.out.alloc _⟩;have be:ae (w3.heap.size+1≤W.heap.size):=⟨aR.out.lt⟩;have bt:aQ W O.heap.size #[.int .i64 c.f0.f0,.int .i64 c.f0.f1,.int .i64 c.f1,.int .i64 c.f2] 104:=⟨by rw[←hW];exact fG O _⟩;have bv:=aQ.mk ai.out;clear hW a3 am U J ao
        go_wp2_with (first
          |(refine Kd.kM aT (w0:=w) w.heap.size rfl (.tmp 20) (.tmp 22) 35 104 (.agg #[(.int .i64 0),(.int .i64 0),(.int .i64 0),(.int .i64 0)]) 32 rfl Tryz.underlying35 lX rfl (by decide) (by omega) v xs c [.int .i64 c.f0.f0,.int .i64 c.f0.f1,.int .i64 c.f1,.int .i64 c.f2] (fun j=>j≠w2.heap.size+1∧j≠b∧j≠w3.heap.size) (fun _=>False) rfl rfl ?aP (fun _ hk=>hk.elim) ?aF ?aO ?aB ?aS ?aL ?_;(case aP=>exact iR _ _ _ c);(case aB=>exact aE.out);(case aF=>intro j hj;have:=be.out;have:=K.out;have:=bd.out;exact⟨by omega,by omega,by omega⟩);(case aO=>exact Y.out);(case aS=>exact aE.out.size);(case aL=>have:=X.out;have:=aV.out;omega);intro v1 a5 ho hb hg hat;obtain⟨B1,b1,rfl⟩:=Kd.dz ho;have HO:=ae.mk ho;have a_:=ae.mk hb;have aK:=ae.mk hg;have bf:aQ a5 (w2.heap.size+1) #[v] 35:=⟨(aK.out.block _ (dB ai.out) (fun e=>(Y.out.1 _ e.symm).1 rfl)).trans ai.out⟩;clear ho hb hg))
        go_roundg (cnt1+1)
        case measure=>have:=HK.out;have:=V.out;omega
        case rel=>
          refine⟨_,cnt1,.slice B1 (xs.length+1) b1,xs++[c],⟨rfl⟩,⟨by have:=X.out;have:=V.out;simp only[List.length_append,List.length_singleton];omega⟩,⟨?_⟩,HST,⟨?_⟩,⟨?_⟩,⟨?_⟩⟩
          · refine World.ranges.kept (aR.out.kept aK.out (fun e=>(Y.out.1 _ e.symm).2.1 rfl) (fun e=>(Y.out.1 _ e.symm).2.2 rfl)) (grownBy_setCell' a5 _ _) (fun e=> ?_) (fun e=> ?_)
            · have:=aN.out;have:=aC e;omega
            · have:=K.out;have:=aC e;omega
          · refine Kd.dp (by simpa using HO.out) (fun j hj=>hj.1) _
          · exact cr bf.out 0 _ rfl
          · exact dA a_.out (by have:=al.out;omega)
    · intro hc0 hl0;have hall:=H.out.all
      have a1:xs.Nodup:=by
        refine H.out.nodup.imp ?_;intro p q h e;exact h (by rw[e])
      have hmem:∀x,x∈xs↔gS l0 x.f0=some x∧x.f1≠0:=fun x=>⟨fun hx=>⟨(hall x hx).1,(hall x hx).2.1⟩,fun hx=>by
        have hin:x∈l0:=by
          have I:=(Q.pM l0 x).mpr hx;obtain⟨i,_,_,h3⟩:=(Q.mY l0 x l0.length (Nat.le_refl _)).mp I;exact List.mem_of_getElem? h3
        exact H.out.got x.f0 x (HW.out x hin).1 (HW.out x hin).2 hx.1 hx.2 (hl0 _)⟩
      have hin:∀x∈xs,x∈l0:=fun x hx=>by
        have I:=(Q.pM l0 x).mpr ((hmem x).mp hx);obtain⟨i,_,_,h3⟩:=(Q.mY l0 x l0.length (Nat.le_refl _)).mp I;exact List.mem_of_getElem? h3
      have hft:∀x∈xs,S.jT x:=fun x hx=>by
        have h8:=bb.out x (hin x hx);have I:=((hmem x).mp hx).2;unfold S.jT;omega
      have a0:∀D':Array ah,Sort.PermIn 0 xs.length xs.toArray D'→Sort.SortedIn Q.aG 0 xs.length D'→D'.toList=Q.dP l0 l0.length:=fun D' hp hs=>by
        obtain⟨h8,I⟩:=yH (lt:=Q.aG) (D:=xs.toArray) (D':=D') (by simpa using hp) (by simpa using hs) (fun a _ c _ hne=>Q.before_total hne) (by simpa using a1);refine Q.xr l0 _ I fun x=> ?_;rw[h8.mem_iff];simpa using hmem x
      have hsmall:xs.length<50:=(by have:=X.out;have:=aV.out;omega);have bc:=ae.mk hft;have aJ:=ae.mk a0;clear hall a1 hmem hin hft a0 H F;have a3:=aQ.mk u.out;by_cases h2:2≤xs.length
      · obtain⟨g,cap,rfl,hg1,hg2,_⟩:=Kd.iN z.out (by omega);have hne:w2.heap.size+1≠g:=fun e=>(z.out.1 g (by simp[Value.ownBlock])).1 e.symm
        go_wp2_with (first
          |(go_at_call 141;refine(S.yF wr g cap (w2.heap.size+1) w.heap.size _ xs z.out u.out hne h2 hsmall bc.out).mono ?_;rintro e af ⟨rfl,a7,hp,ad,aX,ar⟩;have bx:aQ af (w2.heap.size+1) #[.slice (some ⟨g,0,none⟩) xs.length cap] 35:=⟨(ar.block _ (dB u.out) (fun e=>hne (aC e))).trans u.out⟩;have a9:=ae.mk (aJ.out a7 hp ad);have ap:=ae.mk aX;have B9:ae (Below w.heap.size w af):=⟨G.out.grown ar G.out.size (fun k hk=>by cases hk;exact hg1)⟩;clear hp ad aX ar))
        go_ret;refine⟨_,rfl,?_,B9.out⟩;rw[←a9.out];exact Kd.cJ ap.out (fun _ _=>trivial)
      · obtain⟨a6,cap,rfl⟩:=Kd.dz z.out
        go_wp2_with (first
          |(go_at_call 141;refine(S.yG wr a6 xs.length cap (w2.heap.size+1) (by omega)).mono ?_;rintro e af ⟨rfl,Z⟩;have bw:=aw.mk Z;have ap:=ae.mk (Kd.dG z.out Z);have B9:ae (Below w.heap.size w af):=⟨bn G.out Z⟩;clear Z))
        go_ret;refine⟨_,rfl,?_,B9.out⟩;have hp:Sort.PermIn 0 xs.length xs.toArray xs.toArray:=Sort.permIn_refl _ _ _;have ad:Sort.SortedIn Q.aG 0 xs.length xs.toArray:=fun i j _ h1 h2=>by omega
        rw[←aJ.out xs.toArray hp ad];exact Kd.cJ ap.out (fun _ _=>trivial)
set_option maxHeartbeats 8000000 in
set_option maxRecDepth 100000 in
set_option synthInstance.maxHeartbeats 400000 in
set_option synthInstance.maxSize 100000 in
theorem gQ.vw (k:Nat) (u:Option Addr) (c0:Nat) (l0:List (ah)) (w:World) (z:Kd.C aT w u l0.length l0) (hc0:l0.length≤c0) (A:eX.f k l0=some false):
    Calls Tryz.prog 132 #[.slice u l0.length c0] w fun e w'=>∃D:Value,e= .returned (D)∧Kd.R aT 104 w' w.heap.size (fun _=>True) D ([]:List ah)∧Below w.heap.size w w':=by
  have i0:=aM.mk z;have i1:=aj.mk hc0;have A:=ae.mk A;clear z hc0;go_enter Tryz.func132,Tryz.ntmps132
  go_wp2_with (first
    |(go_at_call 77;refine(eX.c k _ _ _ false _ Rd.out aj.out A.out).mono ?_;rintro e w2 ⟨rfl,hb⟩;have F:=aw.mk hb;clear hb))
  go_ret;exact⟨_,rfl,Kd.bl _ _ _ _ _,From.out⟩
end P
namespace P
open Go.RowKit WW.bk WW.b_ WW.b6 V
attribute [local go_sem] dC dD
attribute [local go_sem] cR cV cU cY cT cX cS cW
def gQ.f (l0:List (ah)):Option (List (ah)):=if l0.length≤1048577 then some (if Q.cI l0=true then Q.dP l0 l0.length else[])else none
theorem gQ.c (u:Option Addr) (c0:Nat) (l0:List (ah)) (r:List (ah)) (w:World) (z:Kd.C aT w u l0.length l0) (hc0:l0.length≤c0) (h:gQ.f l0=some r):
  Calls Tryz.prog 132 #[.slice u l0.length c0] w fun e w'=>∃D:Value,e= .returned (D)∧Kd.R aT 104 w' w.heap.size (fun _=>True) D r∧Below w.heap.size w w':=by
 unfold gQ.f at h;by_cases h0:l0.length≤1048577;rotate_left
 ·rw[au h0]at h;cases h
 rw[aq h0]at h;obtain⟨k,hk⟩:=Q.ou l0 h0;have A:=hk k (Nat.le_refl _);by_cases hb:Q.cI l0=true
 ·rw[aq hb]at h;rw[hb]at A;obtain⟨h1,h2,h3⟩:=wS hb;obtain rfl:=aC h;exact gQ.vx k u c0 l0 w z hc0 A h1 h2 h3
 ·rw[au hb]at h;rw[Bool.eq_false_iff.mpr hb]at A;obtain rfl:=aC h;exact gQ.vw k u c0 l0 w z hc0 A
end P
namespace P
set_option maxHeartbeats 8000000
set_option maxRecDepth 100000
open Go.RowKit WW.bk WW.b_ WW.b6
attribute [local go_sem] cR cV cU cY cT cX cS cW
def lW.f (l0:List (ah)):Option (Int×Int×Bool):=(gQ.f l0).bind fun u=>(if(u.length:Int)=0 then(some (0,0,false))else(if 0<(u.length:Int)then(some ((av u 0).f0.f0,(av u 0).f0.f1,true))else(none)))
theorem lW.c (V:Option Addr) (c0:Nat) (l0:List (ah)) (r1:Int) (r2:Int) (r3:Bool) (w:World) (ao:Kd.C aT w V l0.length l0) (hc0:l0.length≤c0) (h:lW.f l0=some (r1,r2,r3)):
  Calls Tryz.prog 110 #[.slice V l0.length c0] w fun e w'=>e= .returned (.tuple #[.agg #[.int .i64 r1,.int .i64 r2],.bool r3])∧Below w.heap.size w w':=by
 have a1:=Tryz.underlying74;have am:=A_ ao;have al:=A_ hc0;clear ao hc0;have z:=A_ (Below.refl w.heap.size w);have H:((gQ.f l0).bind fun u=>(if(u.length:Int)=0 then(some (0,0,false))else(if 0<(u.length:Int)then(some ((av u 0).f0.f0,(av u 0).f0.f1,true))else(none))))=some (r1,r2,r3):=h;clear h;replace H:=az H;obtain⟨u,ak,H⟩:=H
 (try dsimp only at H)
 have A2:=A_ ak;clear ak;by_cases c3:(u.length:Int)=0
 ·rw[aq c3]at H;have aw:((u.length:Int)==0)=true:=beq_iff_eq.mpr c3;have aB:((u.length:Int) != 0)=false:=bne_eq_false_iff_eq.mpr c3;clear c3;simp only[Option.some.injEq,Prod.mk.injEq]at H;obtain⟨rfl,rfl,rfl⟩:=H;go_enter Tryz.func110,Tryz.ntmps110
  go_wp2_with (first|((with_reducible refine aJ (N:=2) rfl ?_);refine bX (N:=2) (cs:= #[.int .i64 0,.int .i64 0]) (t:=74) ?_;intro J hg w4 K hb;have F:=A_ (bn (oB z) hb);have G:=A_ (K);have I:=A_ ((by rw[hg];exact(bm (oB z)):w.heap.size≤J));have U:=A_ ((by rw[hg];exact(bm (oB z)):w.heap.size≤J));clear z;have z:=F;have D:=G;have ar:=I;have ap:=U;clear F G I U hb K hg)|((with_reducible refine bC (f:=132) rfl ?_);refine gL (some 6) Tryz.func132 #[.slice V l0.length c0] ?_;(with_reducible refine(gQ.c _ _ l0 u _ ?bc ?bf A2.out).mono ?_);(case bc=>exact bP am.out);(case bf=>exact al.out);rintro e a4 ⟨aG,rfl,O,hb⟩;refine⟨_,rfl,?_⟩;have F:=A_ (Kd.dg O (bm (oB z)));have G:=A_ (bb D hb);have I:=A_ (bn (oB z) hb);clear D z;have X:=F;have D:=G;have z:=I;clear F G I;(try clear hb);(try clear hb2);(try clear hk);(try clear hi);(try clear O);obtain⟨aI,aQ,aF⟩:=Kd.dz X.out;subst aF;have aU:=cz D 0;have aV:=cz D 1;have aY:=aK D.out 0;have a0:=aK D.out 1))
  refine bodyPost_ret (eu rfl _ _ J 74 #[.int .i64 0,.int .i64 0] (0,0) _ rfl (by(with_reducible repeat(first|refine bG ?_ _|refine bz ?_|refine bu ?_ _));refine cr (cs:= #[.int .i64 0,.int .i64 0]) ?_ 1 _ rfl;(with_reducible repeat(first|refine bG ?_ _|refine bz ?_|refine bu ?_ _));refine cr (cs:= #[.int .i64 0,.int .i64 0]) ?_ 0 _ rfl;(with_reducible repeat(first|refine bG ?_ _|refine bz ?_|refine bu ?_ _));exact D.out) Tryz.underlying74 rfl (by kernel_rfl)) rfl ?_;exact⟨eR,oB z⟩
 ·rw[au c3]at H;have aw:((u.length:Int)==0)=false:=beq_eq_false_iff_ne.mpr c3;have aB:((u.length:Int) != 0)=true:=bne_iff_ne.mpr c3;have aM:¬(u=[]):=fun h_=>c3 (by rw[h_];rfl);by_cases c8:0<(u.length:Int)
  ·rw[aq c8]at H;have aN:decide (0<(u.length:Int))=true:=ag c8;have aO:decide (0<u.length)=true:=ag (by omega);clear c8;simp only[Option.some.injEq,Prod.mk.injEq]at H;obtain⟨rfl,rfl,rfl⟩:=H;go_enter Tryz.func110,Tryz.ntmps110
   go_wp2_with (first|((with_reducible refine aJ (N:=2) rfl ?_);refine bX (N:=2) (cs:= #[.int .i64 0,.int .i64 0]) (t:=74) ?_;intro J hg a5 K hb;have F:=A_ (bn (oB z) hb);have G:=A_ (K);have I:=A_ ((by rw[hg];exact(bm (oB z)):w.heap.size≤J));have U:=A_ ((by rw[hg];exact(bm (oB z)):w.heap.size≤J));clear z;have z:=F;have D:=G;have ar:=I;have ap:=U;clear F G I U hb K hg)|((with_reducible refine bC (f:=132) rfl ?_);refine gL (some 6) Tryz.func132 #[.slice V l0.length c0] ?_;(with_reducible refine(gQ.c _ _ l0 u _ ?bc ?bf A2.out).mono ?_);(case bc=>exact bP am.out);(case bf=>exact al.out);rintro e a3 ⟨aG,rfl,O,hb⟩;refine⟨_,rfl,?_⟩;have F:=A_ (Kd.dg O (bm (oB z)));have G:=A_ (bb D hb);have I:=A_ (bn (oB z) hb);clear D z;have X:=F;have D:=G;have z:=I;clear F G I;(try clear hb);(try clear hb2);(try clear hk);(try clear hi);(try clear O);obtain⟨aH,aP,aE⟩:=Kd.dz X.out;subst aE;have ai:0≤(0:Int):=(by omega);have aj:0<(u.length:Int):=oD;obtain⟨aL,aD,Y,Z,ad,af⟩:=er (Kd.cp X.out).2.2 0 ai aj;cases aD;have a2:(0<u.length)=True:=ax (by omega);(try rw[show((0:Int)).toNat=0 from rfl]at Y);(try rw[show 0*4=0 from rfl]at Y);(try rw[Addr.add_zero']at Y);(try rw[show((0:Int)).toNat=0 from rfl]at Z);(try rw[show 0*4=0 from rfl]at Z);(try rw[Addr.add_zero']at Z);(try rw[show((0:Int)).toNat=0 from rfl]at ad);(try rw[show 0*4=0 from rfl]at ad);(try rw[Addr.add_zero']at ad);(try rw[show((0:Int)).toNat=0 from rfl]at af);(try rw[show 0*4=0 from rfl]at af);(try rw[Addr.add_zero']at af);replace ai:=ax ai;replace aj:=ax aj;have aR:=cz D 0;have aS:=cz D 1;have aW:=aK D.out 0;have aX:=aK D.out 1))
   refine bodyPost_ret (eu rfl _ _ J 74 #[.int .i64 ((av u 0).f0.f0),.int .i64 ((av u 0).f0.f1)] (0,0) _ rfl (by(with_reducible repeat(first|refine bG ?_ _|refine bz ?_|refine bu ?_ _));refine cr (cs:= #[.int .i64 ((av u 0).f0.f0),.int .i64 0]) ?_ 1 _ rfl;(with_reducible repeat(first|refine bG ?_ _|refine bz ?_|refine bu ?_ _));refine cr (cs:= #[.int .i64 0,.int .i64 0]) ?_ 0 _ rfl;(with_reducible repeat(first|refine bG ?_ _|refine bz ?_|refine bu ?_ _));exact D.out) Tryz.underlying74 rfl (by kernel_rfl)) rfl ?_;exact⟨eR,oB z⟩
  ·rw[au c8]at H;exact absurd H (by simp)
end P
namespace P
set_option maxHeartbeats 8000000
set_option maxRecDepth 100000
set_option synthInstance.maxHeartbeats 400000
set_option synthInstance.maxSize 100000
open Go.RowKit WW.bk WW.b_ WW.b6 V
attribute [local go_sem] dC dD
attribute [local go_sem] cR cV cU cY cT cX cS cW
def kZ.f (k:Nat) (l0:List (ah)) (a1:Int):Option ((List (ah))×Bool):=(lW.f l0).bind fun u=>(if u.2.2=true then((fq.f k l0 u.1 u.2.1 0 a1).bind fun z=>(some (z.1,z.2)))else((gu.f l0).bind fun D=>(some (D,false))))
theorem kZ.c (k:Nat) (z:Option Addr) (c0:Nat) (l0:List (ah)) (a1:Int) (r1:List (ah)) (r2:Bool) (w:World) (D:Kd.C aT w z l0.length l0) (hc0:l0.length≤c0) (h:kZ.f k l0 a1=some (r1,r2)):
  Calls Tryz.prog 62 #[.slice z l0.length c0,.int .i64 a1] w fun e w'=>∃G:Value,e= .returned (.tuple #[G,.bool r2])∧Kd.R aT 104 w' w.heap.size (fun _=>True) G r1∧Below w.heap.size w w':=by
 replace D:=aM.mk D;replace hc0:=aj.mk hc0;unfold kZ.f at h;have I:=Tryz.underlying74
 all_goals go_enter Tryz.func62,Tryz.ntmps62
 all_goals go_wp2_with ((first
  |((with_reducible refine aJ (N:=6) rfl ?_);refine bV #[.int .i64 0,.int .i64 0] 74 fun g w1 j1 j2 J=> ?_)
  |(go_at_call 110;replace h:=bI h;obtain⟨⟨t1,t2,t3⟩,A,h⟩:=h;(try dsimp only at h);refine(lW.c _ _ _ _ _ _ _ Rd.out aj.out A).mono ?_;rintro e w2 ⟨rfl,hb⟩;have F:=aw.mk hb;clear A hb)
  |(go_at_call 108;replace h:=bI h;obtain⟨⟨t1,t2⟩,A,h⟩:=h;(try dsimp only at h);refine(fq.c _ _ _ _ _ _ _ _ _ _ _ Rd.out aj.out A).mono ?_;rintro e w2 ⟨v0,rfl,u,hb⟩;obtain⟨H,b0,rfl,j0,q0⟩:=aH u;have F:=aw.mk hb;clear A u hb)
  |(go_at_call 107;replace h:=bI h;obtain⟨t,A,h⟩:=h;(try dsimp only at h);refine(gu.c _ _ _ _ _ Rd.out aj.out A).mono ?_;rintro e w2 ⟨v0,rfl,u,hb⟩;obtain⟨H,b0,rfl,j0,q0⟩:=aH u;have F:=aw.mk hb;clear A u hb));(repeat' first|((with_reducible replace h:=bq h);rcases h with ⟨hc,h⟩|⟨hc,h⟩<;>first|exact(bh h).elim|exact absurd hc (by decide)|subst hc|(replace hc:=aD hc;subst hc)|(have hd:=aV hc;have he:=aW hc;clear hc)|(have hd:=bo hc;have he:=bp hc)|(have hd:=ay hc)|(have hd:=ag hc)|skip));all_goals(try have hn:decide (0<t.length)=true:=ag (by omega));all_goals(try have hn:decide (0<t.length)=false:=ay (by omega)))
 all_goals simp only[Option.some.injEq,Prod.mk.injEq]at h
 all_goals obtain⟨rfl,rfl⟩:=h
 all_goals go_ret2
 all_goals exact⟨_,rfl,(by first|exact bj|exact Kd.bl _ _ _ _ _),From.out⟩
end P
namespace P
set_option maxHeartbeats 8000000
set_option maxRecDepth 100000
set_option synthInstance.maxHeartbeats 400000
set_option synthInstance.maxSize 100000
open Go.RowKit WW.bk WW.b_ WW.b6 V
attribute [local go_sem] dC dD gl iD iE iO iP
attribute [local go_sem] cR cV cU cY cT cX cS cW
def bB.j0:Nat→Bool→List (ai)→Int→List Int→Int→Int→List (ah)→Int→Int→Int→Int→Option ((List (ai))×Int×List Int×Int×Int×(List (ah))×Int)
 |0,_,_,_,_,_,_,_,_,_,_,_=>none
 |k+1,aw,D,F,G,H,u,z,Y,ad,aj,aB=>if aw=true then((eB.f D F G H u z).bind fun V=>(some (V.1,V.2.1,V.2.2.1,V.2.2.2.1,V.2.2.2.2.1,V.2.2.2.2.2,(-1))))else(if Y=1 then((jC.f k D F G H u z).bind fun I=>((gv.f I.2.2.2.2.2.2).bind fun am=>(some (I.1,I.2.1,I.2.2.1,I.2.2.2.1,I.2.2.2.2.1,I.2.2.2.2.2.1,am))))else(if Y=2 then((ld.f k D F G H u z ad).bind fun J=>((gv.f J.2.2.2.2.2.2).bind fun ao=>(some (J.1,J.2.1,J.2.2.1,J.2.2.2.1,J.2.2.2.2.1,J.2.2.2.2.2.1,ao))))else(if Y=3 then((k8.f k D F G H u z ad aj aB).bind fun K=>((gv.f K.2.2.2.2.2.2).bind fun ap=>(some (K.1,K.2.1,K.2.2.1,K.2.2.2.1,K.2.2.2.2.1,K.2.2.2.2.2.1,ap))))else(if Y=4 then((k9.f k D F G H u z ad aj).bind fun O=>((gv.f O.2.2.2.2.2.2).bind fun ar=>(some (O.1,O.2.1,O.2.2.1,O.2.2.2.1,O.2.2.2.2.1,O.2.2.2.2.2.1,ar))))else(if Y=5 then((eB.f D F G H u z).bind fun Z=>((kZ.f k z u).bind fun af=>((gv.f af.2).bind fun av=>(some (Z.1,Z.2.1,Z.2.2.1,Z.2.2.2.1,Z.2.2.2.2.1,af.1,av)))))else(if Y=6 then((eB.f D F G H u z).bind fun X=>((eY.f k D F G H u z).bind fun ak=>(some (X.1,X.2.1,X.2.2.1,X.2.2.2.1,X.2.2.2.2.1,X.2.2.2.2.2,ak))))else((eB.f D F G H u z).bind fun U=>((ft.f k D F G H u z ad).bind fun al=>(some (U.1,U.2.1,U.2.2.1,U.2.2.2.1,U.2.2.2.2.1,U.2.2.2.2.2,al))))))))))
def bB.f (k:Nat) (J:List (ai)) (u:Int) (K:List Int) (z:Int) (D:Int) (O:List (ah)) (F:Int) (G:Int) (H:Int) (I:Int):Option ((List (ai))×Int×List Int×Int×Int×(List (ah))×Int):=(eA.f k J u K z D O).bind fun U=>(if U=true then((fI.f k F G H I).bind fun V=>(bB.j0 k (!V) J u K z D O F G H I))else(bB.j0 k true J u K z D O F G H I))
def bB.qM:Bool×List (List Nat×List Nat):=(true,[([],[]),([0],[0]),([],[]),([],[]),([3],[3]),([2,4,1],[2,4]),([1,5,0,1],[1]),([5,6,0,1,2,3,4,5,6],[5])])
def bB.tT:List Nat:=[0,1,0,0,8,31,63,127]
theorem bB.yS:a6 .any (opsOf Tryz.f13 23)=bB.qM:=by kernel_rfl
theorem bB.vp:bT bB.qM.2 bB.tT=true:=by kernel_rfl
noncomputable def bB.T6:Bool×List (List Nat×List Nat):=a6 .any (opsOf Tryz.f13 6)
def bB.B6:List Nat:=[0,0,2,7,15]
theorem bB.p9:a6 .any (opsOf Tryz.f13 6)=bB.T6:=rfl
theorem bB.pw:bT bB.T6.2 bB.B6=true:=by kernel_rfl
noncomputable def bB.T9:Bool×List (List Nat×List Nat):=a6 .any (opsOf Tryz.f13 9)
def bB.B9:List Nat:=[0,0,2,7,15]
theorem bB.jQ:a6 .any (opsOf Tryz.f13 9)=bB.T9:=rfl
theorem bB.jo:bT bB.T9.2 bB.B9=true:=by kernel_rfl
noncomputable def bB.mC:Bool×List (List Nat×List Nat):=a6 .any (opsOf Tryz.f13 12)
def bB.oT:List Nat:=[0,0,2,7,15]
theorem bB.oH:a6 .any (opsOf Tryz.f13 12)=bB.mC:=rfl
theorem bB.nS:bT bB.mC.2 bB.oT=true:=by kernel_rfl
noncomputable def bB.mD:Bool×List (List Nat×List Nat):=a6 .any (opsOf Tryz.f13 15)
def bB.oU:List Nat:=[0,0,2,7,15]
theorem bB.oI:a6 .any (opsOf Tryz.f13 15)=bB.mD:=rfl
theorem bB.nT:bT bB.mD.2 bB.oU=true:=by kernel_rfl
noncomputable def bB.jY:Bool×List (List Nat×List Nat):=a6 .any (opsOf Tryz.f13 20)
def bB.mq:List Nat:=[0,0,2,7,15]
theorem bB.nr:a6 .any (opsOf Tryz.f13 20)=bB.jY:=rfl
theorem bB.mF:bT bB.jY.2 bB.mq=true:=by kernel_rfl
noncomputable def bB.qK:Bool×List (List Nat×List Nat):=a6 .any (opsOf Tryz.f13 22)
def bB.tS:List Nat:=[0,1,0,7,15,31]
theorem bB.yR:a6 .any (opsOf Tryz.f13 22)=bB.qK:=rfl
theorem bB.vo:bT bB.qK.2 bB.tS=true:=by kernel_rfl
theorem bB.c (k:Nat) (ad:Option Addr) (aE:Nat) (X:List (ai)) (al:Int) (af:Option Addr) (aF:Nat) (Y:List Int) (am:Int) (ao:Int) (ak:Option Addr) (aG:Nat) (Z:List (ah)) (ap:Int) (ar:Int) (av:Int) (aB:Int) (r1:List (ai)) (r2:Int) (r3:List Int) (aR:Int) (aS:Int) (aX:List (ah)) (aY:Int) (w:World) (aN:Kd.C aU w ad X.length X) (aI:X.length≤aE) (aO:Kd.C (Kd.int .i64) w af Y.length Y) (aK:Y.length≤aF) (aP:Kd.C aT w ak Z.length Z) (aL:Z.length≤aG) (h:bB.f k X al Y am ao Z ap ar av aB=some (r1,r2,r3,aR,aS,aX,aY)):
  Calls Tryz.prog 13 #[.agg #[.slice ad X.length aE,.int .i64 al,.slice af Y.length aF,.int .i64 am,.int .i64 ao,.slice ak Z.length aG],.agg #[.int .i64 ap,.int .i64 ar,.int .i64 av,.int .i64 aB]] w fun e w'=>∃a0 a1 a2:Value,e= .returned (.tuple #[.agg #[a0,.int .i64 r2,a1,.int .i64 aR,.int .i64 aS,a2],.int .i64 aY])∧Kd.R aU 112 w' w.heap.size (fun _=>True) a0 r1∧Kd.R (Kd.int .i64) 3 w' w.heap.size (fun _=>True) a1 r3∧Kd.R aT 104 w' w.heap.size (fun _=>True) a2 aX∧Below w.heap.size w w':=by
 replace aN:=aM.mk aN;replace aI:=aj.mk aI;replace aO:=aM.mk aO;replace aK:=aj.mk aK;replace aP:=aM.mk aP;replace aL:=aj.mk aL;have bc:=bS.mk (d:=aU) (e:=112) (t:=3) (by decide);have bd:=bS.mk (d:=aU) (e:=112) (t:=37) (by decide);have be:=bS.mk (d:=aU) (e:=112) (t:=41) (by decide);have a9:=bS.mk (d:=aT) (e:=104) (t:=3) (by decide);have a_:=bS.mk (d:=aT) (e:=104) (t:=37) (by decide);have bb:=bS.mk (d:=aT) (e:=104) (t:=41) (by decide);unfold bB.f at h;have a5:=Tryz.underlying37;have a6:=Tryz.underlying41;have a7:=Tryz.underlying74
 all_goals go_enter Tryz.func13,Tryz.ntmps13
 all_goals go_wp2_with ((first
  |((with_reducible refine aJ (N:=2) rfl ?_);refine bV #[.slice ad X.length aE,.int .i64 al,.slice af Y.length aF,.int .i64 am,.int .i64 ao,.slice ak Z.length aG] 37 fun g w1 j1 j2 O=> ?_)
  |((with_reducible refine aJ (N:=3) rfl ?_);refine bV #[.int .i64 ap,.int .i64 ar,.int .i64 av,.int .i64 aB] 41 fun g w1 j1 j2 O=> ?_)
  |((with_reducible refine aJ (N:=4) rfl ?_);refine bV #[.slice none 0 0,.int .i64 0,.slice none 0 0,.int .i64 0,.int .i64 0,.slice none 0 0] 37 fun g w1 j1 j2 O=> ?_)
  |((with_reducible refine aJ (N:=6) rfl ?_);refine bV #[.slice none 0 0,.int .i64 0,.slice none 0 0,.int .i64 0,.int .i64 0,.slice none 0 0] 37 fun g w1 j1 j2 O=> ?_)
  |((with_reducible refine aJ (N:=8) rfl ?_);refine bV #[.slice none 0 0,.int .i64 0,.slice none 0 0,.int .i64 0,.int .i64 0,.slice none 0 0] 37 fun g w1 j1 j2 O=> ?_)
  |((with_reducible refine aJ (N:=10) rfl ?_);refine bV #[.slice none 0 0,.int .i64 0,.slice none 0 0,.int .i64 0,.int .i64 0,.slice none 0 0] 37 fun g w1 j1 j2 O=> ?_)
  |((with_reducible refine aJ (N:=12) rfl ?_);refine bV #[.slice none 0 0,.int .i64 0,.slice none 0 0,.int .i64 0,.int .i64 0,.slice none 0 0] 37 fun g w1 j1 j2 O=> ?_)
  |((with_reducible refine aJ (N:=14) rfl ?_);refine bV #[.slice none 0 0,.int .i64 0,.slice none 0 0,.int .i64 0,.int .i64 0,.slice none 0 0] 37 fun g w1 j1 j2 O=> ?_)
  |(go_at_call 32;(try rw[I.out]);replace h:=bI h;obtain⟨t,A,h⟩:=h;(try dsimp only at h);refine(eA.c _ _ _ _ _ _ _ _ _ _ _ _ _ _ _ Rd.out aj.out Rd.out aj.out Rd.out aj.out A).mono ?_;rintro e w2 ⟨rfl,hb⟩;have H:=aw.mk hb;clear A hb)
  |(go_at_call 56;(try rw[I.out]);replace h:=bI h;obtain⟨t,A,h⟩:=h;(try dsimp only at h);refine(fI.c _ _ _ _ _ _ _ A).mono ?_;rintro e w2 ⟨rfl,hb⟩;have H:=aw.mk hb;clear A hb)
  |(go_at_call 57;(try rw[I.out]);replace h:=bI h;obtain⟨⟨t1,t2,t3,t4,t5,t6⟩,A,h⟩:=h;(try dsimp only at h);refine(eB.c _ _ _ _ _ _ _ _ _ _ _ _ _ _ _ _ _ _ _ Rd.out aj.out Rd.out aj.out Rd.out aj.out A).mono ?_;rintro e w2 ⟨v0,v1,v2,rfl,z,D,F,hb⟩;obtain⟨J,b0,rfl,j0,q0⟩:=aH z;obtain⟨B1,b1,rfl,j1,q1⟩:=aH D;obtain⟨B2,b2,rfl,j2,q2⟩:=aH F;have H:=aw.mk hb;clear A z D F hb)
  |(go_at_call 36;(try rw[I.out]);replace h:=bI h;obtain⟨⟨t1,t2,t3,t4,t5,t6,t7⟩,A,h⟩:=h;(try dsimp only at h);refine(jC.c _ _ _ _ _ _ _ _ _ _ _ _ _ _ _ _ _ _ _ _ _ Rd.out aj.out Rd.out aj.out Rd.out aj.out A).mono ?_;rintro e w2 ⟨v0,v1,v2,rfl,z,D,F,hb⟩;obtain⟨J,b0,rfl,j0,q0⟩:=aH z;obtain⟨B1,b1,rfl,j1,q1⟩:=aH D;obtain⟨B2,b2,rfl,j2,q2⟩:=aH F;have H:=aw.mk hb;clear A z D F hb)
  |(go_at_call 59;(try rw[I.out]);replace h:=bI h;obtain⟨⟨t1,t2,t3,t4,t5,t6,t7⟩,A,h⟩:=h;(try dsimp only at h);refine(ld.c _ _ _ _ _ _ _ _ _ _ _ _ _ _ _ _ _ _ _ _ _ _ Rd.out aj.out Rd.out aj.out Rd.out aj.out A).mono ?_;rintro e w2 ⟨v0,v1,v2,rfl,z,D,F,hb⟩;obtain⟨J,b0,rfl,j0,q0⟩:=aH z;obtain⟨B1,b1,rfl,j1,q1⟩:=aH D;obtain⟨B2,b2,rfl,j2,q2⟩:=aH F;have H:=aw.mk hb;clear A z D F hb)
  |(go_at_call 60;(try rw[I.out]);replace h:=bI h;obtain⟨⟨t1,t2,t3,t4,t5,t6,t7⟩,A,h⟩:=h;(try dsimp only at h);refine(k8.c _ _ _ _ _ _ _ _ _ _ _ _ _ _ _ _ _ _ _ _ _ _ _ _ Rd.out aj.out Rd.out aj.out Rd.out aj.out A).mono ?_;rintro e w2 ⟨v0,v1,v2,rfl,z,D,F,hb⟩;obtain⟨J,b0,rfl,j0,q0⟩:=aH z;obtain⟨B1,b1,rfl,j1,q1⟩:=aH D;obtain⟨B2,b2,rfl,j2,q2⟩:=aH F;have H:=aw.mk hb;clear A z D F hb)
  |(go_at_call 61;(try rw[I.out]);replace h:=bI h;obtain⟨⟨t1,t2,t3,t4,t5,t6,t7⟩,A,h⟩:=h;(try dsimp only at h);refine(k9.c _ _ _ _ _ _ _ _ _ _ _ _ _ _ _ _ _ _ _ _ _ _ _ Rd.out aj.out Rd.out aj.out Rd.out aj.out A).mono ?_;rintro e w2 ⟨v0,v1,v2,rfl,z,D,F,hb⟩;obtain⟨J,b0,rfl,j0,q0⟩:=aH z;obtain⟨B1,b1,rfl,j1,q1⟩:=aH D;obtain⟨B2,b2,rfl,j2,q2⟩:=aH F;have H:=aw.mk hb;clear A z D F hb)
  |(go_at_call 62;(try rw[I.out]);replace h:=bI h;obtain⟨⟨t1,t2⟩,A,h⟩:=h;(try dsimp only at h);refine(kZ.c _ _ _ _ _ _ _ _ Rd.out aj.out A).mono ?_;rintro e w2 ⟨v0,rfl,z,hb⟩;obtain⟨J,b0,rfl,j0,q0⟩:=aH z;have H:=aw.mk hb;clear A z hb)
  |(refine qR (id:=6) (ds:=[3]) (l:= #[false,false,false,false,false]) bB.p9 bB.pw ?_;intro u G w3 V u0 U hHeld;refine qA 1 (some 37) u ?_;refine qT 0 (some 36) u G hHeld ?_;replace h:=bI h;obtain⟨t,A,h⟩:=h;(try dsimp only at h);refine qC 2 38 Tryz.func58 u fun K hK=> ?_;refine(gv.c _ _ _ A).mono ?_;rintro e w2 ⟨rfl,n,rfl⟩;clear A;refine⟨_,rfl,hK _ _ From.out fun hHeld=> ?_⟩;clear hK K;refine qN ?_;refine qL 3 u ?_;refine qA 4 (some 5) u ?_;refine qD u ?_)
  |(refine qR (id:=9) (ds:=[3]) (l:= #[false,false,false,false,false]) bB.jQ bB.jo ?_;intro u G w3 V u0 U hHeld;refine qA 1 (some 49) u ?_;refine qT 0 (some 48) u G hHeld ?_;replace h:=bI h;obtain⟨t,A,h⟩:=h;(try dsimp only at h);refine qC 2 50 Tryz.func58 u fun K hK=> ?_;refine(gv.c _ _ _ A).mono ?_;rintro e w2 ⟨rfl,n,rfl⟩;clear A;refine⟨_,rfl,hK _ _ From.out fun hHeld=> ?_⟩;clear hK K;refine qN ?_;refine qL 3 u ?_;refine qA 4 (some 5) u ?_;refine qD u ?_)
  |(refine qR (id:=12) (ds:=[3]) (l:= #[false,false,false,false,false]) bB.oH bB.nS ?_;intro u G w3 V u0 U hHeld;refine qA 1 (some 66) u ?_;refine qT 0 (some 65) u G hHeld ?_;replace h:=bI h;obtain⟨t,A,h⟩:=h;(try dsimp only at h);refine qC 2 67 Tryz.func58 u fun K hK=> ?_;refine(gv.c _ _ _ A).mono ?_;rintro e w2 ⟨rfl,n,rfl⟩;clear A;refine⟨_,rfl,hK _ _ From.out fun hHeld=> ?_⟩;clear hK K;refine qN ?_;refine qL 3 u ?_;refine qA 4 (some 5) u ?_;refine qD u ?_)
  |(refine qR (id:=15) (ds:=[3]) (l:= #[false,false,false,false,false]) bB.oI bB.nT ?_;intro u G w3 V u0 U hHeld;refine qA 1 (some 80) u ?_;refine qT 0 (some 79) u G hHeld ?_;replace h:=bI h;obtain⟨t,A,h⟩:=h;(try dsimp only at h);refine qC 2 81 Tryz.func58 u fun K hK=> ?_;refine(gv.c _ _ _ A).mono ?_;rintro e w2 ⟨rfl,n,rfl⟩;clear A;refine⟨_,rfl,hK _ _ From.out fun hHeld=> ?_⟩;clear hK K;refine qN ?_;refine qL 3 u ?_;refine qA 4 (some 5) u ?_;refine qD u ?_)
  |(refine qR (id:=20) (ds:=[3]) (l:= #[false,false,false,false,false]) bB.nr bB.mF ?_;intro u G w3 V u0 U hHeld;refine qA 1 (some 97) u ?_;refine qT 0 (some 96) u G hHeld ?_;replace h:=bI h;obtain⟨t,A,h⟩:=h;(try dsimp only at h);refine qC 2 98 Tryz.func58 u fun K hK=> ?_;refine(gv.c _ _ _ A).mono ?_;rintro e w2 ⟨rfl,n,rfl⟩;clear A;refine⟨_,rfl,hK _ _ From.out fun hHeld=> ?_⟩;clear hK K;refine qN ?_;refine qL 3 u ?_;refine qA 4 (some 5) u ?_;refine qD u ?_)
  |(refine qR (id:=22) (ds:=[4]) (l:= #[false,false,false,false,false,false]) bB.yR bB.vo ?_;intro u G w3 V u0 U hHeld;refine qT 0 (some 101) u G hHeld ?_;refine qT 2 (some 103) u G hHeld ?_;replace h:=bI h;obtain⟨⟨t1,t2,t3,t4,t5,t6⟩,A,h⟩:=h;(try dsimp only at h);refine qC 1 102 Tryz.func57 u fun K hK=> ?_;refine(eB.c _ _ _ _ _ _ _ _ _ _ _ _ _ _ _ _ _ _ _ Rd.out aj.out Rd.out aj.out Rd.out aj.out A).mono ?_;rintro e w2 ⟨v0,v1,v2,rfl,z,D,F,hb⟩;obtain⟨J,b0,rfl,j0,q0⟩:=aH z;obtain⟨B1,b1,rfl,j1,q1⟩:=aH D;obtain⟨B2,b2,rfl,j2,q2⟩:=aH F;have H:=aw.mk hb;clear A z D F hb;refine⟨_,rfl,hK _ _ From.out fun hHeld=> ?_⟩;clear hK K;refine qN ?_;replace h:=bI h;obtain⟨t,A,h⟩:=h;(try dsimp only at h);refine qC 3 104 Tryz.func34 u fun K hK=> ?_;refine(eY.c _ _ _ _ _ _ _ _ _ _ _ _ _ _ _ Rd.out aj.out Rd.out aj.out Rd.out aj.out A).mono ?_;rintro e w2 ⟨rfl,hb⟩;have H:=aw.mk hb;clear A hb;refine⟨_,rfl,hK _ _ From.out fun hHeld=> ?_⟩;clear hK K;refine qN ?_;refine qL 4 u ?_;refine qA 5 (some 5) u ?_;refine qD u ?_)
  |(refine qR (id:=23) (ds:=[6]) (l:= #[false,false,false,false,false,false,false,false]) bB.yS bB.vp ?_;intro u G w3 V u0 U hHeld;refine qA 3 (some 108) u ?_;refine qT 0 (some 105) u G hHeld ?_;refine qT 2 (some 107) u G hHeld ?_;refine qT 4 (some 109) u G hHeld ?_;replace h:=bI h;obtain⟨⟨t1,t2,t3,t4,t5,t6⟩,A,h⟩:=h;(try dsimp only at h);refine qC 1 106 Tryz.func57 u fun K hK=> ?_;refine(eB.c _ _ _ _ _ _ _ _ _ _ _ _ _ _ _ _ _ _ _ Rd.out aj.out Rd.out aj.out Rd.out aj.out A).mono ?_;rintro e w2 ⟨v0,v1,v2,rfl,z,D,F,hb⟩;obtain⟨J,b0,rfl,j0,q0⟩:=aH z;obtain⟨B1,b1,rfl,j1,q1⟩:=aH D;obtain⟨B2,b2,rfl,j2,q2⟩:=aH F;have H:=aw.mk hb;clear A z D F hb;refine⟨_,rfl,hK _ _ From.out fun hHeld=> ?_⟩;clear hK K;refine qN ?_;replace h:=bI h;obtain⟨t,A,h⟩:=h;(try dsimp only at h);refine qC 5 110 Tryz.func40 u fun K hK=> ?_;refine(ft.c _ _ _ _ _ _ _ _ _ _ _ _ _ _ _ _ Rd.out aj.out Rd.out aj.out Rd.out aj.out A).mono ?_;rintro e w2 ⟨rfl,hb⟩;have H:=aw.mk hb;clear A hb;refine⟨_,rfl,hK _ _ From.out fun hHeld=> ?_⟩;clear hK K;refine qN ?_;refine qL 6 u ?_;refine qA 7 (some 5) u ?_;refine qD u ?_));(repeat' first|((with_reducible replace h:=bq h);rcases h with ⟨hc,h⟩|⟨hc,h⟩<;>first|exact(bh h).elim|exact absurd hc (by decide)|subst hc|(replace hc:=aD hc;subst hc)|(replace hc:=bH hc;subst hc)|(replace hc:=bJ hc;subst hc)|(have hd:(_==_)=true:=hc)|(have hd:(_==_)=false:=aD hc)|(have hd:=aV hc;have he:=aW hc;clear hc)|(have hd:=bo hc;have he:=bp hc)|(have hd:=ay hc)|(have hd:=ag hc;(try(have hn:=Int.natCast_pos.mp hc;have hm:=ag hn;replace hn:=ax hn));first|(obtain⟨a4,e_,i_⟩:=cQ (by assumption) (by first|assumption|decide) hc;cases e_)|(obtain⟨a3,e_,c_⟩:=bE (by assumption) (by first|assumption|decide) hc;cases e_))|(have hd:=ag hc)|skip)|((with_reducible have hj:bB.j0 k _ _ _ _ _ _ _ _ _ _ _=_:=h);clear hj;rcases k with _|k<;>rw[bB.j0]at h<;>first|exact(bh h).elim|skip)|((with_reducible replace h:=bF h);obtain⟨I,h⟩:=h;replace I:=A_ I;(try dsimp only at h))))
 all_goals simp only[Option.some.injEq,Prod.mk.injEq]at h
 all_goals obtain⟨rfl,rfl,rfl,rfl,rfl,rfl,rfl⟩:=h
 all_goals refine bodyPost_ret (eu rfl _ _ _ _ _ (0,0) _ rfl aQ.out Tryz.underlying37 rfl (by kernel_rfl)) rfl ?_
 all_goals exact⟨_,_,_,rfl,(by first|exact bj|exact Kd.bl _ _ _ _ _|exact bM|exact en (by simp)),(by first|exact bj|exact Kd.bl _ _ _ _ _|exact bM|exact en (by simp)),(by first|exact bj|exact Kd.bl _ _ _ _ _|exact bM|exact en (by simp)),From.out⟩
end P
namespace Q
open Go.RowKit P WW.bk WW.b6
def m_ (l:List ah):List ah:=if cI l=true then dP l l.length else[]
theorem xp (l:List ah) (hl:l.length≤1048577):gQ.f l=some (m_ l):=by
  unfold gQ.f;rw[aq hl];rfl
theorem xn (l:List ah) (hl:l.length≤1048577):Ev (fun k=>bA.f k l) (m_ l):=xq l hl
def jF (l:List ah):Int×Int×Bool:=match m_ l with
  |[]=>(0,0,false)
  |x::_=>(x.f0.f0,x.f0.f1,true)
theorem xi (l:List ah) (hl:l.length≤1048577):lW.f l=some (jF l):=by
  unfold lW.f jF;rw[xp l hl];simp only[aA];cases h:m_ l with
  |nil=>simp
  |cons x r=>
   rw[au (by first|(simp;done)|(simp;omega)),aq (by first|(simp;done)|(simp;omega))];simp[av]
theorem xj (l:List ah) (hl:l.length≤1048577):Ev (fun k=>mi.f k l) (jF l):=by
  unfold mi.f jF;refine Ev.bind (xn l hl) ?_;cases h:m_ l with
  |nil=>exact ar (by simp) (Ev.now _)
  |cons x r=>
   refine aI (by first|(simp;done)|(simp;omega)) (ar (by first|(simp;done)|(simp;omega)) ?_);simp only[av];exact Ev.now _
def kv (l:List ah) (m:Int):List ah×Bool:=if(jF l).2.2=true then addEntry l (jF l).1 (jF l).2.1 0 m else(l,false)
theorem ye (l:List ah) (m:Int) (hl:l.length≤1048576):Ev (fun k=>kZ.f k l m) (kv l m):=by
  unfold kZ.f kv;refine aX (xi l (by omega)) ?_;by_cases h:(jF l).2.2=true
  · exact bK h<|ar h (Ev.bind (qO l _ _ _ _ hl) (Ev.now _))
  · exact br h<|aI h (aX (mN l (by omega)) (Ev.now _))
theorem yf (l:List ah) (m:Int) (hl:l.length≤1048576):Ev (fun k=>lC.f k l m) (kv l m):=by
  unfold lC.f kv;refine Ev.bind (xj l (by omega)) ?_;by_cases h:(jF l).2.2=true
  · exact bK h<|ar h (Ev.bind (qQ l _ _ _ _ hl) (Ev.now _))
  · exact br h<|aI h (aX (mV l (by omega)) (Ev.now _))
end Q
namespace P
set_option maxRecDepth 100000
set_option synthInstance.maxHeartbeats 400000
set_option synthInstance.maxSize 100000
open Go.RowKit WW.bk WW.b_ WW.b6 V
attribute [local go_sem] dC dD
attribute [local go_sem] cR cV cU cY cT cX cS cW
def a7.f (k:Nat) (G:List (ai)) (F:Int) (H:List Int) (z:Int) (u:Int) (D:List (ah)):Option (Bool):=(cu.f k G F H).bind fun b=>some (b&&(Q.cI D&&(decide (-10≤z∧z≤40)&&(decide (0≤u∧u≤100000)&&decide (Q.ic D u)))))
def a7.T2:Bool×List (List Nat×List Nat):=(true,[([],[]),([0],[0]),([1],[1]),([2,2],[2]),([3],[3]),([4,3],[3,4]),([5,3,3],[3,5]),([3,6],[3,6]),([7,6],[7]),([8],[8]),([9,8],[8,9]),([10,8,8],[8,10]),([8,11],[8,11]),([12,11],[12]),([13],[13]),([14,13],[13,14]),([15,13,13],[13,15]),([13,16],[13,16]),([17,16],[17]),([18],[18]),([19,18],[18,19]),([20,18,18],[18,20]),([21],[21]),([22,21],[21,22]),([21],[21]),([24,21],[21,24]),([23,25,21],[21,23,25]),([26,21],[21,26]),([27,21],[21,27]),([21],[21]),([29,21],[21,29]),([28,30,21],[21,28,30]),([21,31,18],[18,21,31]),([18,32],[18,32]),([33,21,0,1,2,3,4,5,6,7,8,9,10,11,12,13,14,15,16,17,18,19,20,21,22,23,24,25,26,27,28,29,30,31,32,33],[33])])
def a7.B2:List Nat:=[0,1,3,7,15,31,63,127,255,511,1023,2047,4095,8191,16383,32767,65535,131071,262143,524287,1048575,2097151,4194303,8388607,4194303,20971519,67108863,134217727,268435455,4194303,541065215,2147483647,4294967295,8589934591,17179869183]
theorem a7.p8:a6 .any (opsOf Tryz.f37 2)=a7.T2:=by kernel_rfl
theorem a7.pq:bT a7.T2.2 a7.B2=true:=by kernel_rfl
def a7.m (n:Nat):Array Bool:=((List.range 35).map (fun j=>decide (j<n))).toArray
attribute [local go_sem] gl
set_option maxHeartbeats 4000000 in
theorem a7.calls (k:Nat) (U:Option Addr) (X:Nat) (G:List (ai)) (O:Int) (V:Option Addr) (Y:Nat) (H:List Int) (F:Int) (D:Int) (ad:Option Addr) (Z:Nat) (z:List (ah)) (r:Bool) (w:World) (aE:Kd.C aU w U G.length G) (ar:G.length≤X) (aF:Kd.C (Kd.int .i64) w V H.length H) (aB:H.length≤Y) (ak:Kd.C aT w ad z.length z) (aD:z.length≤Z) (h:a7.f k G O H F D z=some r):
  Calls Tryz.prog 37 #[.agg #[.slice U G.length X,.int .i64 O,.slice V H.length Y,.int .i64 F,.int .i64 D,.slice ad z.length Z]] w fun e w'=>e= .returned (.bool r)∧Below w.heap.size w w':=by
 obtain⟨b1,hb1,h⟩:=az h;obtain⟨b2,hb2⟩:∃b,Q.cI z=b:=⟨_,rfl⟩;obtain⟨b3,hb3⟩:∃b,decide (-10≤F∧F≤40)=b:=⟨_,rfl⟩;obtain⟨b4,hb4⟩:∃b,decide (0≤D∧D≤100000)=b:=⟨_,rfl⟩;obtain⟨af,al⟩:∃b,decide (Q.ic z D)=b:=⟨_,rfl⟩;have ao:ae ((b1&&(b2&&(b3&&(b4&&af))))=r):=⟨by rw[←hb2,←hb3,←hb4,←al];exact aC h⟩;have aH:ae (cu.f k G O H=some b1):=⟨hb1⟩;have A2:ae (gF.f k z=some b2):=⟨by rw[←hb2];rfl⟩;have aI:ae (cn.f F (-10) 40=some b3):=⟨by rw[←hb3];unfold cn.f;by_cases hh:F≥ -10<;>simp[hh]<;>omega⟩;have aK:ae (cn.f D 0 100000=some b4):=⟨by rw[←hb4];unfold cn.f;by_cases hh:D≥0<;>simp[hh]<;>omega⟩;have H5:=A_ al;have ap:=A_ ak;have am:=A_ (Kd.mr ak);have i0:=aM.mk aE;have i1:=aj.mk ar;have i2:=aM.mk aF;have i3:=aj.mk aB;have i4:=aM.mk ak;have i5:=aj.mk aD;have hu:=Tryz.underlying37;clear aE ar aF aB ak aD h hb1 hb2 hb3 hb4 al
 have hzz:z.length=0∨∃(J:Addr) (j:Nat) (y:ah),ad=some J∧((z.length:Int)==0)=false∧((z.length:Int) != 0)=true∧wrap64 ((z.length:Int)-1)=(j:Int)∧IntKind.i64.wrap ((z.length:Int)-1)=(j:Int)∧(j:Int)<(z.length:Int)∧j<z.length∧dt w ⟨(J.add (j*4)).block,(J.add (j*4)).off+3,none⟩ (.int .i64 y.f2)∧decide (y.f2≤D)=af:=by
  by_cases hz:z.length=0
  ·exact .inl hz
  right;obtain⟨j,hj⟩:∃j,j+1=z.length:=⟨z.length-1,by omega⟩;have hM:=am.out;obtain⟨J,e2,_,_,_,aG⟩:=er ap.out (j:Int) (by omega) (by omega);have hw1:wrap64 ((z.length:Int)-1)=(j:Int):=by unfold wrap64;omega
  simp only[Int.toNat_natCast]at aG;refine⟨J,j,av z (j:Int),e2,beq_eq_false_iff_ne.mpr (by omega),bne_iff_ne.mpr (by omega),hw1,by rw[cd];exact hw1,by omega,by omega,⟨aG⟩,?_⟩;rw[←H5.out];refine decide_eq_decide.mpr ?_;unfold Q.ic;rw[show z.length-1=j by omega];simp[av,hz]
 have aL:(b1=false∧r=false)∨(b1=true∧b2=false∧r=false)∨(b1=true∧b2=true∧b3=false∧r=false)∨(b1=true∧b2=true∧b3=true∧b4=false∧r=false)∨(b1=true∧b2=true∧b3=true∧b4=true∧af=r):=by
  have:=ao.out;cases b1<;>cases b2<;>cases b3<;>cases b4<;>simp_all
 replace hzz:=hzz.imp (fun hz=>(⟨by rw[←H5.out];exact(ag (.inl hz)).symm,beq_iff_eq.mpr (by omega),bne_eq_false_iff_eq.mpr (by omega)⟩:true=af∧((z.length:Int)==0)=true∧((z.length:Int) != 0)=false)) id;clear ao H5 ap am;rcases aL with ⟨rfl,rfl⟩|⟨rfl,rfl,rfl⟩|⟨rfl,rfl,rfl,rfl⟩|⟨rfl,rfl,rfl,rfl,rfl⟩|⟨rfl,rfl,rfl,rfl,rfl⟩
 rotate_right
 rcases hzz with ⟨rfl,aO,z2⟩|⟨J,j,y,rfl,aO,z2,z3,z4,z5,aR,aS,aV⟩
 all_goals try clear hzz
 all_goals go_enter Tryz.func37,Tryz.ntmps37
 all_goals go_wp2_with (first|((with_reducible refine aJ (N:=1) rfl ?_);(try(refine ke (by rfl) ?_;dsimp only));(first|refine kS rfl (N:=1) rfl (cs:= #[.slice U G.length X,.int .i64 O,.slice V H.length Y,.int .i64 F,.int .i64 D,.slice ad z.length Z]) (t:=37) (by first|(go_simp;done)|(go_simp;rfl)) ?_|refine kS rfl (N:=1) rfl (cs:= #[.slice U G.length X,.int .i64 O,.slice V H.length Y,.int .i64 F,.int .i64 D,.slice (some J) z.length Z]) (t:=37) (by first|(go_simp;done)|(go_simp;rfl)) ?_);intro g hg w1 hk hb;have j1:=fC.mk hg;have j2:=aw.mk hb;have aP:=aQ.mk hk;clear hg hb hk))
 all_goals(refine fB (n:=35) (S:=fun w'=>Below w1.heap.size w1 w') (ds:=[]) (a7.m 0) (by kernel_rfl) rfl (by kernel_rfl) From.out (fun hHeld=> ?_);refine fU a7.p8 a7.pq (fun u I=> ?_))
 all_goals first|(refine pA 0 (some 7) u.out ?_ (l':=(a7.m 1)) (hl:=by rfl))|(refine pU 0 (some 7) u.out ?_ (l':=(a7.m 1)) (hl:=by rfl))
 all_goals first|(refine pT 1 (some 8) u.out I.out hHeld ?_ (l':=(a7.m 2)) (hl:=by rfl) (hy:=by intro w' hS;have jS:eU w1 w':=⟨hS⟩;go_simp;with_reducible rfl))|(refine pU 1 (some 8) u.out ?_ (l':=(a7.m 2)) (hl:=by rfl))
 all_goals first|(refine dO (i:=2) (N:=some 9) (a7.m 3) rfl rfl (dn u.out (by kernel_rfl)) (by decide) (fun K hK=> ?_);refine df Tryz.func86 (by kernel_rfl) rfl #[.agg #[.slice U G.length X,.int .i64 O,.slice V H.length Y]] (by rfl) rfl rfl (by(try simp only[List.map_toArray,List.map_cons,List.map_nil]);first|done|rfl) ?_;refine(cu.c k _ _ _ _ _ _ _ _ _ Rd.out aj.out Rd.out aj.out aH.out).mono ?_;rintro e w2 ⟨rfl,hb⟩;have aN:=aw.mk hb;clear hb;refine⟨_,rfl,?_⟩;refine hK.out _ _ From.out (fun hHeld=> ?_);clear hK K;refine dX (a':= ?_) ?_ ?_;rotate_left;(focus (show Act.put _ (some 9) _=_;simp only[Act.put,List.setIfInBounds_toArray,List.set_cons_zero,List.set_cons_succ,cd,ct];rfl)))|(refine pU 2 (some 9) u.out ?_ (l':=(a7.m 3)) (hl:=by rfl))
 all_goals first|(refine pA 3 (some 10) u.out ?_ (l':=(a7.m 4)) (hl:=by rfl))|(refine pU 3 (some 10) u.out ?_ (l':=(a7.m 4)) (hl:=by rfl))
 all_goals first|(refine pA 4 (some 11) u.out ?_ (l':=(a7.m 5)) (hl:=by rfl))|(refine pU 4 (some 11) u.out ?_ (l':=(a7.m 5)) (hl:=by rfl))
 all_goals first|(refine pT 5 (some 12) u.out I.out hHeld ?_ (l':=(a7.m 6)) (hl:=by rfl) (hy:=by intro w' hS;have jS:eU w1 w':=⟨hS⟩;go_simp;with_reducible rfl))|(refine pU 5 (some 12) u.out ?_ (l':=(a7.m 6)) (hl:=by rfl))
 all_goals first|(refine dO (i:=6) (N:=some 13) (a7.m 7) rfl rfl (dn u.out (by kernel_rfl)) (by decide) (fun K hK=> ?_);refine df Tryz.func87 (by kernel_rfl) rfl #[.slice _ z.length Z] (by rfl) rfl rfl (by(try simp only[List.map_toArray,List.map_cons,List.map_nil]);first|done|rfl) ?_;refine(gF.c k _ _ _ _ _ Rd.out aj.out A2.out).mono ?_;rintro e w2 ⟨rfl,hb⟩;have aN:=aw.mk hb;clear hb;refine⟨_,rfl,?_⟩;refine hK.out _ _ From.out (fun hHeld=> ?_);clear hK K;refine dX (a':= ?_) ?_ ?_;rotate_left;(focus (show Act.put _ (some 13) _=_;simp only[Act.put,List.setIfInBounds_toArray,List.set_cons_zero,List.set_cons_succ,cd,ct];rfl)))|(refine pU 6 (some 13) u.out ?_ (l':=(a7.m 7)) (hl:=by rfl))
 all_goals first|(refine pA 7 (some 14) u.out ?_ (l':=(a7.m 8)) (hl:=by rfl))|(refine pU 7 (some 14) u.out ?_ (l':=(a7.m 8)) (hl:=by rfl))
 all_goals first|(refine pA 8 (some 15) u.out ?_ (l':=(a7.m 9)) (hl:=by rfl))|(refine pU 8 (some 15) u.out ?_ (l':=(a7.m 9)) (hl:=by rfl))
 all_goals first|(refine pA 9 (some 16) u.out ?_ (l':=(a7.m 10)) (hl:=by rfl))|(refine pU 9 (some 16) u.out ?_ (l':=(a7.m 10)) (hl:=by rfl))
 all_goals first|(refine pT 10 (some 17) u.out I.out hHeld ?_ (l':=(a7.m 11)) (hl:=by rfl) (hy:=by intro w' hS;have jS:eU w1 w':=⟨hS⟩;go_simp;with_reducible rfl))|(refine pU 10 (some 17) u.out ?_ (l':=(a7.m 11)) (hl:=by rfl))
 all_goals first|(refine dO (i:=11) (N:=some 18) (a7.m 12) rfl rfl (dn u.out (by kernel_rfl)) (by decide) (fun K hK=> ?_);refine df Tryz.func88 (by kernel_rfl) rfl #[.int .i64 F,.int .i64 (-10),.int .i64 40] (by rfl) rfl rfl (by(try simp only[List.map_toArray,List.map_cons,List.map_nil]);first|done|rfl) ?_;refine(cn.c _ _ _ _ _ aI.out).mono ?_;rintro e w2 ⟨rfl,n,rfl⟩;refine⟨_,rfl,?_⟩;refine hK.out _ _ From.out (fun hHeld=> ?_);clear hK K;refine dX (a':= ?_) ?_ ?_;rotate_left;(focus (show Act.put _ (some 18) _=_;simp only[Act.put,List.setIfInBounds_toArray,List.set_cons_zero,List.set_cons_succ,cd,ct];rfl)))|(refine pU 11 (some 18) u.out ?_ (l':=(a7.m 12)) (hl:=by rfl))
 all_goals first|(refine pA 12 (some 19) u.out ?_ (l':=(a7.m 13)) (hl:=by rfl))|(refine pU 12 (some 19) u.out ?_ (l':=(a7.m 13)) (hl:=by rfl))
 all_goals first|(refine pA 13 (some 20) u.out ?_ (l':=(a7.m 14)) (hl:=by rfl))|(refine pU 13 (some 20) u.out ?_ (l':=(a7.m 14)) (hl:=by rfl))
 all_goals first|(refine pA 14 (some 21) u.out ?_ (l':=(a7.m 15)) (hl:=by rfl))|(refine pU 14 (some 21) u.out ?_ (l':=(a7.m 15)) (hl:=by rfl))
 all_goals first|(refine pT 15 (some 22) u.out I.out hHeld ?_ (l':=(a7.m 16)) (hl:=by rfl) (hy:=by intro w' hS;have jS:eU w1 w':=⟨hS⟩;go_simp;with_reducible rfl))|(refine pU 15 (some 22) u.out ?_ (l':=(a7.m 16)) (hl:=by rfl))
 all_goals first|(refine dO (i:=16) (N:=some 23) (a7.m 17) rfl rfl (dn u.out (by kernel_rfl)) (by decide) (fun K hK=> ?_);refine df Tryz.func88 (by kernel_rfl) rfl #[.int .i64 D,.int .i64 0,.int .i64 100000] (by rfl) rfl rfl (by(try simp only[List.map_toArray,List.map_cons,List.map_nil]);first|done|rfl) ?_;refine(cn.c _ _ _ _ _ aK.out).mono ?_;rintro e w2 ⟨rfl,n,rfl⟩;refine⟨_,rfl,?_⟩;refine hK.out _ _ From.out (fun hHeld=> ?_);clear hK K;refine dX (a':= ?_) ?_ ?_;rotate_left;(focus (show Act.put _ (some 23) _=_;simp only[Act.put,List.setIfInBounds_toArray,List.set_cons_zero,List.set_cons_succ,cd,ct];rfl)))|(refine pU 16 (some 23) u.out ?_ (l':=(a7.m 17)) (hl:=by rfl))
 all_goals first|(refine pA 17 (some 24) u.out ?_ (l':=(a7.m 18)) (hl:=by rfl))|(refine pU 17 (some 24) u.out ?_ (l':=(a7.m 18)) (hl:=by rfl))
 all_goals first|(refine pA 18 (some 25) u.out ?_ (l':=(a7.m 19)) (hl:=by rfl))|(refine pU 18 (some 25) u.out ?_ (l':=(a7.m 19)) (hl:=by rfl))
 all_goals first|(refine pA 19 (some 26) u.out ?_ (l':=(a7.m 20)) (hl:=by rfl))|(refine pU 19 (some 26) u.out ?_ (l':=(a7.m 20)) (hl:=by rfl))
 all_goals first|(refine pA 20 (some 27) u.out ?_ (l':=(a7.m 21)) (hl:=by rfl))|(refine pU 20 (some 27) u.out ?_ (l':=(a7.m 21)) (hl:=by rfl))
 all_goals first|(refine pA 21 (some 28) u.out ?_ (l':=(a7.m 22)) (hl:=by rfl))|(refine pU 21 (some 28) u.out ?_ (l':=(a7.m 22)) (hl:=by rfl))
 all_goals first|(refine pA 22 (some 29) u.out ?_ (l':=(a7.m 23)) (hl:=by rfl))|(refine pU 22 (some 29) u.out ?_ (l':=(a7.m 23)) (hl:=by rfl))
 all_goals first|(refine pT 23 (some 30) u.out I.out hHeld ?_ (l':=(a7.m 24)) (hl:=by rfl) (hy:=by intro w' hS;have jS:eU w1 w':=⟨hS⟩;go_simp;with_reducible rfl))|(refine pU 23 (some 30) u.out ?_ (l':=(a7.m 24)) (hl:=by rfl))
 all_goals first|(refine pA 24 (some 31) u.out ?_ (l':=(a7.m 25)) (hl:=by rfl))|(refine pU 24 (some 31) u.out ?_ (l':=(a7.m 25)) (hl:=by rfl))
 all_goals first|(refine pA 25 (some 32) u.out ?_ (l':=(a7.m 26)) (hl:=by rfl))|(refine pU 25 (some 32) u.out ?_ (l':=(a7.m 26)) (hl:=by rfl))
 all_goals first|(refine pA 26 (some 33) u.out ?_ (l':=(a7.m 27)) (hl:=by rfl))|(refine pU 26 (some 33) u.out ?_ (l':=(a7.m 27)) (hl:=by rfl))
 all_goals first|(refine pA 27 (some 34) u.out ?_ (l':=(a7.m 28)) (hl:=by rfl))|(refine pU 27 (some 34) u.out ?_ (l':=(a7.m 28)) (hl:=by rfl))
 all_goals first|(refine pT 28 (some 35) u.out I.out hHeld ?_ (l':=(a7.m 29)) (hl:=by rfl) (hy:=by intro w' hS;have jS:eU w1 w':=⟨hS⟩;go_simp;with_reducible rfl))|(refine pU 28 (some 35) u.out ?_ (l':=(a7.m 29)) (hl:=by rfl))
 all_goals first|(refine pA 29 (some 36) u.out ?_ (l':=(a7.m 30)) (hl:=by rfl))|(refine pU 29 (some 36) u.out ?_ (l':=(a7.m 30)) (hl:=by rfl))
 all_goals first|(refine pT 30 (some 37) u.out I.out hHeld ?_ (l':=(a7.m 31)) (hl:=by rfl) (hy:=by intro w' hS;have jS:eU w1 w':=⟨hS⟩;go_simp;with_reducible rfl))|(refine pU 30 (some 37) u.out ?_ (l':=(a7.m 31)) (hl:=by rfl))
 all_goals first|(refine pA 31 (some 38) u.out ?_ (l':=(a7.m 32)) (hl:=by rfl))|(refine pU 31 (some 38) u.out ?_ (l':=(a7.m 32)) (hl:=by rfl))
 all_goals first|(refine pA 32 (some 39) u.out ?_ (l':=(a7.m 33)) (hl:=by rfl))|(refine pU 32 (some 39) u.out ?_ (l':=(a7.m 33)) (hl:=by rfl))
 all_goals first|(refine pA 33 (some 40) u.out ?_ (l':=(a7.m 34)) (hl:=by rfl))|(refine pU 33 (some 40) u.out ?_ (l':=(a7.m 34)) (hl:=by rfl))
 all_goals first|(refine pA 34 (some 2) u.out ?_ (l':=(a7.m 35)) (hl:=by rfl))|(refine pU 34 (some 2) u.out ?_ (l':=(a7.m 35)) (hl:=by rfl))
 all_goals refine eW (fp u.out (by kernel_rfl)) ?_
 all_goals try go_wp2
 all_goals go_ret
 all_goals exact⟨by first|rfl|(simp[*];done),From.out⟩
end P
namespace P
set_option maxHeartbeats 8000000
set_option maxRecDepth 100000
set_option synthInstance.maxHeartbeats 400000
set_option synthInstance.maxSize 100000
open Go.RowKit WW.bk WW.b_ WW.b6 V
attribute [local go_sem] dC dD
attribute [local go_sem] cR cV cU cY cT cX cS cW
def jc.f (k:Nat) (D:List (ai)) (z:Int) (F:List Int) (I:Int) (J:Int) (K:List (ah)):Option ((List (ai))×Int×List Int×Int×Int×(List (ah))×Bool):=(fz.f D z F I J K).bind fun u=>((a7.f k D z F I J K).bind fun t240=>(if t240=true then((cZ.f k D z F).bind fun t241=>(if(t241.length:Int)>0 then((dZ.f k D z F).bind fun G=>(some (G.1,G.2.1,G.2.2.1,u.2.2.2.1,u.2.2.2.2.1,u.2.2.2.2.2,G.2.2.2)))else((eo.f k D z F).bind fun H=>(some (H.1,H.2.1,H.2.2.1,u.2.2.2.1,u.2.2.2.2.1,u.2.2.2.2.2,H.2.2.2)))))else(some (u.1,u.2.1,u.2.2.1,u.2.2.2.1,u.2.2.2.2.1,u.2.2.2.2.2,false))))
theorem jc.c (k:Nat) (I:Option Addr) (Y:Nat) (D:List (ai)) (U:Int) (J:Option Addr) (Z:Nat) (F:List Int) (V:Int) (X:Int) (K:Option Addr) (ad:Nat) (G:List (ah)) (r1:List (ai)) (r2:Int) (r3:List Int) (aB:Int) (aE:Int) (aF:List (ah)) (aG:Bool) (w:World) (ao:Kd.C aU w I D.length D) (af:D.length≤Y) (ap:Kd.C (Kd.int .i64) w J F.length F) (ak:F.length≤Z) (ar:Kd.C aT w K G.length G) (al:G.length≤ad) (h:jc.f k D U F V X G=some (r1,r2,r3,aB,aE,aF,aG)):
  Calls Tryz.prog 47 #[.agg #[.slice I D.length Y,.int .i64 U,.slice J F.length Z,.int .i64 V,.int .i64 X,.slice K G.length ad]] w fun e w'=>∃aI aK aL:Value,e= .returned (.tuple #[.agg #[aI,.int .i64 r2,aK,.int .i64 aB,.int .i64 aE,aL],.bool aG])∧Kd.R aU 112 w' w.heap.size (fun _=>True) aI r1∧Kd.R (Kd.int .i64) 3 w' w.heap.size (fun _=>True) aK r3∧Kd.R aT 104 w' w.heap.size (fun _=>True) aL aF∧Below w.heap.size w w':=by
 replace ao:=aM.mk ao;replace af:=aj.mk af;replace ap:=aM.mk ap;replace ak:=aj.mk ak;replace ar:=aM.mk ar;replace al:=aj.mk al;unfold jc.f at h;have aN:=Tryz.underlying37
 all_goals go_enter Tryz.func47,Tryz.ntmps47
 all_goals go_wp2_with ((first
  |((with_reducible refine aJ (N:=1) rfl ?_);refine bV #[.slice I D.length Y,.int .i64 U,.slice J F.length Z,.int .i64 V,.int .i64 X,.slice K G.length ad] 37 fun g w1 j1 j2 av=> ?_)
  |((with_reducible refine aJ (N:=2) rfl ?_);refine bV #[.slice none 0 0,.int .i64 0,.slice none 0 0,.int .i64 0,.int .i64 0,.slice none 0 0] 37 fun g w1 j1 j2 av=> ?_)
  |((with_reducible refine aJ (N:=4) rfl ?_);refine bV #[.slice none 0 0,.int .i64 0,.slice none 0 0,.int .i64 0,.int .i64 0,.slice none 0 0] 37 fun g w1 j1 j2 av=> ?_)
  |(go_at_call 45;replace h:=bI h;obtain⟨⟨t1,t2,t3,t4,t5,t6⟩,A,h⟩:=h;(try dsimp only at h);refine(fz.c _ _ _ _ _ _ _ _ _ _ _ _ _ _ _ _ _ _ _ Rd.out aj.out Rd.out aj.out Rd.out aj.out A).mono ?_;rintro e w2 ⟨v0,v1,v2,rfl,u,z,am,hb⟩;obtain⟨O,b0,rfl,j0,q0⟩:=aH u;obtain⟨B1,b1,rfl,j1,q1⟩:=aH z;obtain⟨B2,b2,rfl,j2,q2⟩:=aH am;have H:=aw.mk hb;clear A u z am hb)
  |(go_at_call 37;replace h:=bI h;obtain⟨t,A,h⟩:=h;(try dsimp only at h);refine(a7.calls _ _ _ _ _ _ _ _ _ _ _ _ _ _ _ Rd.out aj.out Rd.out aj.out Rd.out aj.out A).mono ?_;rintro e w2 ⟨rfl,hb⟩;have H:=aw.mk hb;clear A hb)
  |(go_at_call 83;replace h:=bI h;obtain⟨t,A,h⟩:=h;(try dsimp only at h);refine(cZ.c _ _ _ _ _ _ _ _ _ _ Rd.out aj.out Rd.out aj.out A).mono ?_;rintro e w2 ⟨v0,rfl,u,hb⟩;obtain⟨O,b0,rfl,j0,q0⟩:=aH u;have H:=aw.mk hb;clear A u hb)
  |(go_at_call 97;replace h:=bI h;obtain⟨⟨t1,t2,t3,t4⟩,A,h⟩:=h;(try dsimp only at h);refine(dZ.c _ _ _ _ _ _ _ _ _ _ _ _ _ Rd.out aj.out Rd.out aj.out A).mono ?_;rintro e w2 ⟨v0,v1,rfl,u,z,hb⟩;obtain⟨O,b0,rfl,j0,q0⟩:=aH u;obtain⟨B1,b1,rfl,j1,q1⟩:=aH z;have H:=aw.mk hb;clear A u z hb)
  |(go_at_call 98;replace h:=bI h;obtain⟨⟨t1,t2,t3,t4⟩,A,h⟩:=h;(try dsimp only at h);refine(eo.c _ _ _ _ _ _ _ _ _ _ _ _ _ Rd.out aj.out Rd.out aj.out A).mono ?_;rintro e w2 ⟨v0,v1,rfl,u,z,hb⟩;obtain⟨O,b0,rfl,j0,q0⟩:=aH u;obtain⟨B1,b1,rfl,j1,q1⟩:=aH z;have H:=aw.mk hb;clear A u z hb));(repeat' first|((with_reducible replace h:=bq h);rcases h with ⟨hc,h⟩|⟨hc,h⟩<;>first|exact(bh h).elim|exact absurd hc (by decide)|subst hc|(replace hc:=aD hc;subst hc)|(have hd:=aV hc;have he:=aW hc;clear hc)|(have hd:=bo hc;have he:=bp hc)|(have hd:=ay hc)|(have hd:=ag hc)|skip));all_goals(try have hn:decide (0<t.length)=true:=ag (by omega));all_goals(try have hn:decide (0<t.length)=false:=ay (by omega)))
 all_goals simp only[Option.some.injEq,Prod.mk.injEq]at h
 all_goals obtain⟨rfl,rfl,rfl,rfl,rfl,rfl,rfl⟩:=h
 all_goals refine bodyPost_ret (eu rfl _ _ _ _ _ (0,0) _ rfl aQ.out Tryz.underlying37 rfl (by kernel_rfl)) rfl ?_
 all_goals exact⟨_,_,_,rfl,(by first|exact bj|exact Kd.bl _ _ _ _ _),(by first|exact bj|exact Kd.bl _ _ _ _ _),(by first|exact bj|exact Kd.bl _ _ _ _ _),From.out⟩
def jd.f (k:Nat) (J:List (ai)) (H:Int) (K:List Int) (I:Int) (z:Int) (O:List (ah)) (a1:Int):Option ((List (ai))×Int×List Int×Int×Int×(List (ah))×Bool):=(fz.f J H K I z O).bind fun u=>((a7.f k J H K I z O).bind fun U=>(if U=true then(if z=100000 then((fz.f J H K I z O).bind fun D=>(some (D.1,D.2.1,D.2.2.1,D.2.2.2.1,D.2.2.2.2.1,D.2.2.2.2.2,false)))else((a7.f k u.1 u.2.1 u.2.2.1 a1 u.2.2.2.2.1 u.2.2.2.2.2).bind fun V=>(if V=true then(some (u.1,u.2.1,u.2.2.1,a1,wrap64 (z+1),u.2.2.2.2.2,true))else((fz.f J H K I z O).bind fun F=>(some (F.1,F.2.1,F.2.2.1,F.2.2.2.1,F.2.2.2.2.1,F.2.2.2.2.2,false))))))else((fz.f J H K I z O).bind fun G=>(some (G.1,G.2.1,G.2.2.1,G.2.2.2.1,G.2.2.2.2.1,G.2.2.2.2.2,false)))))
theorem jd.c (k:Nat) (F:Option Addr) (O:Nat) (u:List (ai)) (I:Int) (G:Option Addr) (U:Nat) (z:List Int) (J:Int) (K:Int) (H:Option Addr) (V:Nat) (D:List (ah)) (a1:Int) (r1:List (ai)) (r2:Int) (r3:List Int) (ar:Int) (av:Int) (aB:List (ah)) (aE:Bool) (w:World) (al:Kd.C aU w F u.length u) (X:u.length≤O) (am:Kd.C (Kd.int .i64) w G z.length z) (Y:z.length≤U) (ao:Kd.C aT w H D.length D) (Z:D.length≤V) (h:jd.f k u I z J K D a1=some (r1,r2,r3,ar,av,aB,aE)):
  Calls Tryz.prog 48 #[.agg #[.slice F u.length O,.int .i64 I,.slice G z.length U,.int .i64 J,.int .i64 K,.slice H D.length V],.int .i64 a1] w fun e w'=>∃aF aG aI:Value,e= .returned (.tuple #[.agg #[aF,.int .i64 r2,aG,.int .i64 ar,.int .i64 av,aI],.bool aE])∧Kd.R aU 112 w' w.heap.size (fun _=>True) aF r1∧Kd.R (Kd.int .i64) 3 w' w.heap.size (fun _=>True) aG r3∧Kd.R aT 104 w' w.heap.size (fun _=>True) aI aB∧Below w.heap.size w w':=by
 replace al:=aM.mk al;replace X:=aj.mk X;replace am:=aM.mk am;replace Y:=aj.mk Y;replace ao:=aM.mk ao;replace Z:=aj.mk Z;unfold jd.f at h;have aN:=Tryz.underlying37
 all_goals go_enter Tryz.func48,Tryz.ntmps48
 all_goals go_wp2_with ((first
  |((with_reducible refine aJ (N:=2) rfl ?_);refine bV #[.slice F u.length O,.int .i64 I,.slice G z.length U,.int .i64 J,.int .i64 K,.slice H D.length V] 37 fun g w1 j1 j2 ap=> ?_)
  |((with_reducible refine aJ (N:=4) rfl ?_);refine bV #[.slice none 0 0,.int .i64 0,.slice none 0 0,.int .i64 0,.int .i64 0,.slice none 0 0] 37 fun g w1 j1 j2 ap=> ?_)
  |((with_reducible refine aJ (N:=6) rfl ?_);refine bV #[.slice none 0 0,.int .i64 0,.slice none 0 0,.int .i64 0,.int .i64 0,.slice none 0 0] 37 fun g w1 j1 j2 ap=> ?_)
  |(go_at_call 45;replace h:=bI h;obtain⟨⟨t1,t2,t3,t4,t5,t6⟩,A,h⟩:=h;(try dsimp only at h);refine(fz.c _ _ _ _ _ _ _ _ _ _ _ _ _ _ _ _ _ _ _ Rd.out aj.out Rd.out aj.out Rd.out aj.out A).mono ?_;rintro e w2 ⟨v0,v1,v2,rfl,ad,af,ak,hb⟩;obtain⟨aL,b0,rfl,j0,q0⟩:=aH ad;obtain⟨B1,b1,rfl,j1,q1⟩:=aH af;obtain⟨B2,b2,rfl,j2,q2⟩:=aH ak;have aK:=aw.mk hb;clear A ad af ak hb)
  |(go_at_call 37;replace h:=bI h;obtain⟨t,A,h⟩:=h;(try dsimp only at h);refine(a7.calls _ _ _ _ _ _ _ _ _ _ _ _ _ _ _ Rd.out aj.out Rd.out aj.out Rd.out aj.out A).mono ?_;rintro e w2 ⟨rfl,hb⟩;have aK:=aw.mk hb;clear A hb));(repeat' first|((with_reducible replace h:=bq h);rcases h with ⟨hc,h⟩|⟨hc,h⟩<;>first|exact(bh h).elim|exact absurd hc (by decide)|subst hc|(replace hc:=aD hc;subst hc)|(have hd:=aV hc;have he:=aW hc;clear hc)|(have hd:=bo hc;have he:=bp hc)|(have hd:=ay hc)|(have hd:=ag hc)|skip)))
 all_goals simp only[Option.some.injEq,Prod.mk.injEq]at h
 all_goals obtain⟨rfl,rfl,rfl,rfl,rfl,rfl,rfl⟩:=h
 all_goals refine bodyPost_ret (eu rfl _ _ _ _ _ (0,0) _ rfl aQ.out Tryz.underlying37 rfl (by kernel_rfl)) rfl ?_
 all_goals exact⟨_,_,_,rfl,(by first|exact bj|exact Kd.bl _ _ _ _ _),(by first|exact bj|exact Kd.bl _ _ _ _ _),(by first|exact bj|exact Kd.bl _ _ _ _ _),From.out⟩
def iZ.f (k:Nat) (I:List (ai)) (F:Int) (J:List Int) (G:Int) (z:Int) (D:List (ah)) (K:Int) (O:Int) (a2:Int):Option ((List (ai))×Int×List Int×Int×Int×(List (ah))×Bool):=(fz.f I F J G z D).bind fun u=>((fy.f k D K O a2 z).bind fun H=>((a7.f k I F J G z D).bind fun U=>(if U=true then(if H.2=true then(some (u.1,u.2.1,u.2.2.1,u.2.2.2.1,u.2.2.2.2.1,H.1,true))else(some (u.1,u.2.1,u.2.2.1,u.2.2.2.1,u.2.2.2.2.1,u.2.2.2.2.2,false)))else(some (u.1,u.2.1,u.2.2.1,u.2.2.2.1,u.2.2.2.2.1,u.2.2.2.2.2,false)))))
theorem iZ.c (k:Nat) (G:Option Addr) (X:Nat) (u:List (ai)) (J:Int) (H:Option Addr) (Y:Nat) (z:List Int) (K:Int) (O:Int) (I:Option Addr) (Z:Nat) (D:List (ah)) (U:Int) (V:Int) (a2:Int) (r1:List (ai)) (r2:Int) (r3:List Int) (aE:Int) (aF:Int) (aG:List (ah)) (aI:Bool) (w:World) (ap:Kd.C aU w G u.length u) (af:u.length≤X) (ar:Kd.C (Kd.int .i64) w H z.length z) (ak:z.length≤Y) (av:Kd.C aT w I D.length D) (al:D.length≤Z) (h:iZ.f k u J z K O D U V a2=some (r1,r2,r3,aE,aF,aG,aI)):
  Calls Tryz.prog 49 #[.agg #[.slice G u.length X,.int .i64 J,.slice H z.length Y,.int .i64 K,.int .i64 O,.slice I D.length Z],.agg #[.int .i64 U,.int .i64 V],.int .i64 a2] w fun e w'=>∃aK aL aN:Value,e= .returned (.tuple #[.agg #[aK,.int .i64 r2,aL,.int .i64 aE,.int .i64 aF,aN],.bool aI])∧Kd.R aU 112 w' w.heap.size (fun _=>True) aK r1∧Kd.R (Kd.int .i64) 3 w' w.heap.size (fun _=>True) aL r3∧Kd.R aT 104 w' w.heap.size (fun _=>True) aN aG∧Below w.heap.size w w':=by
 replace ap:=aM.mk ap;replace af:=aj.mk af;replace ar:=aM.mk ar;replace ak:=aj.mk ak;replace av:=aM.mk av;replace al:=aj.mk al;unfold iZ.f at h;have aP:=Tryz.underlying37;have aR:=Tryz.underlying74
 all_goals go_enter Tryz.func49,Tryz.ntmps49
 all_goals go_wp2_with ((first
  |((with_reducible refine aJ (N:=3) rfl ?_);refine bV #[.slice G u.length X,.int .i64 J,.slice H z.length Y,.int .i64 K,.int .i64 O,.slice I D.length Z] 37 fun g w1 j1 j2 ad=> ?_)
  |((with_reducible refine aJ (N:=4) rfl ?_);refine bV #[.int .i64 U,.int .i64 V] 74 fun g w1 j1 j2 ad=> ?_)
  |((with_reducible refine aJ (N:=6) rfl ?_);refine bV #[.slice none 0 0,.int .i64 0,.slice none 0 0,.int .i64 0,.int .i64 0,.slice none 0 0] 37 fun g w1 j1 j2 ad=> ?_)
  |((with_reducible refine aJ (N:=8) rfl ?_);refine bV #[.slice none 0 0,.int .i64 0,.slice none 0 0,.int .i64 0,.int .i64 0,.slice none 0 0] 37 fun g w1 j1 j2 ad=> ?_)
  |(go_at_call 45;replace h:=bI h;obtain⟨⟨t1,t2,t3,t4,t5,t6⟩,A,h⟩:=h;(try dsimp only at h);refine(fz.c _ _ _ _ _ _ _ _ _ _ _ _ _ _ _ _ _ _ _ Rd.out aj.out Rd.out aj.out Rd.out aj.out A).mono ?_;rintro e w2 ⟨v0,v1,v2,rfl,F,am,ao,hb⟩;obtain⟨aO,b0,rfl,j0,q0⟩:=aH F;obtain⟨B1,b1,rfl,j1,q1⟩:=aH am;obtain⟨B2,b2,rfl,j2,q2⟩:=aH ao;have aB:=aw.mk hb;clear A F am ao hb)
  |(go_at_call 99;replace h:=bI h;obtain⟨⟨t1,t2⟩,A,h⟩:=h;(try dsimp only at h);refine(fy.c _ _ _ _ _ _ _ _ _ _ _ Rd.out aj.out A).mono ?_;rintro e w2 ⟨v0,rfl,F,hb⟩;obtain⟨aO,b0,rfl,j0,q0⟩:=aH F;have aB:=aw.mk hb;clear A F hb)
  |(go_at_call 37;replace h:=bI h;obtain⟨t,A,h⟩:=h;(try dsimp only at h);refine(a7.calls _ _ _ _ _ _ _ _ _ _ _ _ _ _ _ Rd.out aj.out Rd.out aj.out Rd.out aj.out A).mono ?_;rintro e w2 ⟨rfl,hb⟩;have aB:=aw.mk hb;clear A hb));(repeat' first|((with_reducible replace h:=bq h);rcases h with ⟨hc,h⟩|⟨hc,h⟩<;>first|exact(bh h).elim|exact absurd hc (by decide)|subst hc|(replace hc:=aD hc;subst hc)|(have hd:=aV hc;have he:=aW hc;clear hc)|(have hd:=bo hc;have he:=bp hc)|(have hd:=ay hc)|(have hd:=ag hc)|skip)))
 all_goals simp only[Option.some.injEq,Prod.mk.injEq]at h
 all_goals obtain⟨rfl,rfl,rfl,rfl,rfl,rfl,rfl⟩:=h
 all_goals refine bodyPost_ret (eu rfl _ _ _ _ _ (0,0) _ rfl aQ.out Tryz.underlying37 rfl (by kernel_rfl)) rfl ?_
 all_goals exact⟨_,_,_,rfl,(by first|exact bj|exact Kd.bl _ _ _ _ _),(by first|exact bj|exact Kd.bl _ _ _ _ _),(by first|exact bj|exact Kd.bl _ _ _ _ _),From.out⟩
def ja.f (k:Nat) (F:List (ai)) (D:Int) (G:List Int) (H:Int) (I:Int) (J:List (ah)) (a1:Int) (a2:Int):Option ((List (ai))×Int×List Int×Int×Int×(List (ah))×Bool):=(fz.f F D G H I J).bind fun u=>((a7.f k F D G H I J).bind fun K=>(if K=true then((dS.f k F D G a1 a2).bind fun z=>(some (z.1,z.2.1,z.2.2.1,u.2.2.2.1,u.2.2.2.2.1,u.2.2.2.2.2,z.2.2.2)))else(some (u.1,u.2.1,u.2.2.1,u.2.2.2.1,u.2.2.2.2.1,u.2.2.2.2.2,false))))
theorem ja.c (k:Nat) (H:Option Addr) (V:Nat) (u:List (ai)) (K:Int) (I:Option Addr) (X:Nat) (z:List Int) (O:Int) (U:Int) (J:Option Addr) (Y:Nat) (D:List (ah)) (a1:Int) (a2:Int) (r1:List (ai)) (r2:Int) (r3:List Int) (av:Int) (aB:Int) (aE:List (ah)) (aF:Bool) (w:World) (am:Kd.C aU w H u.length u) (ad:u.length≤V) (ao:Kd.C (Kd.int .i64) w I z.length z) (af:z.length≤X) (ap:Kd.C aT w J D.length D) (ak:D.length≤Y) (h:ja.f k u K z O U D a1 a2=some (r1,r2,r3,av,aB,aE,aF)):
  Calls Tryz.prog 50 #[.agg #[.slice H u.length V,.int .i64 K,.slice I z.length X,.int .i64 O,.int .i64 U,.slice J D.length Y],.int .i64 a1,.int .i64 a2] w fun e w'=>∃aG aI aK:Value,e= .returned (.tuple #[.agg #[aG,.int .i64 r2,aI,.int .i64 av,.int .i64 aB,aK],.bool aF])∧Kd.R aU 112 w' w.heap.size (fun _=>True) aG r1∧Kd.R (Kd.int .i64) 3 w' w.heap.size (fun _=>True) aI r3∧Kd.R aT 104 w' w.heap.size (fun _=>True) aK aE∧Below w.heap.size w w':=by
 replace am:=aM.mk am;replace ad:=aj.mk ad;replace ao:=aM.mk ao;replace af:=aj.mk af;replace ap:=aM.mk ap;replace ak:=aj.mk ak;unfold ja.f at h;have aN:=Tryz.underlying34;have aO:=Tryz.underlying37
 all_goals go_enter Tryz.func50,Tryz.ntmps50
 all_goals go_wp2_with ((first
  |((with_reducible refine aJ (N:=3) rfl ?_);refine bV #[.slice H u.length V,.int .i64 K,.slice I z.length X,.int .i64 O,.int .i64 U,.slice J D.length Y] 37 fun g w1 j1 j2 Z=> ?_)
  |((with_reducible refine aJ (N:=6) rfl ?_);refine bV #[.slice none 0 0,.int .i64 0,.slice none 0 0,.int .i64 0,.int .i64 0,.slice none 0 0] 37 fun g w1 j1 j2 Z=> ?_)
  |((with_reducible refine aJ (N:=8) rfl ?_);refine bV #[.slice none 0 0,.int .i64 0,.slice none 0 0,.int .i64 0,.int .i64 0,.slice none 0 0] 37 fun g w1 j1 j2 Z=> ?_)
  |((with_reducible refine aJ (N:=9) rfl ?_);refine bV #[.slice none 0 0,.int .i64 0,.slice none 0 0] 34 fun g w1 j1 j2 Z=> ?_)
  |(go_at_call 45;replace h:=bI h;obtain⟨⟨t1,t2,t3,t4,t5,t6⟩,A,h⟩:=h;(try dsimp only at h);refine(fz.c _ _ _ _ _ _ _ _ _ _ _ _ _ _ _ _ _ _ _ Rd.out aj.out Rd.out aj.out Rd.out aj.out A).mono ?_;rintro e w2 ⟨v0,v1,v2,rfl,F,G,al,hb⟩;obtain⟨aL,b0,rfl,j0,q0⟩:=aH F;obtain⟨B1,b1,rfl,j1,q1⟩:=aH G;obtain⟨B2,b2,rfl,j2,q2⟩:=aH al;have ar:=aw.mk hb;clear A F G al hb)
  |(go_at_call 37;replace h:=bI h;obtain⟨t,A,h⟩:=h;(try dsimp only at h);refine(a7.calls _ _ _ _ _ _ _ _ _ _ _ _ _ _ _ Rd.out aj.out Rd.out aj.out Rd.out aj.out A).mono ?_;rintro e w2 ⟨rfl,hb⟩;have ar:=aw.mk hb;clear A hb)
  |(go_at_call 100;replace h:=bI h;obtain⟨⟨t1,t2,t3,t4⟩,A,h⟩:=h;(try dsimp only at h);refine(dS.c _ _ _ _ _ _ _ _ _ _ _ _ _ _ _ Rd.out aj.out Rd.out aj.out A).mono ?_;rintro e w2 ⟨v0,v1,rfl,F,G,hb⟩;obtain⟨aL,b0,rfl,j0,q0⟩:=aH F;obtain⟨B1,b1,rfl,j1,q1⟩:=aH G;have ar:=aw.mk hb;clear A F G hb));(repeat' first|((with_reducible replace h:=bq h);rcases h with ⟨hc,h⟩|⟨hc,h⟩<;>first|exact(bh h).elim|exact absurd hc (by decide)|subst hc|(replace hc:=aD hc;subst hc)|(have hd:=aV hc;have he:=aW hc;clear hc)|(have hd:=bo hc;have he:=bp hc)|(have hd:=ay hc)|(have hd:=ag hc)|skip)))
 all_goals simp only[Option.some.injEq,Prod.mk.injEq]at h
 all_goals obtain⟨rfl,rfl,rfl,rfl,rfl,rfl,rfl⟩:=h
 all_goals refine bodyPost_ret (eu rfl _ _ _ _ _ (0,0) _ rfl aQ.out Tryz.underlying37 rfl (by kernel_rfl)) rfl ?_
 all_goals exact⟨_,_,_,rfl,(by first|exact bj|exact Kd.bl _ _ _ _ _),(by first|exact bj|exact Kd.bl _ _ _ _ _),(by first|exact bj|exact Kd.bl _ _ _ _ _),From.out⟩
end P
namespace P
set_option maxHeartbeats 8000000
set_option maxRecDepth 100000
set_option synthInstance.maxHeartbeats 400000
set_option synthInstance.maxSize 100000
open Go.RowKit WW.bk WW.b_ WW.b6 V
attribute [local go_sem] dC dD gl iD iE iO iP
attribute [local go_sem] cR cV cU cY cT cX cS cW
def fS.f (k:Nat) (H:List (ai)) (F:Int) (u:List Int) (z:Int) (G:Int) (D:List (ah)) (a1:Int):Option (Int):=(a7.f k H F u z G D).bind fun I=>(if I=true then((cn.f a1 0 11).bind fun J=>(if J=true then((dE.f k D 0 a1).bind fun K=>(if K=1 then(some 0)else(if 0≤a1 then(if a1<(u.length:Int)then((mj.f (rd u a1) z).bind fun O=>(some O))else(none))else(none))))else(some 0)))else(some 0))
noncomputable def fS.T3:Bool×List (List Nat×List Nat):=a6 .any (opsOf Tryz.f52 3)
def fS.B3:List Nat:=[0,1,3,0,15,31,0,64,255,511]
theorem fS.lH:a6 .any (opsOf Tryz.f52 3)=fS.T3:=rfl
theorem fS.kQ:bT fS.T3.2 fS.B3=true:=by kernel_rfl
theorem fS.c (k:Nat) (H:Option Addr) (Y:Nat) (D:List (ai)) (U:Int) (I:Option Addr) (Z:Nat) (F:List Int) (V:Int) (X:Int) (J:Option Addr) (ad:Nat) (G:List (ah)) (a1:Int) (r:Int) (w:World) (am:Kd.C aU w H D.length D) (af:D.length≤Y) (ao:Kd.C (Kd.int .i64) w I F.length F) (ak:F.length≤Z) (ap:Kd.C aT w J G.length G) (al:G.length≤ad) (h:fS.f k D U F V X G a1=some r):
  Calls Tryz.prog 52 #[.agg #[.slice H D.length Y,.int .i64 U,.slice I F.length Z,.int .i64 V,.int .i64 X,.slice J G.length ad],.int .i64 a1] w fun e w'=>e= .returned (.int .i64 r)∧Below w.heap.size w w':=by
 replace am:=aM.mk am;replace af:=aj.mk af;replace ao:=aM.mk ao;replace ak:=aj.mk ak;replace ap:=aM.mk ap;replace al:=aj.mk al;unfold fS.f at h;have aF:=Tryz.underlying37;have aG:=Tryz.underlying74
 all_goals go_enter Tryz.func52,Tryz.ntmps52
 all_goals go_wp2_with ((first
  |((with_reducible refine aJ (N:=2) rfl ?_);refine bV #[.slice H D.length Y,.int .i64 U,.slice I F.length Z,.int .i64 V,.int .i64 X,.slice J G.length ad] 37 fun g w1 j1 j2 aI=> ?_)
  |(go_at_call 37;(try rw[z.out]);replace h:=bI h;obtain⟨t,A,h⟩:=h;(try dsimp only at h);refine(a7.calls _ _ _ _ _ _ _ _ _ _ _ _ _ _ _ Rd.out aj.out Rd.out aj.out Rd.out aj.out A).mono ?_;rintro e w2 ⟨rfl,hb⟩;have aE:=aw.mk hb;clear A hb)
  |(go_at_call 88;(try rw[z.out]);replace h:=bI h;obtain⟨t,A,h⟩:=h;(try dsimp only at h);refine(cn.c _ _ _ _ _ A).mono ?_;rintro e w2 ⟨rfl,n,rfl⟩;clear A)
  |(go_at_call 102;(try rw[z.out]);replace h:=bI h;obtain⟨t,A,h⟩:=h;(try dsimp only at h);refine(dE.c _ _ _ _ _ _ _ _ Rd.out aj.out A).mono ?_;rintro e w2 ⟨rfl,hb⟩;have aE:=aw.mk hb;clear A hb)
  |(refine qR (id:=3) (ds:=[]) (l:= #[false,false,false,false,false,false,false,false,false,false]) fS.lH fS.kQ ?_;intro u O w3 aK u0 aH hHeld;replace h:=bI h;obtain⟨aL,ar,h⟩:=h;(try dsimp only at h);refine qA 0 (some 21) u ?_;refine qA 1 (some 22) u ?_;refine qT 2 (some 23) u O hHeld ?_;refine qA 3 (some 24) u ?_;refine qA 4 (some 25) u ?_;refine qT 5 (some 26) u O hHeld ?_;refine qA 6 (some 27) u ?_;refine qT 7 (some 28) u O hHeld ?_;refine ie 8 (some 29) u fun K hK=> ?_;refine df Tryz.func103 (by kernel_rfl) rfl _ (by rfl) rfl rfl (by(try simp only[List.map_toArray,List.map_cons,List.map_nil]);rfl) ?_;refine(mj.c _ _ _ _ ar).mono ?_;rintro e u8 ⟨rfl,n,rfl⟩;refine⟨_,rfl,hK.out _ _ From.out fun hHeld=> ?_⟩;clear hK K;refine qN ?_;refine qA 9 (some 4) u ?_;refine qD u ?_;all_goals((try simp only[aA]at h);(repeat' first|((with_reducible replace h:=bq h);rcases h with ⟨hc,h⟩|⟨hc,h⟩<;>first|exact(bh h).elim|exact absurd hc (by decide)|subst hc|(replace hc:=aD hc;subst hc)|(replace hc:=bH hc;subst hc)|(replace hc:=bJ hc;subst hc)|(have hd:(_==_)=true:=hc)|(have hd:(_==_)=false:=aD hc)|(have hd:=aV hc;have he:=aW hc;clear hc)|(have hd:=bo hc;have he:=bp hc)|(have hd:=ay hc)|(have hd:=ag hc;(try(have hn:=Int.natCast_pos.mp hc;have hm:=ag hn;replace hn:=ax hn));first|(obtain⟨aB,e_,i_⟩:=cQ (by assumption) (by first|assumption|decide) hc;cases e_)|(obtain⟨av,e_,c_⟩:=bE (by assumption) (by first|assumption|decide) hc;cases e_))|(have hd:=ag hc)|skip)|((with_reducible replace h:=bF h);obtain⟨z,h⟩:=h;replace z:=A_ z;(try dsimp only at h))))));(repeat' first|((with_reducible replace h:=bq h);rcases h with ⟨hc,h⟩|⟨hc,h⟩<;>first|exact(bh h).elim|exact absurd hc (by decide)|subst hc|(replace hc:=aD hc;subst hc)|(replace hc:=bH hc;subst hc)|(replace hc:=bJ hc;subst hc)|(have hd:(_==_)=true:=hc)|(have hd:(_==_)=false:=aD hc)|(have hd:=aV hc;have he:=aW hc;clear hc)|(have hd:=bo hc;have he:=bp hc)|(have hd:=ay hc)|(have hd:=ag hc;(try(have hn:=Int.natCast_pos.mp hc;have hm:=ag hn;replace hn:=ax hn));first|(obtain⟨aB,e_,i_⟩:=cQ (by assumption) (by first|assumption|decide) hc;cases e_)|(obtain⟨av,e_,c_⟩:=bE (by assumption) (by first|assumption|decide) hc;cases e_))|(have hd:=ag hc)|skip)|((with_reducible replace h:=bF h);obtain⟨z,h⟩:=h;replace z:=A_ z;(try dsimp only at h))))
 all_goals obtain rfl:=aC h
 all_goals go_ret
 all_goals exact⟨(by first|rfl|(simp_all;done)),From.out⟩
def bQ.l0:Nat→Int→Int→List Int→Int→Int→List (ai)→Int→List Int→Int→Int→List (ah)→Option ((List (ai))×Int×List Int×Int×Int×(List (ah))×Int×Int)
 |0,_,_,_,_,_,_,_,_,_,_,_=>none
 |k+1,X,Y,z,al,am,I,J,K,O,U,V=>if Y<X then((cf.f z al am 8).bind fun u=>(if u.1=0 then((cf.f z u.2.1 u.2.2 30).bind fun ad=>((jd.f k I J K O U V ad.1).bind fun D=>(bQ.l0 k X (wrap64 (Y+1)) z ad.2.1 ad.2.2 D.1 D.2.1 D.2.2.1 D.2.2.2.1 D.2.2.2.2.1 D.2.2.2.2.2.1)))else(if u.1=1 then((kE.f z u.2.1 u.2.2).bind fun Z=>((cf.f z Z.2.2.1 Z.2.2.2 3).bind fun af=>((iZ.f k I J K O U V Z.1 Z.2.1 af.1).bind fun F=>(bQ.l0 k X (wrap64 (Y+1)) z af.2.1 af.2.2 F.1 F.2.1 F.2.2.1 F.2.2.2.1 F.2.2.2.2.1 F.2.2.2.2.2.1))))else(if u.1=2 then((cf.f z u.2.1 u.2.2 12).bind fun aj=>((cf.f z aj.2.1 aj.2.2 2001).bind fun ak=>((ja.f k I J K O U V aj.1 (wrap64 (ak.1-1000))).bind fun G=>(bQ.l0 k X (wrap64 (Y+1)) z ak.2.1 ak.2.2 G.1 G.2.1 G.2.2.1 G.2.2.2.1 G.2.2.2.2.1 G.2.2.2.2.2.1))))else((jc.f k I J K O U V).bind fun H=>(bQ.l0 k X (wrap64 (Y+1)) z u.2.1 u.2.2 H.1 H.2.1 H.2.2.1 H.2.2.2.1 H.2.2.2.2.1 H.2.2.2.2.2.1))))))else(some (I,J,K,O,U,V,al,am))
def bQ.f (k:Nat) (z:List Int) (H:Int) (I:Int):Option ((List (ai))×Int×List Int×Int×Int×(List (ah))×Int×Int):=(cf.f z H I 100000).bind fun D=>((ey.f k z D.2.1 D.2.2).bind fun F=>((iY.f k (wrap64 (200000+D.1)) F.1).bind fun u=>((cf.f z F.2.1 F.2.2 20).bind fun G=>(bQ.l0 k G.1 0 z G.2.1 G.2.2 u.1 u.2.1 u.2.2.1 u.2.2.2.1 u.2.2.2.2.1 u.2.2.2.2.2.1))))
def bQ.T9:Bool×List (List Nat×List Nat):=(true,[([],[]),([],[]),([1],[1]),([0,2,2],[0,2]),([3],[3]),([4],[4]),([4],[4]),([5,3,0,1,2,3,4,5],[5])])
def bQ.B9:List Nat:=[0,0,2,7,15,31,31,63]
theorem bQ.jQ:a6 .any (opsOf Tryz.f117 9)=bQ.T9:=by kernel_rfl
theorem bQ.jo:bT bQ.T9.2 bQ.B9=true:=by kernel_rfl
def bQ.mC:Bool×List (List Nat×List Nat):=(true,[([],[]),([],[]),([],[]),([2],[2]),([0,1,3,3],[0,1,3]),([4],[4]),([5],[5]),([5],[5]),([6,4,0,1,2,3,4,5,6],[6])])
def bQ.oT:List Nat:=[0,0,0,4,15,31,63,63,127]
theorem bQ.oH:a6 .any (opsOf Tryz.f117 12)=bQ.mC:=by kernel_rfl
theorem bQ.nS:bT bQ.mC.2 bQ.oT=true:=by kernel_rfl
def bQ.mD:Bool×List (List Nat×List Nat):=(true,[([],[]),([],[]),([],[]),([2],[2]),([3],[3]),([0,1,4,3],[0,1,4]),([5],[5]),([6],[6]),([6],[6]),([7,5,0,1,2,3,4,5,6,7],[7])])
def bQ.oU:List Nat:=[0,0,0,4,12,31,63,127,127,255]
theorem bQ.oI:a6 .any (opsOf Tryz.f117 15)=bQ.mD:=by kernel_rfl
theorem bQ.nT:bT bQ.mD.2 bQ.oU=true:=by kernel_rfl
theorem bQ.c (k:Nat) (g:Nat) (ad:List Int) (a3:Int) (a4:Int) (r1:List (ai)) (r2:Int) (r3:List Int) (al:Int) (am:Int) (ao:List (ah)) (ap:Int) (ar:Int) (w0 w:World) (hI:aZ w0 w g ad a3 a4) (hB:Below w0.heap.size w0 w) (h:bQ.f k ad a3 a4=some (r1,r2,r3,al,am,ao,ap,ar)):
  Calls Tryz.prog 117 #[.pointer (some ⟨g,0,none⟩)] w fun e w'=>∃a5 a6 a7:Value,e= .returned (.agg #[a5,.int .i64 r2,a6,.int .i64 al,.int .i64 am,a7])∧Kd.R aU 112 w' w.heap.size (fun _=>True) a5 r1∧Kd.R (Kd.int .i64) 3 w' w.heap.size (fun _=>True) a6 r3∧Kd.R aT 104 w' w.heap.size (fun _=>True) a7 ao∧aZ w0 w' g ad ap ar∧Below w0.heap.size w0 w'∧a8 w w' g none:=by
 replace hI:=St.mk hI;have iS:Sz w0 w:=⟨hB.size⟩;replace hB:=From.mk hB;have bz:=iC.mk (e:=37) (t:=132) (by decide);have bA:=iC.mk (e:=74) (t:=132) (by decide);have bP:=bS.mk (d:=(Kd.int .i64)) (e:=3) (t:=37) (by decide);have bR:=bS.mk (d:=(Kd.int .i64)) (e:=3) (t:=74) (by decide);have bN:=bS.mk (d:=(Kd.int .i64)) (e:=3) (t:=132) (by decide);have bC:=bS.mk (d:=aT) (e:=104) (t:=37) (by decide);have bD:=bS.mk (d:=aT) (e:=104) (t:=74) (by decide);have bB:=bS.mk (d:=aT) (e:=104) (t:=132) (by decide);have bK:=bS.mk (d:=aU) (e:=112) (t:=37) (by decide);have bL:=bS.mk (d:=aU) (e:=112) (t:=74) (by decide);have bG:=bS.mk (d:=aU) (e:=112) (t:=132) (by decide);unfold bQ.f at h
 (try simp only[aA]at h)
 have bt:=Tryz.underlying37;have bu:=Tryz.underlying74
 all_goals go_enter Tryz.func117,Tryz.ntmps117
 all_goals go_wp2_with ((first
  |((with_reducible refine aJ (N:=2) rfl ?_);refine bV #[.slice none 0 0,.int .i64 0,.slice none 0 0,.int .i64 0,.int .i64 0,.slice none 0 0] 37 fun g2 w1 j1 j2 Y=> ?_)
  |((with_reducible refine aJ (N:=3) rfl ?_);refine bV #[.slice none 0 0,.int .i64 0,.slice none 0 0,.int .i64 0,.int .i64 0,.slice none 0 0] 37 fun g3 w1 j1 j2 Y=> ?_)
  |((with_reducible refine aJ (N:=7) rfl ?_);refine bV #[.int .i64 0,.int .i64 0] 74 fun g7 w1 j1 j2 Y=> ?_)
  |(go_at_call 75;(try rw[G.out]);replace h:=bI h;obtain⟨⟨t1,t2,t3⟩,A,h⟩:=h;(try dsimp only at h);refine(cf.c _ _ _ _ _ _ _ _ _ _ St.out From.out A).mono ?_;rintro e w2 ⟨rfl,hs,hb0,hk⟩;have U:=St.mk hs;have J:=From.mk hb0;have O:=Kb.mk hk;clear A hs hb0 hk)
  |(go_at_call 137;(try rw[G.out]);replace h:=bI h;obtain⟨⟨t1,t2,t3⟩,A,h⟩:=h;(try dsimp only at h);refine(ey.c _ _ _ _ _ _ _ _ _ _ St.out From.out A).mono ?_;rintro e w2 ⟨v0,rfl,z,hs,hb0,hk⟩;obtain⟨I,b0,rfl,j0,q0⟩:=aH z;have U:=St.mk hs;have J:=From.mk hb0;have O:=Kb.mk hk;clear A z hs hb0 hk)
  |(go_at_call 135;(try rw[G.out]);replace h:=bI h;obtain⟨⟨t1,t2,t3,t4,t5,t6,t7⟩,A,h⟩:=h;(try dsimp only at h);refine(iY.c _ _ _ _ _ _ _ _ _ _ _ _ _ Rd.out aj.out A).mono ?_;rintro e w2 ⟨v0,v1,v2,rfl,z,D,F,hb⟩;obtain⟨I,b0,rfl,j0,q0⟩:=aH z;obtain⟨B1,b1,rfl,j1,q1⟩:=aH D;obtain⟨B2,b2,rfl,j2,q2⟩:=aH F;have V:=aw.mk hb;clear A z D F hb)
  |(go_at_call 138;(try rw[G.out]);replace h:=bI h;obtain⟨⟨t1,t2,t3,t4⟩,A,h⟩:=h;(try dsimp only at h);refine(kE.c _ _ _ _ _ _ _ _ _ _ St.out From.out A).mono ?_;rintro e w2 ⟨rfl,hs,hb0,hk⟩;have U:=St.mk hs;have J:=From.mk hb0;have O:=Kb.mk hk;clear A hs hb0 hk)
  |(go_at_call 47;(try rw[G.out]);replace h:=bI h;obtain⟨⟨t1,t2,t3,t4,t5,t6,t7⟩,A,h⟩:=h;(try dsimp only at h);refine(jc.c _ _ _ _ _ _ _ _ _ _ _ _ _ _ _ _ _ _ _ _ _ Rd.out aj.out Rd.out aj.out Rd.out aj.out A).mono ?_;rintro e w2 ⟨v0,v1,v2,rfl,z,D,F,hb⟩;obtain⟨I,b0,rfl,j0,q0⟩:=aH z;obtain⟨B1,b1,rfl,j1,q1⟩:=aH D;obtain⟨B2,b2,rfl,j2,q2⟩:=aH F;have V:=aw.mk hb;clear A z D F hb)
  |(refine kR (gC:=g) (id:=9) (ds:=[7]) (l:= #[false,false,false,false,false,false,false,false]) bQ.jQ bQ.jo ?_;intro u H w3 Z u0 X hHeld;refine kA 1 (some 36) u ?_;refine kT 0 (some 35) u H hHeld ?_;replace h:=bI h;obtain⟨⟨t1,t2,t3⟩,A,h⟩:=h;(try dsimp only at h);refine kC 2 37 Tryz.func75 u fun K hK=> ?_;refine(cf.c _ _ _ _ _ _ _ _ _ _ St.out From.out A).mono ?_;rintro e w2 ⟨rfl,hs,hb0,hk⟩;have U:=St.mk hs;have J:=From.mk hb0;have O:=Kb.mk hk;clear A hs hb0 hk;refine⟨_,rfl,hK _ _ cH.out fun hHeld=> ?_⟩;clear hK K;refine kN ?_;replace h:=bI h;obtain⟨⟨t1,t2,t3,t4,t5,t6,t7⟩,A,h⟩:=h;(try dsimp only at h);refine kC 3 38 Tryz.func48 u fun K hK=> ?_;refine(jd.c _ _ _ _ _ _ _ _ _ _ _ _ _ _ _ _ _ _ _ _ _ _ Rd.out aj.out Rd.out aj.out Rd.out aj.out A).mono ?_;rintro e w2 ⟨v0,v1,v2,rfl,z,D,F,hb⟩;obtain⟨I,b0,rfl,j0,q0⟩:=aH z;obtain⟨B1,b1,rfl,j1,q1⟩:=aH D;obtain⟨B2,b2,rfl,j2,q2⟩:=aH F;have V:=aw.mk hb;clear A z D F hb;refine⟨_,rfl,hK _ _ cH.out fun hHeld=> ?_⟩;clear hK K;refine kN ?_;refine kA 4 (some 34) u ?_;refine kA 5 (some 39) u ?_;refine kA 6 (some 40) u ?_;refine kL 7 u ?_;refine kD u ?_)
  |(refine kR (gC:=g) (id:=12) (ds:=[8]) (l:= #[false,false,false,false,false,false,false,false,false]) bQ.oH bQ.nS ?_;intro u H w3 Z u0 X hHeld;refine kA 2 (some 48) u ?_;refine kT 0 (some 46) u H hHeld ?_;refine kT 1 (some 47) u H hHeld ?_;replace h:=bI h;obtain⟨⟨t1,t2,t3⟩,A,h⟩:=h;(try dsimp only at h);refine kC 3 49 Tryz.func75 u fun K hK=> ?_;refine(cf.c _ _ _ _ _ _ _ _ _ _ St.out From.out A).mono ?_;rintro e w2 ⟨rfl,hs,hb0,hk⟩;have U:=St.mk hs;have J:=From.mk hb0;have O:=Kb.mk hk;clear A hs hb0 hk;refine⟨_,rfl,hK _ _ cH.out fun hHeld=> ?_⟩;clear hK K;refine kN ?_;replace h:=bI h;obtain⟨⟨t1,t2,t3,t4,t5,t6,t7⟩,A,h⟩:=h;(try dsimp only at h);refine kC 4 50 Tryz.func49 u fun K hK=> ?_;refine(iZ.c _ _ _ _ _ _ _ _ _ _ _ _ _ _ _ _ _ _ _ _ _ _ _ _ Rd.out aj.out Rd.out aj.out Rd.out aj.out A).mono ?_;rintro e w2 ⟨v0,v1,v2,rfl,z,D,F,hb⟩;obtain⟨I,b0,rfl,j0,q0⟩:=aH z;obtain⟨B1,b1,rfl,j1,q1⟩:=aH D;obtain⟨B2,b2,rfl,j2,q2⟩:=aH F;have V:=aw.mk hb;clear A z D F hb;refine⟨_,rfl,hK _ _ cH.out fun hHeld=> ?_⟩;clear hK K;refine kN ?_;refine kA 5 (some 45) u ?_;refine kA 6 (some 51) u ?_;refine kA 7 (some 52) u ?_;refine kL 8 u ?_;refine kD u ?_)
  |(refine kR (gC:=g) (id:=15) (ds:=[9]) (l:= #[false,false,false,false,false,false,false,false,false,false]) bQ.oI bQ.nT ?_;intro u H w3 Z u0 X hHeld;refine kA 1 (some 59) u ?_;refine kA 2 (some 60) u ?_;refine kT 0 (some 58) u H hHeld ?_;replace h:=bI h;obtain⟨⟨t1,t2,t3⟩,A,h⟩:=h;(try dsimp only at h);refine kC 3 61 Tryz.func75 u fun K hK=> ?_;refine(cf.c _ _ _ _ _ _ _ _ _ _ St.out From.out A).mono ?_;rintro e w2 ⟨rfl,hs,hb0,hk⟩;have U:=St.mk hs;have J:=From.mk hb0;have O:=Kb.mk hk;clear A hs hb0 hk;refine⟨_,rfl,hK _ _ cH.out fun hHeld=> ?_⟩;clear hK K;refine kN ?_;refine kA 4 (some 62) u ?_;replace h:=bI h;obtain⟨⟨t1,t2,t3,t4,t5,t6,t7⟩,A,h⟩:=h;(try dsimp only at h);refine kC 5 63 Tryz.func50 u fun K hK=> ?_;refine(ja.c _ _ _ _ _ _ _ _ _ _ _ _ _ _ _ _ _ _ _ _ _ _ _ Rd.out aj.out Rd.out aj.out Rd.out aj.out A).mono ?_;rintro e w2 ⟨v0,v1,v2,rfl,z,D,F,hb⟩;obtain⟨I,b0,rfl,j0,q0⟩:=aH z;obtain⟨B1,b1,rfl,j1,q1⟩:=aH D;obtain⟨B2,b2,rfl,j2,q2⟩:=aH F;have V:=aw.mk hb;clear A z D F hb;refine⟨_,rfl,hK _ _ cH.out fun hHeld=> ?_⟩;clear hK K;refine kN ?_;refine kA 6 (some 57) u ?_;refine kA 7 (some 64) u ?_;refine kA 8 (some 65) u ?_;refine kL 9 u ?_;refine kD u ?_));(repeat' first|((with_reducible replace h:=bq h);rcases h with ⟨hc,h⟩|⟨hc,h⟩<;>first|exact(bh h).elim|exact absurd hc (by decide)|subst hc|(replace hc:=aD hc;subst hc)|(replace hc:=bH hc;subst hc)|(replace hc:=bJ hc;subst hc)|(have hd:(_==_)=true:=hc)|(have hd:(_==_)=false:=aD hc)|(have hd:=aV hc;have he:=aW hc;clear hc)|(have hd:=bo hc;have he:=bp hc)|(have hd:=ay hc)|(have hd:=ag hc;(try(have hn:=Int.natCast_pos.mp hc;have hm:=ag hn;replace hn:=ax hn));first|(obtain⟨a1,e_,i_⟩:=cQ (by assumption) (by first|assumption|decide) hc;cases e_)|(obtain⟨a0,e_,c_⟩:=bE (by assumption) (by first|assumption|decide) hc;cases e_))|(have hd:=ag hc)|skip)|((with_reducible replace h:=bF h);obtain⟨G,h⟩:=h;replace G:=A_ G;(try dsimp only at h))))
 all_goals first
  |((try simp only[Option.some.injEq,Prod.mk.injEq]at h);(try obtain⟨rfl,rfl,rfl,rfl,rfl,rfl,rfl,rfl⟩:=h);refine bodyPost_ret (results_cell_row rfl _ _ _ _ _ (0,0) _ rfl aQ.out Tryz.underlying37 rfl (by kernel_rfl)) rfl ?_;exact⟨_,_,_,rfl,(by first|exact bM|exact di|exact di (by simp)|exact Kd.bl _ _ _ _ _),(by first|exact bM|exact di|exact di (by simp)|exact Kd.bl _ _ _ _ _),(by first|exact bM|exact di|exact di (by simp)|exact Kd.bl _ _ _ _ _),St.out,From.out,cH.out⟩)
  |skip
 go_loopg [6] k (fun a2 v6 w'=>∃(aM:Int) (av:Int) (aB:Int) (aE:List (ai)) (aF:Int) (aG:List Int) (aI:Int) (aK:Int) (aL:List (ah)) (u1679000:Value) (u1679002:Value) (u1679005:Value),v6= .int .i64 aM∧ae (bQ.l0 a2 t1 aM ad av aB aE aF aG aI aK aL=some (r1,r2,r3,al,am,ao,ap,ar))∧ae (a2≤k)∧ae (Kd.R aU 112 w' w.heap.size (fun _=>True) u1679000 aE)∧ae (Kd.R (Kd.int .i64) 3 w' w.heap.size (fun _=>True) u1679002 aG)∧ae (Kd.R aT 104 w' w.heap.size (fun _=>True) u1679005 aL)∧ae (w'.heap[g2]? =some (.cells #[(.slice none 0 0),.int .i64 0,(.slice none 0 0),.int .i64 0,.int .i64 0,(.slice none 0 0)] 37 (0,0)))∧ae (w'.heap[g3]? =some (.cells #[u1679000,.int .i64 aF,u1679002,.int .i64 aI,.int .i64 aK,u1679005] 37 (0,0)))∧ae (aZ w0 w' g ad av aB)∧ae (a8 w w' g none)∧ae (Below w0.heap.size w0 w'))
 case atStart=>exact⟨_,_,_,_,_,_,_,_,_,_,_,_,(by first|rfl|(simp;done)),⟨h⟩,⟨Nat.le_refl _⟩,⟨by first|exact di|exact bM|exact di (by simp)|exact Kd.bl _ _ _ _ _⟩,⟨by first|exact di|exact bM|exact di (by simp)|exact Kd.bl _ _ _ _ _⟩,⟨by first|exact di|exact bM|exact di (by simp)|exact Kd.bl _ _ _ _ _⟩,⟨aQ.out⟩,⟨aQ.out⟩,⟨St.out⟩,⟨cH.out⟩,⟨From.out⟩⟩
 case round=>
  clear h;obtain⟨aM,av,aB,aE,aF,aG,aI,aK,aL,u1679000,u1679002,u1679005,rfl,af,aR,aS,aX,aY,aN,aO,aP,HK,ak⟩:=hrel;rcases gk with _|k1
  ·exact absurd af.out (by simp[bQ.l0])
  have h:=af.out;clear af;simp only[bQ.l0]at h;obtain⟨a9,bn,rfl,bv,bX,bT⟩:=fP aS.out;clear aS;obtain⟨a_,br,rfl,bw,bY,bU⟩:=fP aX.out;clear aX;obtain⟨bb,bs,rfl,bx,bZ,bW⟩:=fP aY.out;clear aY;have bc:=aQ.mk aN.out;clear aN;have bd:=aQ.mk aO.out;clear aO;have bf:=St.mk aP.out;clear aP;have bg:=cH.mk HK.out;have bm:Sz w wr:=⟨HK.out.1⟩;clear HK;have be:=From.mk ak.out;have bk:Sz w0 wr:=⟨ak.out.size⟩;clear ak
  (repeat' first|((with_reducible replace h:=bq h);rcases h with ⟨hc,h⟩|⟨hc,h⟩<;>first|exact(bh h).elim|exact absurd hc (by decide)|subst hc|(replace hc:=aD hc;subst hc)|(replace hc:=bH hc;subst hc)|(replace hc:=bJ hc;subst hc)|(have hd:(_==_)=true:=hc)|(have hd:(_==_)=false:=aD hc)|(have hd:=aV hc;have he:=aW hc;clear hc)|(have hd:=bo hc;have he:=bp hc)|(have hd:=ay hc)|(have hd:=ag hc;(try(have hn:=Int.natCast_pos.mp hc;have hm:=ag hn;replace hn:=ax hn));first|(obtain⟨a1,e_,i_⟩:=cQ (by assumption) (by first|assumption|decide) hc;cases e_)|(obtain⟨a0,e_,c_⟩:=bE (by assumption) (by first|assumption|decide) hc;cases e_))|(have hd:=ag hc)|skip)|((with_reducible replace h:=bF h);obtain⟨G,h⟩:=h;replace G:=A_ G;(try dsimp only at h)))
  all_goals go_wp2_with ((first
   |((with_reducible refine aJ (N:=2) rfl ?_);refine bV #[.slice none 0 0,.int .i64 0,.slice none 0 0,.int .i64 0,.int .i64 0,.slice none 0 0] 37 fun g2 w1 j1 j2 Y=> ?_)
   |((with_reducible refine aJ (N:=3) rfl ?_);refine bV #[.slice none 0 0,.int .i64 0,.slice none 0 0,.int .i64 0,.int .i64 0,.slice none 0 0] 37 fun g3 w1 j1 j2 Y=> ?_)
   |((with_reducible refine aJ (N:=7) rfl ?_);refine bV #[.int .i64 0,.int .i64 0] 74 fun g7 w1 j1 j2 Y=> ?_)
   |(go_at_call 75;(try rw[G.out]);replace h:=bI h;obtain⟨⟨t1,t2,t3⟩,A,h⟩:=h;(try dsimp only at h);refine(cf.c _ _ _ _ _ _ _ _ _ _ St.out From.out A).mono ?_;rintro e w2 ⟨rfl,hs,hb0,hk⟩;have U:=St.mk hs;have J:=From.mk hb0;have O:=Kb.mk hk;clear A hs hb0 hk)
   |(go_at_call 137;(try rw[G.out]);replace h:=bI h;obtain⟨⟨t1,t2,t3⟩,A,h⟩:=h;(try dsimp only at h);refine(ey.c _ _ _ _ _ _ _ _ _ _ St.out From.out A).mono ?_;rintro e w2 ⟨v0,rfl,z,hs,hb0,hk⟩;obtain⟨I,b0,rfl,j0,q0⟩:=aH z;have U:=St.mk hs;have J:=From.mk hb0;have O:=Kb.mk hk;clear A z hs hb0 hk)
   |(go_at_call 135;(try rw[G.out]);replace h:=bI h;obtain⟨⟨t1,t2,t3,t4,t5,t6,t7⟩,A,h⟩:=h;(try dsimp only at h);refine(iY.c _ _ _ _ _ _ _ _ _ _ _ _ _ Rd.out aj.out A).mono ?_;rintro e w2 ⟨v0,v1,v2,rfl,z,D,F,hb⟩;obtain⟨I,b0,rfl,j0,q0⟩:=aH z;obtain⟨B1,b1,rfl,j1,q1⟩:=aH D;obtain⟨B2,b2,rfl,j2,q2⟩:=aH F;have V:=aw.mk hb;clear A z D F hb)
   |(go_at_call 138;(try rw[G.out]);replace h:=bI h;obtain⟨⟨t1,t2,t3,t4⟩,A,h⟩:=h;(try dsimp only at h);refine(kE.c _ _ _ _ _ _ _ _ _ _ St.out From.out A).mono ?_;rintro e w2 ⟨rfl,hs,hb0,hk⟩;have U:=St.mk hs;have J:=From.mk hb0;have O:=Kb.mk hk;clear A hs hb0 hk)
   |(go_at_call 47;(try rw[G.out]);replace h:=bI h;obtain⟨⟨t1,t2,t3,t4,t5,t6,t7⟩,A,h⟩:=h;(try dsimp only at h);refine(jc.c _ _ _ _ _ _ _ _ _ _ _ _ _ _ _ _ _ _ _ _ _ Rd.out aj.out Rd.out aj.out Rd.out aj.out A).mono ?_;rintro e w2 ⟨v0,v1,v2,rfl,z,D,F,hb⟩;obtain⟨I,b0,rfl,j0,q0⟩:=aH z;obtain⟨B1,b1,rfl,j1,q1⟩:=aH D;obtain⟨B2,b2,rfl,j2,q2⟩:=aH F;have V:=aw.mk hb;clear A z D F hb)
   |(refine kR (gC:=g) (id:=9) (ds:=[7]) (l:= #[false,false,false,false,false,false,false,false]) bQ.jQ bQ.jo ?_;intro u H w3 Z u0 X hHeld;refine kA 1 (some 36) u ?_;refine kT 0 (some 35) u H hHeld ?_;replace h:=bI h;obtain⟨⟨t1,t2,t3⟩,A,h⟩:=h;(try dsimp only at h);refine kC 2 37 Tryz.func75 u fun K hK=> ?_;refine(cf.c _ _ _ _ _ _ _ _ _ _ St.out From.out A).mono ?_;rintro e w2 ⟨rfl,hs,hb0,hk⟩;have U:=St.mk hs;have J:=From.mk hb0;have O:=Kb.mk hk;clear A hs hb0 hk;refine⟨_,rfl,hK _ _ cH.out fun hHeld=> ?_⟩;clear hK K;refine kN ?_;replace h:=bI h;obtain⟨⟨t1,t2,t3,t4,t5,t6,t7⟩,A,h⟩:=h;(try dsimp only at h);refine kC 3 38 Tryz.func48 u fun K hK=> ?_;refine(jd.c _ _ _ _ _ _ _ _ _ _ _ _ _ _ _ _ _ _ _ _ _ _ Rd.out aj.out Rd.out aj.out Rd.out aj.out A).mono ?_;rintro e w2 ⟨v0,v1,v2,rfl,z,D,F,hb⟩;obtain⟨I,b0,rfl,j0,q0⟩:=aH z;obtain⟨B1,b1,rfl,j1,q1⟩:=aH D;obtain⟨B2,b2,rfl,j2,q2⟩:=aH F;have V:=aw.mk hb;clear A z D F hb;refine⟨_,rfl,hK _ _ cH.out fun hHeld=> ?_⟩;clear hK K;refine kN ?_;refine kA 4 (some 34) u ?_;refine kA 5 (some 39) u ?_;refine kA 6 (some 40) u ?_;refine kL 7 u ?_;refine kD u ?_)
   |(refine kR (gC:=g) (id:=12) (ds:=[8]) (l:= #[false,false,false,false,false,false,false,false,false]) bQ.oH bQ.nS ?_;intro u H w3 Z u0 X hHeld;refine kA 2 (some 48) u ?_;refine kT 0 (some 46) u H hHeld ?_;refine kT 1 (some 47) u H hHeld ?_;replace h:=bI h;obtain⟨⟨t1,t2,t3⟩,A,h⟩:=h;(try dsimp only at h);refine kC 3 49 Tryz.func75 u fun K hK=> ?_;refine(cf.c _ _ _ _ _ _ _ _ _ _ St.out From.out A).mono ?_;rintro e w2 ⟨rfl,hs,hb0,hk⟩;have U:=St.mk hs;have J:=From.mk hb0;have O:=Kb.mk hk;clear A hs hb0 hk;refine⟨_,rfl,hK _ _ cH.out fun hHeld=> ?_⟩;clear hK K;refine kN ?_;replace h:=bI h;obtain⟨⟨t1,t2,t3,t4,t5,t6,t7⟩,A,h⟩:=h;(try dsimp only at h);refine kC 4 50 Tryz.func49 u fun K hK=> ?_;refine(iZ.c _ _ _ _ _ _ _ _ _ _ _ _ _ _ _ _ _ _ _ _ _ _ _ _ Rd.out aj.out Rd.out aj.out Rd.out aj.out A).mono ?_;rintro e w2 ⟨v0,v1,v2,rfl,z,D,F,hb⟩;obtain⟨I,b0,rfl,j0,q0⟩:=aH z;obtain⟨B1,b1,rfl,j1,q1⟩:=aH D;obtain⟨B2,b2,rfl,j2,q2⟩:=aH F;have V:=aw.mk hb;clear A z D F hb;refine⟨_,rfl,hK _ _ cH.out fun hHeld=> ?_⟩;clear hK K;refine kN ?_;refine kA 5 (some 45) u ?_;refine kA 6 (some 51) u ?_;refine kA 7 (some 52) u ?_;refine kL 8 u ?_;refine kD u ?_)
   |(refine kR (gC:=g) (id:=15) (ds:=[9]) (l:= #[false,false,false,false,false,false,false,false,false,false]) bQ.oI bQ.nT ?_;intro u H w3 Z u0 X hHeld;refine kA 1 (some 59) u ?_;refine kA 2 (some 60) u ?_;refine kT 0 (some 58) u H hHeld ?_;replace h:=bI h;obtain⟨⟨t1,t2,t3⟩,A,h⟩:=h;(try dsimp only at h);refine kC 3 61 Tryz.func75 u fun K hK=> ?_;refine(cf.c _ _ _ _ _ _ _ _ _ _ St.out From.out A).mono ?_;rintro e w2 ⟨rfl,hs,hb0,hk⟩;have U:=St.mk hs;have J:=From.mk hb0;have O:=Kb.mk hk;clear A hs hb0 hk;refine⟨_,rfl,hK _ _ cH.out fun hHeld=> ?_⟩;clear hK K;refine kN ?_;refine kA 4 (some 62) u ?_;replace h:=bI h;obtain⟨⟨t1,t2,t3,t4,t5,t6,t7⟩,A,h⟩:=h;(try dsimp only at h);refine kC 5 63 Tryz.func50 u fun K hK=> ?_;refine(ja.c _ _ _ _ _ _ _ _ _ _ _ _ _ _ _ _ _ _ _ _ _ _ _ Rd.out aj.out Rd.out aj.out Rd.out aj.out A).mono ?_;rintro e w2 ⟨v0,v1,v2,rfl,z,D,F,hb⟩;obtain⟨I,b0,rfl,j0,q0⟩:=aH z;obtain⟨B1,b1,rfl,j1,q1⟩:=aH D;obtain⟨B2,b2,rfl,j2,q2⟩:=aH F;have V:=aw.mk hb;clear A z D F hb;refine⟨_,rfl,hK _ _ cH.out fun hHeld=> ?_⟩;clear hK K;refine kN ?_;refine kA 6 (some 57) u ?_;refine kA 7 (some 64) u ?_;refine kA 8 (some 65) u ?_;refine kL 9 u ?_;refine kD u ?_));(repeat' first|((with_reducible replace h:=bq h);rcases h with ⟨hc,h⟩|⟨hc,h⟩<;>first|exact(bh h).elim|exact absurd hc (by decide)|subst hc|(replace hc:=aD hc;subst hc)|(replace hc:=bH hc;subst hc)|(replace hc:=bJ hc;subst hc)|(have hd:(_==_)=true:=hc)|(have hd:(_==_)=false:=aD hc)|(have hd:=aV hc;have he:=aW hc;clear hc)|(have hd:=bo hc;have he:=bp hc)|(have hd:=ay hc)|(have hd:=ag hc;(try(have hn:=Int.natCast_pos.mp hc;have hm:=ag hn;replace hn:=ax hn));first|(obtain⟨a1,e_,i_⟩:=cQ (by assumption) (by first|assumption|decide) hc;cases e_)|(obtain⟨a0,e_,c_⟩:=bE (by assumption) (by first|assumption|decide) hc;cases e_))|(have hd:=ag hc)|skip)|((with_reducible replace h:=bF h);obtain⟨G,h⟩:=h;replace G:=A_ G;(try dsimp only at h))))
  all_goals first
   |(go_roundg k1;(case measure=>have:=aR.out;omega);(case rel=>exact⟨_,_,_,_,_,_,_,_,_,_,_,_,(by first|rfl|(simp;done)),⟨h⟩,⟨by have:=aR.out;omega⟩,⟨by first|exact di|exact bM|exact di (by simp)|exact Kd.bl _ _ _ _ _⟩,⟨by first|exact di|exact bM|exact di (by simp)|exact Kd.bl _ _ _ _ _⟩,⟨by first|exact di|exact bM|exact di (by simp)|exact Kd.bl _ _ _ _ _⟩,⟨aQ.out⟩,⟨aQ.out⟩,⟨St.out⟩,⟨cH.out⟩,⟨From.out⟩⟩))
   |((try simp only[Option.some.injEq,Prod.mk.injEq]at h);(try obtain⟨rfl,rfl,rfl,rfl,rfl,rfl,rfl,rfl⟩:=h);refine bodyPost_ret (results_cell_row rfl _ _ _ _ _ (0,0) _ rfl aQ.out Tryz.underlying37 rfl (by kernel_rfl)) rfl ?_;exact⟨_,_,_,rfl,(by first|exact bM|exact di|exact di (by simp)|exact Kd.bl _ _ _ _ _),(by first|exact bM|exact di|exact di (by simp)|exact Kd.bl _ _ _ _ _),(by first|exact bM|exact di|exact di (by simp)|exact Kd.bl _ _ _ _ _),St.out,From.out,cH.out⟩)
def lG.f (k:Nat) (F:List Int) (G:Int) (H:Int):Option ((List (ai))×Int×List Int×Int×Int×(List (ah))×Int×Int):=(je.f F G H 2).bind fun D=>(if D.1=true then((lD.f k).bind fun z=>(some (z.1,z.2.1,z.2.2.1,z.2.2.2.1,z.2.2.2.2.1,z.2.2.2.2.2,D.2.1,D.2.2)))else((bQ.f k F D.2.1 D.2.2).bind fun u=>(some (u.1,u.2.1,u.2.2.1,u.2.2.2.1,u.2.2.2.2.1,u.2.2.2.2.2.1,u.2.2.2.2.2.2.1,u.2.2.2.2.2.2.2))))
theorem lG.c (k:Nat) (g:Nat) (G:List Int) (U:Int) (V:Int) (r1:List (ai)) (r2:Int) (r3:List Int) (H:Int) (I:Int) (J:List (ah)) (K:Int) (O:Int) (w0 w:World) (hI:aZ w0 w g G U V) (hB:Below w0.heap.size w0 w) (h:lG.f k G U V=some (r1,r2,r3,H,I,J,K,O)):
  Calls Tryz.prog 73 #[.pointer (some ⟨g,0,none⟩)] w fun e w'=>∃X Y Z:Value,e= .returned (.agg #[X,.int .i64 r2,Y,.int .i64 H,.int .i64 I,Z])∧Kd.R aU 112 w' w.heap.size (fun _=>True) X r1∧Kd.R (Kd.int .i64) 3 w' w.heap.size (fun _=>True) Y r3∧Kd.R aT 104 w' w.heap.size (fun _=>True) Z J∧aZ w0 w' g G K O∧Below w0.heap.size w0 w'∧a8 w w' g none:=by
 replace hI:=St.mk hI;have iS:Sz w0 w:=⟨hB.size⟩;replace hB:=From.mk hB;have aG:=bS.mk (d:=aU) (e:=112) (t:=3) (by decide);have aI:=bS.mk (d:=aU) (e:=112) (t:=37) (by decide);have aE:=bS.mk (d:=aT) (e:=104) (t:=3) (by decide);have aF:=bS.mk (d:=aT) (e:=104) (t:=37) (by decide);have aB:=iC.mk (e:=37) (t:=132) (by decide);unfold lG.f at h;have ap:=Tryz.underlying37
 all_goals go_enter Tryz.func73,Tryz.ntmps73
 all_goals go_wp2_with ((first
  |((with_reducible refine aJ (N:=2) rfl ?_);refine kS rfl (N:=2) rfl (cs:= #[.slice none 0 0,.int .i64 0,.slice none 0 0,.int .i64 0,.int .i64 0,.slice none 0 0]) (t:=37) (by first|(go_simp;done)|(go_simp;rfl)) ?_;intro ao hg w1 hk hb;have j1:=fC.mk hg;have j2:=aw.mk hb;have ar:=aQ.mk hk;clear hg hb hk)
  |(go_at_call 115;(try rw[u.out]);replace h:=bI h;obtain⟨⟨t1,t2,t3⟩,A,h⟩:=h;(try dsimp only at h);refine(je.c _ _ _ _ _ _ _ _ _ _ St.out From.out A).mono ?_;rintro e w2 ⟨rfl,hs,hb0,hk⟩;have ak:=St.mk hs;have af:=From.mk hb0;have aj:=Kb.mk hk;clear A hs hb0 hk)
  |(go_at_call 116;(try rw[u.out]);replace h:=bI h;obtain⟨⟨t1,t2,t3,t4,t5,t6⟩,A,h⟩:=h;(try dsimp only at h);refine(lD.c _ _ _ _ _ _ _ _ A).mono ?_;rintro e w2 ⟨v0,v1,v2,rfl,z,D,F,hb⟩;obtain⟨ad,b0,rfl,j0,q0⟩:=aH z;obtain⟨B1,b1,rfl,j1,q1⟩:=aH D;obtain⟨B2,b2,rfl,j2,q2⟩:=aH F;have av:=aw.mk hb;clear A z D F hb)
  |(go_at_call 117;(try rw[u.out]);replace h:=bI h;obtain⟨⟨t1,t2,t3,t4,t5,t6,t7,t8⟩,A,h⟩:=h;(try dsimp only at h);refine(bQ.c _ _ _ _ _ _ _ _ _ _ _ _ _ _ _ St.out From.out A).mono ?_;rintro e w2 ⟨v0,v1,v2,rfl,z,D,F,hs,hb0,hk⟩;obtain⟨ad,b0,rfl,j0,q0⟩:=aH z;obtain⟨B1,b1,rfl,j1,q1⟩:=aH D;obtain⟨B2,b2,rfl,j2,q2⟩:=aH F;have ak:=St.mk hs;have af:=From.mk hb0;have aj:=Kb.mk hk;clear A z D F hs hb0 hk));(repeat' first|((with_reducible replace h:=bq h);rcases h with ⟨hc,h⟩|⟨hc,h⟩<;>first|exact(bh h).elim|exact absurd hc (by decide)|subst hc|(replace hc:=aD hc;subst hc)|(replace hc:=bH hc;subst hc)|(replace hc:=bJ hc;subst hc)|(have hd:(_==_)=true:=hc)|(have hd:(_==_)=false:=aD hc)|(have hd:=aV hc;have he:=aW hc;clear hc)|(have hd:=bo hc;have he:=bp hc)|(have hd:=ay hc)|(have hd:=ag hc;(try(have hn:=Int.natCast_pos.mp hc;have hm:=ag hn;replace hn:=ax hn));first|(obtain⟨am,e_,i_⟩:=cQ (by assumption) (by first|assumption|decide) hc;cases e_)|(obtain⟨al,e_,c_⟩:=bE (by assumption) (by first|assumption|decide) hc;cases e_))|(have hd:=ag hc)|skip)|((with_reducible replace h:=bF h);obtain⟨u,h⟩:=h;replace u:=A_ u;(try dsimp only at h))))
 all_goals simp only[Option.some.injEq,Prod.mk.injEq]at h
 all_goals obtain⟨rfl,rfl,rfl,rfl,rfl,rfl,rfl,rfl⟩:=h
 all_goals refine bodyPost_ret (results_cell_row rfl _ _ _ _ _ (0,0) _ rfl aQ.out Tryz.underlying37 rfl (by kernel_rfl)) rfl ?_
 all_goals exact⟨_,_,_,(by first|rfl|(simp_all;done)),(by first|exact di|exact Kd.bl _ _ _ _ _),(by first|exact di|exact Kd.bl _ _ _ _ _),(by first|exact di|exact Kd.bl _ _ _ _ _),St.out,From.out,cH.out⟩
def lB.f (k:Nat) (l0:List Int):Option ((List (ai))×Int×List Int×Int×Int×(List (ah))×(List (dh))):=(fL.f k l0).bind fun z=>((lG.f k z.1 z.2.1 z.2.2).bind fun u=>((fA.f k z.1 u.2.2.2.2.2.2.1 u.2.2.2.2.2.2.2).bind fun D=>(some (u.1,u.2.1,u.2.2.1,u.2.2.2.1,u.2.2.2.2.1,u.2.2.2.2.2.1,D.1))))
theorem lB.c (k:Nat) (D:Option Addr) (c0:Nat) (l0:List Int) (r1:List (ai)) (r2:Int) (r3:List Int) (K:Int) (O:Int) (U:List (ah)) (V:List (dh)) (w:World) (H:Kd.C (Kd.int .u8) w D l0.length l0) (hc0:l0.length≤c0) (h:lB.f k l0=some (r1,r2,r3,K,O,U,V)):
  Calls Tryz.prog 30 #[.slice D l0.length c0] w fun e w'=>∃X Y Z ad:Value,e= .returned (.tuple #[.agg #[X,.int .i64 r2,Y,.int .i64 K,.int .i64 O,Z],ad])∧Kd.R aU 112 w' w.heap.size (fun _=>True) X r1∧Kd.R (Kd.int .i64) 3 w' w.heap.size (fun _=>True) Y r3∧Kd.R aT 104 w' w.heap.size (fun _=>True) Z U∧Kd.R gR 41 w' w.heap.size (fun _=>True) ad V∧Below w.heap.size w w':=by
 replace H:=aM.mk H;replace hc0:=aj.mk hc0;have aG:=bS.mk (d:=aU) (e:=112) (t:=3) (by decide);have aI:=bS.mk (d:=aU) (e:=112) (t:=37) (by decide);have aE:=bS.mk (d:=aT) (e:=104) (t:=3) (by decide);have aF:=bS.mk (d:=aT) (e:=104) (t:=37) (by decide);have aK:=bS.mk (d:=gR) (e:=41) (t:=3) (by decide);have aL:=bS.mk (d:=gR) (e:=41) (t:=37) (by decide);have aB:=iC.mk (e:=37) (t:=132) (by decide);unfold lB.f at h;have ap:=Tryz.underlying37
 all_goals go_enter Tryz.func30,Tryz.ntmps30
 all_goals go_wp2_with ((first
  |((with_reducible refine aJ (N:=2) rfl ?_);refine kS rfl (N:=2) rfl (cs:= #[.slice none 0 0,.int .i64 0,.slice none 0 0,.int .i64 0,.int .i64 0,.slice none 0 0]) (t:=37) (by first|(go_simp;done)|(go_simp;rfl)) ?_;intro ao hg w1 hk hb;have j1:=fC.mk hg;have j2:=aw.mk hb;have ar:=aQ.mk hk;clear hg hb hk)
  |(go_at_call 72;(try rw[u.out]);replace h:=bI h;obtain⟨⟨t1,t2,t3⟩,A,h⟩:=h;(try dsimp only at h);refine(fL.c _ _ _ _ _ _ _ w _ From.out Rd.out aj.out A).mono ?_;rintro e w2 ⟨gC,rfl,hs,hb0,hb⟩;have J:=St.mk hs;have I:=From.mk hb0;have av:=aw.mk hb;clear A hs hb0 hb)
  |(go_at_call 73;(try rw[u.out]);replace h:=bI h;obtain⟨⟨t1,t2,t3,t4,t5,t6,t7,t8⟩,A,h⟩:=h;(try dsimp only at h);refine(lG.c _ _ _ _ _ _ _ _ _ _ _ _ _ _ _ St.out From.out A).mono ?_;rintro e w2 ⟨v0,v1,v2,rfl,z,F,G,hs,hb0,hk⟩;obtain⟨af,b0,rfl,j0,q0⟩:=aH z;obtain⟨B1,b1,rfl,j1,q1⟩:=aH F;obtain⟨B2,b2,rfl,j2,q2⟩:=aH G;have J:=St.mk hs;have I:=From.mk hb0;have ak:=Kb.mk hk;clear A z F G hs hb0 hk)
  |(go_at_call 74;(try rw[u.out]);replace h:=bI h;obtain⟨⟨t1,t2,t3⟩,A,h⟩:=h;(try dsimp only at h);refine(fA.c _ _ _ _ _ _ _ _ _ _ St.out From.out A).mono ?_;rintro e w2 ⟨v0,rfl,z,hs,hb0,hk⟩;obtain⟨af,b0,rfl,j0,q0⟩:=aH z;have J:=St.mk hs;have I:=From.mk hb0;have ak:=Kb.mk hk;clear A z hs hb0 hk));(repeat' first|((with_reducible replace h:=bq h);rcases h with ⟨hc,h⟩|⟨hc,h⟩<;>first|exact(bh h).elim|exact absurd hc (by decide)|subst hc|(replace hc:=aD hc;subst hc)|(replace hc:=bH hc;subst hc)|(replace hc:=bJ hc;subst hc)|(have hd:(_==_)=true:=hc)|(have hd:(_==_)=false:=aD hc)|(have hd:=aV hc;have he:=aW hc;clear hc)|(have hd:=bo hc;have he:=bp hc)|(have hd:=ay hc)|(have hd:=ag hc;(try(have hn:=Int.natCast_pos.mp hc;have hm:=ag hn;replace hn:=ax hn));first|(obtain⟨am,e_,i_⟩:=cQ (by assumption) (by first|assumption|decide) hc;cases e_)|(obtain⟨al,e_,c_⟩:=bE (by assumption) (by first|assumption|decide) hc;cases e_))|(have hd:=ag hc)|skip)|((with_reducible replace h:=bF h);obtain⟨u,h⟩:=h;replace u:=A_ u;(try dsimp only at h))))
 all_goals simp only[Option.some.injEq,Prod.mk.injEq]at h
 all_goals obtain⟨rfl,rfl,rfl,rfl,rfl,rfl,rfl⟩:=h
 all_goals refine bodyPost_ret (eu rfl _ _ _ _ _ (0,0) _ rfl aQ.out Tryz.underlying37 rfl (by kernel_rfl)) rfl ?_
 all_goals exact⟨_,_,_,_,(by first|rfl|(simp_all;done)),(by first|exact di|exact Kd.bl _ _ _ _ _),(by first|exact di|exact Kd.bl _ _ _ _ _),(by first|exact di|exact Kd.bl _ _ _ _ _),(by first|exact di|exact Kd.bl _ _ _ _ _),From.out⟩
end P
namespace P
set_option maxHeartbeats 8000000
set_option maxRecDepth 100000
open Go.RowKit WW.bk WW.b_ WW.b6
attribute [local go_sem] cR cV cU cY cT cX cS cW
def fK.f (k:Nat) (z:List (ai)) (u:Int) (D:List Int) (F:Int) (G:Int) (H:List (ah)):Option (Int):=(a7.f k z u D F G H).bind fun t140=>(if t140=true then((cZ.f k z u D).bind fun t141=>(some (wrap64 ((wrap64 ((z.length:Int)-u))+(t141.length:Int)))))else(some 0))
def fK.T3:Bool×List (List Nat×List Nat):=(true,[([],[]),([0],[0]),([1],[1]),([2],[2]),([],[]),([4],[4]),([5],[5]),([3,6],[3,6]),([],[]),([8],[8]),([9],[9]),([10],[10]),([7,11],[7,11]),([12,10,0,1,2,3,4,5,6,7,8,9,10,11,12],[12])])
def fK.B3:List Nat:=[0,1,3,7,0,16,48,127,0,256,768,1792,4095,8191]
theorem fK.lH:a6 .any (opsOf Tryz.f35 3)=fK.T3:=by kernel_rfl
theorem fK.kQ:bT fK.T3.2 fK.B3=true:=by kernel_rfl
theorem fK.c (k:Nat) (Z:Option Addr) (af:Nat) (D:List (ai)) (O:Int) (ad:Option Addr) (aj:Nat) (I:List Int) (X:Int) (Y:Int) (al:Option Addr) (am:Nat) (U:List (ah)) (r:Int) (w:World) (aR:Kd.C aU w Z D.length D) (aN:D.length≤af) (aS:Kd.C (Kd.int .i64) w ad I.length I) (aO:I.length≤aj) (aV:Kd.C aT w al U.length U) (aP:U.length≤am) (h:fK.f k D O I X Y U=some r):
  Calls Tryz.prog 35 #[.agg #[.slice Z D.length af,.int .i64 O,.slice ad I.length aj,.int .i64 X,.int .i64 Y,.slice al U.length am]] w fun e w'=>e= .returned (.int .i64 r)∧Below w.heap.size w w':=by
 have bH:=Tryz.underlying37;have bG:=Tryz.underlying34;have aw:=A_ aR;have ar:=A_ aN;clear aR aN;have aB:=A_ aS;have av:=A_ aO;clear aS aO;have aH:=A_ aV;have aG:=A_ aP;clear aV aP;have z:=A_ (Below.refl w.heap.size w);have H:((a7.f k D O I X Y U).bind fun t140=>(if t140=true then((cZ.f k D O I).bind fun t141=>(some (wrap64 ((wrap64 ((D.length:Int)-O))+(t141.length:Int)))))else(some 0)))=some r:=h;clear h;replace H:=az H;obtain⟨t140,aE,H⟩:=H
 (try dsimp only at H)
 have A2:=A_ aE;clear aE;by_cases c3:t140=true
 ·subst c3;rw[aq rfl]at H;replace H:=az H;obtain⟨t141,aF,H⟩:=H
  (try dsimp only at H)
  have aW:=A_ aF;clear aF;obtain rfl:=aC H;go_enter Tryz.func35,Tryz.ntmps35
  try go_wp2_with (first|((with_reducible refine aJ (N:=1) rfl ?_);refine bX (N:=1) (cs:= #[.slice Z D.length af,.int .i64 O,.slice ad I.length aj,.int .i64 X,.int .i64 Y,.slice al U.length am]) (t:=37) ?_;intro V hg bL ao hb;have F:=A_ (bn (oB z) hb);have G:=A_ (ao);have ak:=A_ ((by rw[hg];exact(bm (oB z)):w.heap.size≤V));have ap:=A_ ((by rw[hg];exact(bm (oB z)):w.heap.size≤V));clear z;have z:=F;have u:=G;have aY:=ak;have aX:=ap;clear F G ak ap hb ao hg;have bh:=cz u 0;have bk:=cz u 1;have bl:=cz u 2;have bo:=cz u 3;have bp:=cz u 4;have bq:=cz u 5;have bx:=aK u.out 0;have bA:=aK u.out 1;have bB:=aK u.out 2;have bD:=aK u.out 3;have bE:=aK u.out 4;have bF:=aK u.out 5)|((with_reducible refine bC (f:=37) rfl ?_);refine gL (some 4) Tryz.func37 #[.agg #[.slice Z D.length af,.int .i64 O,.slice ad I.length aj,.int .i64 X,.int .i64 Y,.slice al U.length am]] ?_;(with_reducible refine(a7.calls k _ _ D O _ _ I X Y _ _ U true _ ?bc ?bf ?eK ?eL ?jN ?lA A2.out).mono ?_);(case bc=>exact bP aw.out);(case bf=>exact ar.out);(case eK=>exact bP aB.out);(case eL=>exact av.out);(case jN=>exact bP aH.out);(case lA=>exact aG.out);rintro e w7 ⟨rfl,hb⟩;refine⟨_,rfl,?_⟩;have F:=A_ (bb u hb);have G:=A_ (bn (oB z) hb);clear u z;have u:=F;have z:=G;clear F G;(try clear hb);(try clear hb2);(try clear hk);(try clear hi)))
  have F:=A_ (bz u.out);have G:=A_ (cg z.out);clear u z;have u:=F;have z:=G;clear F G;refine fB (n:=14) (S:=fun w'=>w'.cell? ⟨V,0,none⟩=some (.slice Z D.length af)∧w'.cell? ⟨V,1,none⟩=some (.int .i64 O)∧w'.cell? ⟨V,2,none⟩=some (.slice ad I.length aj)∧w'.cell? ⟨V,3,none⟩=some (.int .i64 X)∧w'.cell? ⟨V,4,none⟩=some (.int .i64 Y)∧w'.cell? ⟨V,5,none⟩=some (.slice al U.length am)) (ds:=[]) #[false,false,false,false,false,false,false,false,false,false,false,false,false,false] (by kernel_rfl) rfl rfl ⟨cz u 0,cz u 1,cz u 2,cz u 3,cz u 4,cz u 5⟩ (fun hHeld=> ?_);refine fU fK.lH fK.kQ (fun J aD=> ?_);generalize w7.drew=bM at u z hHeld ⊢;refine pA 0 (some 6) J.out ?_;refine pA 1 (some 7) J.out ?_;refine pA 4 (some 10) J.out ?_;refine pA 5 (some 11) J.out ?_;refine pA 8 (some 14) J.out ?_;refine pT 2 (some 8) J.out aD.out hHeld ?_;refine pA 3 (some 9) J.out ?_;refine pT 6 (some 12) J.out aD.out hHeld ?_;refine pA 7 (some 13) J.out ?_;refine pT 9 (some 15) J.out aD.out hHeld ?_;refine dO (i:=10) (N:=some 16) #[true,true,true,true,true,true,true,true,true,true,true,false,false,false] rfl rfl (dn J.out (by kernel_rfl)) (by decide) (fun K hK=> ?_);refine df Tryz.func83 (by kernel_rfl) rfl #[.agg #[.slice Z D.length af,.int .i64 O,.slice ad I.length aj]] (by rfl) rfl rfl (by(try simp only[List.map_toArray,List.map_cons,List.map_nil]);first|done|rfl|(simp only[List.length_drop,List.length_take];rfl)) ?_
  with_reducible refine(cZ.c k _ _ D O _ _ I t141 _ ?bc ?bf ?eK ?eL aW.out).mono ?_
  (case bc=>exact bP aw.out)
  (case bf=>exact ar.out)
  (case eK=>exact bP aB.out)
  (case eL=>exact av.out)
  rintro e bN ⟨bI,rfl,aQ,hb⟩;refine⟨_,rfl,?_⟩;have F:=A_ (Kd.dg aQ (bm (oB z)));have G:=A_ (bb u hb);have ak:=A_ (bn (oB z) hb);clear u z;have a0:=F;have u:=G;have z:=ak;clear F G ak
  (try clear hb)
  (try clear hb2)
  (try clear hk)
  (try clear hi)
  (try clear aQ)
  obtain⟨a4,a5,aI⟩:=Kd.dz a0.out
  (first|subst aI|(injection aI with aL a1 aM;have a2:=aL.symm;have a3:=aM.symm;clear aL a1 aM;subst a2;subst a3))
  refine hK.out _ _ ⟨cz u 0,cz u 1,cz u 2,cz u 3,cz u 4,cz u 5⟩ (fun hHeld=> ?_);clear hK K;refine dX (a':= ?_) ?_ ?_;rotate_left
  ·show Act.put _ (some 16) _=_;simp only[Act.put,List.setIfInBounds_toArray,List.set_cons_zero,List.set_cons_succ,cd,ct];rfl
  refine pA 11 (some 17) J.out ?_;refine pA 12 (some 18) J.out ?_;refine pA 13 (some 2) J.out ?_;refine eW (fp J.out (by kernel_rfl)) ?_
  try go_wp2
  go_ret;exact⟨eR,oB z⟩
 ·replace c3:=Bool.eq_false_iff.mpr c3;subst c3;rw[au (show¬(false=true)by decide)]at H;obtain rfl:=aC H;go_enter Tryz.func35,Tryz.ntmps35
  go_wp2_with (first|((with_reducible refine aJ (N:=1) rfl ?_);refine bX (N:=1) (cs:= #[.slice Z D.length af,.int .i64 O,.slice ad I.length aj,.int .i64 X,.int .i64 Y,.slice al U.length am]) (t:=37) ?_;intro V hg bJ ao hb;have F:=A_ (bn (oB z) hb);have G:=A_ (ao);have ak:=A_ ((by rw[hg];exact(bm (oB z)):w.heap.size≤V));have ap:=A_ ((by rw[hg];exact(bm (oB z)):w.heap.size≤V));clear z;have z:=F;have u:=G;have aY:=ak;have aX:=ap;clear F G ak ap hb ao hg;have a6:=cz u 0;have a9:=cz u 1;have a_:=cz u 2;have bd:=cz u 3;have be:=cz u 4;have bg:=cz u 5;have br:=aK u.out 0;have bs:=aK u.out 1;have bt:=aK u.out 2;have bu:=aK u.out 3;have bv:=aK u.out 4;have bw:=aK u.out 5)|((with_reducible refine bC (f:=37) rfl ?_);refine gL (some 4) Tryz.func37 #[.agg #[.slice Z D.length af,.int .i64 O,.slice ad I.length aj,.int .i64 X,.int .i64 Y,.slice al U.length am]] ?_;(with_reducible refine(a7.calls k _ _ D O _ _ I X Y _ _ U false _ ?bc ?bf ?eK ?eL ?jN ?lA A2.out).mono ?_);(case bc=>exact bP aw.out);(case bf=>exact ar.out);(case eK=>exact bP aB.out);(case eL=>exact av.out);(case jN=>exact bP aH.out);(case lA=>exact aG.out);rintro e bK ⟨rfl,hb⟩;refine⟨_,rfl,?_⟩;have F:=A_ (bb u hb);have G:=A_ (bn (oB z) hb);clear u z;have u:=F;have z:=G;clear F G;(try clear hb);(try clear hb2);(try clear hk);(try clear hi)))
  go_ret;exact⟨eR,oB z⟩
end P
namespace P
set_option maxHeartbeats 8000000
set_option maxRecDepth 100000
set_option synthInstance.maxHeartbeats 400000
set_option synthInstance.maxSize 100000
open Go.RowKit WW.bk WW.b_ WW.b6 V
attribute [local go_sem] dC dD gl iD iE iO iP
attribute [local go_sem] cR cV cU cY cT cX cS cW
def cq.j0:Nat→Bool→List (ai)→Int→List Int→Int→Int→List (ah)→Int→Int→Int→Int→List (ai)→Int→List Int→Int→Int→List (ah)→Option ((List (ai))×Int×List Int×Int×Int×(List (ah))×Int)
 |0,_,_,_,_,_,_,_,_,_,_,_,_,_,_,_,_,_=>none
 |k+1,aE,J,K,O,U,G,H,I,af,al,aF,V,X,Y,Z,ad,aj=>if aE=true then(some (V,X,Y,Z,ad,aj,(-1)))else(if I=1 then((jc.f k J K O U G H).bind fun u=>((iK.f u.2.2.2.2.2.2).bind fun am=>(some (u.1,u.2.1,u.2.2.1,u.2.2.2.1,u.2.2.2.2.1,u.2.2.2.2.2.1,am))))else(if I=2 then((jd.f k J K O U G H af).bind fun z=>((iK.f z.2.2.2.2.2.2).bind fun ao=>(some (z.1,z.2.1,z.2.2.1,z.2.2.2.1,z.2.2.2.2.1,z.2.2.2.2.2.1,ao))))else(if I=3 then((iZ.f k J K O U G H af al aF).bind fun D=>((iK.f D.2.2.2.2.2.2).bind fun ap=>(some (D.1,D.2.1,D.2.2.1,D.2.2.2.1,D.2.2.2.2.1,D.2.2.2.2.2.1,ap))))else(if I=4 then((ja.f k J K O U G H af al).bind fun F=>((iK.f F.2.2.2.2.2.2).bind fun ar=>(some (F.1,F.2.1,F.2.2.1,F.2.2.2.1,F.2.2.2.2.1,F.2.2.2.2.2.1,ar))))else(if I=5 then((lC.f k H G).bind fun ak=>((iK.f ak.2).bind fun av=>(some (V,X,Y,Z,ad,ak.1,av))))else(if I=6 then((fK.f k J K O U G H).bind fun aw=>(some (V,X,Y,Z,ad,aj,aw)))else(if I=7 then((fS.f k J K O U G H af).bind fun aB=>(some (V,X,Y,Z,ad,aj,aB)))else((iK.f false).bind fun aD=>(some (V,X,Y,Z,ad,aj,aD))))))))))
def cq.f (k:Nat) (G:List (ai)) (z:Int) (H:List Int) (D:Int) (F:Int) (I:List (ah)) (J:Int) (K:Int) (O:Int) (U:Int):Option ((List (ai))×Int×List Int×Int×Int×(List (ah))×Int):=(fz.f G z H D F I).bind fun u=>((a7.f k G z H D F I).bind fun V=>(if V=true then((fJ.f k J K O U).bind fun X=>(cq.j0 k (!X) G z H D F I J K O U u.1 u.2.1 u.2.2.1 u.2.2.2.1 u.2.2.2.2.1 u.2.2.2.2.2))else(cq.j0 k true G z H D F I J K O U u.1 u.2.1 u.2.2.1 u.2.2.2.1 u.2.2.2.2.1 u.2.2.2.2.2)))
noncomputable def cq.qH:Bool×List (List Nat×List Nat):=a6 .any (opsOf Tryz.f10 17)
def cq.tQ:List Nat:=[0,0,2,7,15]
theorem cq.yP:a6 .any (opsOf Tryz.f10 17)=cq.qH:=rfl
theorem cq.vk:bT cq.qH.2 cq.tQ=true:=by kernel_rfl
noncomputable def cq.qJ:Bool×List (List Nat×List Nat):=a6 .any (opsOf Tryz.f10 19)
def cq.tR:List Nat:=[0,0,0,4,14,31,63]
theorem cq.yQ:a6 .any (opsOf Tryz.f10 19)=cq.qJ:=rfl
theorem cq.vn:bT cq.qJ.2 cq.tR=true:=by kernel_rfl
noncomputable def cq.jY:Bool×List (List Nat×List Nat):=a6 .any (opsOf Tryz.f10 20)
def cq.mq:List Nat:=[0,0,2,7,15]
theorem cq.nr:a6 .any (opsOf Tryz.f10 20)=cq.jY:=rfl
theorem cq.mF:bT cq.jY.2 cq.mq=true:=by kernel_rfl
theorem cq.c (k:Nat) (X:Option Addr) (ar:Nat) (J:List (ai)) (ad:Int) (Y:Option Addr) (av:Nat) (O:List Int) (af:Int) (ak:Int) (Z:Option Addr) (aB:Nat) (U:List (ah)) (al:Int) (am:Int) (ao:Int) (ap:Int) (r1:List (ai)) (r2:Int) (r3:List Int) (aR:Int) (aS:Int) (aX:List (ah)) (aY:Int) (w:World) (aK:Kd.C aU w X J.length J) (aF:J.length≤ar) (aL:Kd.C (Kd.int .i64) w Y O.length O) (aG:O.length≤av) (aN:Kd.C aT w Z U.length U) (aI:U.length≤aB) (h:cq.f k J ad O af ak U al am ao ap=some (r1,r2,r3,aR,aS,aX,aY)):
  Calls Tryz.prog 10 #[.agg #[.slice X J.length ar,.int .i64 ad,.slice Y O.length av,.int .i64 af,.int .i64 ak,.slice Z U.length aB],.agg #[.int .i64 al,.int .i64 am,.int .i64 ao,.int .i64 ap]] w fun e w'=>∃a0 a1 a2:Value,e= .returned (.tuple #[.agg #[a0,.int .i64 r2,a1,.int .i64 aR,.int .i64 aS,a2],.int .i64 aY])∧Kd.R aU 112 w' w.heap.size (fun _=>True) a0 r1∧Kd.R (Kd.int .i64) 3 w' w.heap.size (fun _=>True) a1 r3∧Kd.R aT 104 w' w.heap.size (fun _=>True) a2 aX∧Below w.heap.size w w':=by
 replace aK:=aM.mk aK;replace aF:=aj.mk aF;replace aL:=aM.mk aL;replace aG:=aj.mk aG;replace aN:=aM.mk aN;replace aI:=aj.mk aI;have bd:=bS.mk (d:=aU) (e:=112) (t:=3) (by decide);have be:=bS.mk (d:=aU) (e:=112) (t:=37) (by decide);have bf:=bS.mk (d:=aU) (e:=112) (t:=41) (by decide);have a_:=bS.mk (d:=aT) (e:=104) (t:=3) (by decide);have bb:=bS.mk (d:=aT) (e:=104) (t:=37) (by decide);have bc:=bS.mk (d:=aT) (e:=104) (t:=41) (by decide);unfold cq.f at h;have a5:=Tryz.underlying37;have a6:=Tryz.underlying41;have a9:=Tryz.underlying74
 all_goals go_enter Tryz.func10,Tryz.ntmps10
 all_goals go_wp2_with ((first
  |((with_reducible refine aJ (N:=2) rfl ?_);refine bV #[.slice X J.length ar,.int .i64 ad,.slice Y O.length av,.int .i64 af,.int .i64 ak,.slice Z U.length aB] 37 fun g w1 j1 j2 aE=> ?_)
  |((with_reducible refine aJ (N:=3) rfl ?_);refine bV #[.int .i64 al,.int .i64 am,.int .i64 ao,.int .i64 ap] 41 fun g w1 j1 j2 aE=> ?_)
  |((with_reducible refine aJ (N:=4) rfl ?_);refine bV #[.slice none 0 0,.int .i64 0,.slice none 0 0,.int .i64 0,.int .i64 0,.slice none 0 0] 37 fun g w1 j1 j2 aE=> ?_)
  |((with_reducible refine aJ (N:=6) rfl ?_);refine bV #[.slice none 0 0,.int .i64 0,.slice none 0 0,.int .i64 0,.int .i64 0,.slice none 0 0] 37 fun g w1 j1 j2 aE=> ?_)
  |(go_at_call 45;(try rw[G.out]);replace h:=bI h;obtain⟨⟨t1,t2,t3,t4,t5,t6⟩,A,h⟩:=h;(try dsimp only at h);refine(fz.c _ _ _ _ _ _ _ _ _ _ _ _ _ _ _ _ _ _ _ Rd.out aj.out Rd.out aj.out Rd.out aj.out A).mono ?_;rintro e w2 ⟨v0,v1,v2,rfl,z,D,F,hb⟩;obtain⟨V,b0,rfl,j0,q0⟩:=aH z;obtain⟨B1,b1,rfl,j1,q1⟩:=aH D;obtain⟨B2,b2,rfl,j2,q2⟩:=aH F;have H:=aw.mk hb;clear A z D F hb)
  |(go_at_call 37;(try rw[G.out]);replace h:=bI h;obtain⟨t,A,h⟩:=h;(try dsimp only at h);refine(a7.calls _ _ _ _ _ _ _ _ _ _ _ _ _ _ _ Rd.out aj.out Rd.out aj.out Rd.out aj.out A).mono ?_;rintro e w2 ⟨rfl,hb⟩;have H:=aw.mk hb;clear A hb)
  |(go_at_call 46;(try rw[G.out]);replace h:=bI h;obtain⟨t,A,h⟩:=h;(try dsimp only at h);refine(fJ.c _ _ _ _ _ _ _ A).mono ?_;rintro e w2 ⟨rfl,hb⟩;have H:=aw.mk hb;clear A hb)
  |(go_at_call 47;(try rw[G.out]);replace h:=bI h;obtain⟨⟨t1,t2,t3,t4,t5,t6,t7⟩,A,h⟩:=h;(try dsimp only at h);refine(jc.c _ _ _ _ _ _ _ _ _ _ _ _ _ _ _ _ _ _ _ _ _ Rd.out aj.out Rd.out aj.out Rd.out aj.out A).mono ?_;rintro e w2 ⟨v0,v1,v2,rfl,z,D,F,hb⟩;obtain⟨V,b0,rfl,j0,q0⟩:=aH z;obtain⟨B1,b1,rfl,j1,q1⟩:=aH D;obtain⟨B2,b2,rfl,j2,q2⟩:=aH F;have H:=aw.mk hb;clear A z D F hb)
  |(go_at_call 48;(try rw[G.out]);replace h:=bI h;obtain⟨⟨t1,t2,t3,t4,t5,t6,t7⟩,A,h⟩:=h;(try dsimp only at h);refine(jd.c _ _ _ _ _ _ _ _ _ _ _ _ _ _ _ _ _ _ _ _ _ _ Rd.out aj.out Rd.out aj.out Rd.out aj.out A).mono ?_;rintro e w2 ⟨v0,v1,v2,rfl,z,D,F,hb⟩;obtain⟨V,b0,rfl,j0,q0⟩:=aH z;obtain⟨B1,b1,rfl,j1,q1⟩:=aH D;obtain⟨B2,b2,rfl,j2,q2⟩:=aH F;have H:=aw.mk hb;clear A z D F hb)
  |(go_at_call 49;(try rw[G.out]);replace h:=bI h;obtain⟨⟨t1,t2,t3,t4,t5,t6,t7⟩,A,h⟩:=h;(try dsimp only at h);refine(iZ.c _ _ _ _ _ _ _ _ _ _ _ _ _ _ _ _ _ _ _ _ _ _ _ _ Rd.out aj.out Rd.out aj.out Rd.out aj.out A).mono ?_;rintro e w2 ⟨v0,v1,v2,rfl,z,D,F,hb⟩;obtain⟨V,b0,rfl,j0,q0⟩:=aH z;obtain⟨B1,b1,rfl,j1,q1⟩:=aH D;obtain⟨B2,b2,rfl,j2,q2⟩:=aH F;have H:=aw.mk hb;clear A z D F hb)
  |(go_at_call 50;(try rw[G.out]);replace h:=bI h;obtain⟨⟨t1,t2,t3,t4,t5,t6,t7⟩,A,h⟩:=h;(try dsimp only at h);refine(ja.c _ _ _ _ _ _ _ _ _ _ _ _ _ _ _ _ _ _ _ _ _ _ _ Rd.out aj.out Rd.out aj.out Rd.out aj.out A).mono ?_;rintro e w2 ⟨v0,v1,v2,rfl,z,D,F,hb⟩;obtain⟨V,b0,rfl,j0,q0⟩:=aH z;obtain⟨B1,b1,rfl,j1,q1⟩:=aH D;obtain⟨B2,b2,rfl,j2,q2⟩:=aH F;have H:=aw.mk hb;clear A z D F hb)
  |(go_at_call 51;(try rw[G.out]);replace h:=bI h;obtain⟨⟨t1,t2⟩,A,h⟩:=h;(try dsimp only at h);refine(lC.c _ _ _ _ _ _ _ _ Rd.out aj.out A).mono ?_;rintro e w2 ⟨v0,rfl,z,hb⟩;obtain⟨V,b0,rfl,j0,q0⟩:=aH z;have H:=aw.mk hb;clear A z hb)
  |(refine qR (id:=17) (ds:=[3]) (l:= #[false,false,false,false,false]) cq.yP cq.vk ?_;intro u I w3 aP u0 aO hHeld;refine qT 0 (some 75) u I hHeld ?_;refine qT 1 (some 76) u I hHeld ?_;replace h:=bI h;obtain⟨t,A,h⟩:=h;(try dsimp only at h);refine qC 2 77 Tryz.func35 u fun K hK=> ?_;refine(fK.c _ _ _ _ _ _ _ _ _ _ _ _ _ _ _ Rd.out aj.out Rd.out aj.out Rd.out aj.out A).mono ?_;rintro e w2 ⟨rfl,hb⟩;have H:=aw.mk hb;clear A hb;refine⟨_,rfl,hK _ _ From.out fun hHeld=> ?_⟩;clear hK K;refine qN ?_;refine qL 3 u ?_;refine qA 4 (some 5) u ?_;refine qD u ?_)
  |(refine qR (id:=19) (ds:=[5]) (l:= #[false,false,false,false,false,false,false]) cq.yQ cq.vn ?_;intro u I w3 aP u0 aO hHeld;refine qA 2 (some 82) u ?_;refine qT 0 (some 80) u I hHeld ?_;refine qT 1 (some 81) u I hHeld ?_;refine qT 3 (some 83) u I hHeld ?_;replace h:=bI h;obtain⟨t,A,h⟩:=h;(try dsimp only at h);refine qC 4 84 Tryz.func52 u fun K hK=> ?_;refine(fS.c _ _ _ _ _ _ _ _ _ _ _ _ _ _ _ _ Rd.out aj.out Rd.out aj.out Rd.out aj.out A).mono ?_;rintro e w2 ⟨rfl,hb⟩;have H:=aw.mk hb;clear A hb;refine⟨_,rfl,hK _ _ From.out fun hHeld=> ?_⟩;clear hK K;refine qN ?_;refine qL 5 u ?_;refine qA 6 (some 5) u ?_;refine qD u ?_)
  |(refine qR (id:=20) (ds:=[3]) (l:= #[false,false,false,false,false]) cq.nr cq.mF ?_;intro u I w3 aP u0 aO hHeld;refine qA 1 (some 86) u ?_;refine qT 0 (some 85) u I hHeld ?_;replace h:=bI h;obtain⟨t,A,h⟩:=h;(try dsimp only at h);refine qC 2 87 Tryz.func53 u fun K hK=> ?_;refine(iK.c _ _ _ A).mono ?_;rintro e w2 ⟨rfl,n,rfl⟩;clear A;refine⟨_,rfl,hK _ _ From.out fun hHeld=> ?_⟩;clear hK K;refine qN ?_;refine qL 3 u ?_;refine qA 4 (some 5) u ?_;refine qD u ?_));(repeat' first|((with_reducible replace h:=bq h);rcases h with ⟨hc,h⟩|⟨hc,h⟩<;>first|exact(bh h).elim|exact absurd hc (by decide)|subst hc|(replace hc:=aD hc;subst hc)|(replace hc:=bH hc;subst hc)|(replace hc:=bJ hc;subst hc)|(have hd:(_==_)=true:=hc)|(have hd:(_==_)=false:=aD hc)|(have hd:=aV hc;have he:=aW hc;clear hc)|(have hd:=bo hc;have he:=bp hc)|(have hd:=ay hc)|(have hd:=ag hc;(try(have hn:=Int.natCast_pos.mp hc;have hm:=ag hn;replace hn:=ax hn));first|(obtain⟨a4,e_,i_⟩:=cQ (by assumption) (by first|assumption|decide) hc;cases e_)|(obtain⟨a3,e_,c_⟩:=bE (by assumption) (by first|assumption|decide) hc;cases e_))|(have hd:=ag hc)|skip)|((with_reducible have hj:cq.j0 k _ _ _ _ _ _ _ _ _ _ _ _ _ _ _ _ _=_:=h);clear hj;rcases k with _|k<;>rw[cq.j0]at h<;>first|exact(bh h).elim|skip)|((with_reducible replace h:=bF h);obtain⟨G,h⟩:=h;replace G:=A_ G;(try dsimp only at h))))
 all_goals simp only[Option.some.injEq,Prod.mk.injEq]at h
 all_goals obtain⟨rfl,rfl,rfl,rfl,rfl,rfl,rfl⟩:=h
 all_goals refine bodyPost_ret (eu rfl _ _ _ _ _ (0,0) _ rfl aQ.out Tryz.underlying37 rfl (by kernel_rfl)) rfl ?_
 all_goals exact⟨_,_,_,rfl,(by first|exact bj|exact Kd.bl _ _ _ _ _|exact bM|exact en (by simp)),(by first|exact bj|exact Kd.bl _ _ _ _ _|exact bM|exact en (by simp)),(by first|exact bj|exact Kd.bl _ _ _ _ _|exact bM|exact en (by simp)),From.out⟩
end P
namespace P
open Go.RowKit WW.bk WW.b_ WW.b6
def aN.l2:Nat→List Int→Int→List ai→Int→List Int→Int→Int→List ah→Option Bool
  |0,_,_,_,_,_,_,_,_=>none
  |k+1,r,i,p,d,q,a,m,l=>if i<12 then((ft.f k p d q a m l i).bind fun h=>((ib.f l 0 i).bind fun t=>(if t=1 then(if h=0 then(aN.l2 k r (wrap64 (i+1)) p d q a m l)else(some false))else(if 0≤i then(if i<(r.length:Int)then(if rd r i>0 then((kf.f (rd r i) a).bind fun u=>(if h=u then(aN.l2 k r (wrap64 (i+1)) p d q a m l)else(some false)))else(aN.l2 k r (wrap64 (i+1)) p d q a m l))else(none))else(none)))))else(some true)
def aN.r (k:Nat) (p:List ai) (q:List Int) (p':List ai) (d':Int) (q':List Int) (a' m':Int) (l':List ah):Option Bool:=
  if 0<(q.length:Int)then((cv.f k (rd q 0) p).bind fun b=>(if b.2=true then(if(b.1.length:Int)=12 then((eY.f k p' d' q' a' m' l').bind fun t=>(if t=0 then((fR.f k q' b.1).bind fun e=>(if e=true then(aN.l2 k b.1 0 p' d' q' a' m' l')else(some false)))else(some false)))else(some false))else(some false)))else(none)
def aN.l1:Nat→Int→List ai→List Int→List ai→Int→List Int→Int→Int→List ah→Option Bool
  |0,_,_,_,_,_,_,_,_,_=>none
  |k+1,c,p,q,p',d',q',a',m',l'=>if c<40 then((eY.f k p' d' q' a' m' l').bind fun t=>(if t>0 then((jC.f k p' d' q' a' m' l').bind fun b=>(if b.2.2.2.2.2.2=true then((a7.f k b.1 b.2.1 b.2.2.1 b.2.2.2.1 b.2.2.2.2.1 b.2.2.2.2.2.1).bind fun e=>(if e=true then(aN.l1 k (wrap64 (c+1)) p q b.1 b.2.1 b.2.2.1 b.2.2.2.1 b.2.2.2.2.1 b.2.2.2.2.2.1)else(some false)))else(some false)))else(aN.r k p q p' d' q' a' m' l')))else(aN.r k p q p' d' q' a' m' l')
def aN.l0:Nat→List dh→Int→List ai→Int→List Int→Int→Int→List ah→Option Bool
  |0,_,_,_,_,_,_,_,_=>none
  |k+1,xs,i,p,d,q,a,m,l=>if i<(xs.length:Int)then(if 0≤i then((bB.f k p d q a m l ((gD xs i).f0) ((gD xs i).f1) ((gD xs i).f2) ((gD xs i).f3)).bind fun b=>((cq.f k p d q a m l ((gD xs i).f0) ((gD xs i).f1) ((gD xs i).f2) ((gD xs i).f3)).bind fun c=>(if b.2.2.2.2.2.2=c.2.2.2.2.2.2 then((eA.f k b.1 b.2.1 b.2.2.1 b.2.2.2.1 b.2.2.2.2.1 b.2.2.2.2.2.1).bind fun e=>(if e=true then((eY.f k b.1 b.2.1 b.2.2.1 b.2.2.2.1 b.2.2.2.2.1 b.2.2.2.2.2.1).bind fun t=>((fK.f k c.1 c.2.1 c.2.2.1 c.2.2.2.1 c.2.2.2.2.1 c.2.2.2.2.2.1).bind fun u=>(if t=u then(aN.l0 k xs (wrap64 (i+1)) c.1 c.2.1 c.2.2.1 c.2.2.2.1 c.2.2.2.2.1 c.2.2.2.2.2.1)else(some false))))else(some false)))else(some false))))else(none))else(aN.l1 k 0 p q p d q a m l)
def aN.f (k:Nat) (l0:List Int):Option (Bool):=(l6.f l0).bind fun t=>(if t=true then(some true)else((lB.f k l0).bind fun b=>(aN.l0 k b.2.2.2.2.2.2 0 b.1 b.2.1 b.2.2.1 b.2.2.2.1 b.2.2.2.2.1 b.2.2.2.2.2.1)))
end P

end Go.Proofs.YtanhnhkcpbdfmaaGreat
