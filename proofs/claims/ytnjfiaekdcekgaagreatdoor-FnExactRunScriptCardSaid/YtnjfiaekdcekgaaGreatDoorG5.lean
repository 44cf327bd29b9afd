/- What functions of the program come to (f), that their calls come to just this (calls), and the plain laws over lists and numbers. No condition but those of the given row. -/
import Derived.Test.YtnjfiaekdcekgaaGreatDoorG4
import Derived.Deep.RegionHeld3
import Derived.Shelf.GgSortFunc.Insertion
import Derived.Sort.WalkA6
import Derived.Sort.WalkC
import Derived.Sort.LotC
import Derived.Shelf.SlSortFuncK.PdqK
import Derived.RangeFuncBox
import Derived.Lib.AtoiTie
set_option linter.unusedVariables false
set_option linter.unusedSimpArgs false
namespace Go.Proofs.YtnjfiaekdcekgaaGreatDoor
namespace P
set_option maxHeartbeats 8000000
set_option maxRecDepth 100000
set_option synthInstance.maxHeartbeats 400000
set_option synthInstance.maxSize 100000
open Go.RowKit WW.bq WW.cg WW.cd V
attribute [local go_sem] dN dO iY kV kX lK lQ
attribute [local go_sem] cN cR cQ cU cP cT cO cS
def gw.f (k:Nat) (l0:List (S64)) (F:Int) (G:Int) (H:Int) (I:Int):Option ((List (S64))×Bool):=(iL.f l0).bind fun u=>((some (([(⟨(⟨F,G⟩:bP),H,I⟩:S64)]:List (S64)):List (S64))).bind fun z=>(if u.length+z.length<4398046511104 then((some (u++z:List (S64))).bind fun D=>((iK.f k l0).bind fun J=>(if J=true then((iK.f k D).bind fun K=>(if K=true then(some (D,true))else((iL.f l0).bind fun O=>(some (O,false)))))else((iL.f l0).bind fun U=>(some (U,false))))))else(none)))
noncomputable def gw.T1:Bool×List (List Nat×List Nat):=bo .any (opsOf Tryz.f115 1)
def gw.B1:List Nat:=[0,1,0,4,15,31]
theorem gw.oT:bo .any (opsOf Tryz.f115 1)=gw.T1:=rfl
theorem gw.nW:cp gw.T1.2 gw.B1=true:=by kernel_rfl
theorem gw.c (k:Nat) (A0:Option Addr) (c0:Nat) (l0:List (S64)) (u:Int) (z:Int) (D:Int) (F:Int) (r1:List (S64)) (r2:Bool) (w:World) (U:Kd.C aW w A0 l0.length l0) (hc0:l0.length≤c0) (h:gw.f k l0 u z D F=some (r1,r2)):
  Calls Tryz.prog 115 #[.slice A0 l0.length c0,.agg #[.int .i64 u,.int .i64 z,.int .i64 D,.int .i64 F]] w fun e w'=>∃X:Value,e= .returned (.tuple #[X,.bool r2])∧Kd.R aW 64 w' w.heap.size (fun _=>True) X r1∧Below w.heap.size w w':=by
 replace U:=bn.mk U;replace hc0:=aq.mk hc0;unfold gw.f at h;have hu64:=Tryz.underlying64
 all_goals go_enter Tryz.func115,Tryz.ntmps115
 all_goals go_wp2_with ((first
  |((with_reducible refine ax (N:=3) rfl ?_);refine bV #[.int .i64 u,.int .i64 z,.int .i64 D,.int .i64 F] 64 fun g w1 j1 j2 ao=> ?_)
  |(go_at_call 69;(try rw[I.out]);replace h:=bI h;obtain⟨t,A,h⟩:=h;(try dsimp only at h);refine(iL.c _ _ _ _ _ Rd.out aq.out A).mono ?_;rintro e w2 ⟨v0,rfl,H,hb⟩;obtain⟨O,b0,rfl,j0,q0⟩:=aQ H;have J:=az.mk hb;clear A H hb)
  |(go_at_call 71;(try rw[I.out]);replace h:=bI h;obtain⟨t,A,h⟩:=h;(try dsimp only at h);refine(iK.c _ _ _ _ _ _ Rd.out aq.out A).mono ?_;rintro e w2 ⟨rfl,hb⟩;have J:=az.mk hb;clear A hb)
  |(refine qR (id:=1) (ds:=[]) (l:= #[false,false,false,false,false,false]) gw.oT gw.nW ?_;intro G Y w3 ar u0 am hHeld;refine qA 0 (some 7) G ?_;refine qT 2 (some 9) G Y hHeld ?_;replace h:=bI h;obtain⟨t,A,h⟩:=h;(try dsimp only at h);simp only[aG]at h;(repeat' first|((with_reducible replace h:=bU h);rcases h with ⟨hc,h⟩|⟨hc,h⟩<;>first|exact(bL h).elim|exact absurd hc (by decide)|subst hc|(replace hc:=bA hc;subst hc)|(replace hc:=dz hc;subst hc)|(replace hc:=dA hc;subst hc)|(have hd:(_==_)=true:=hc)|(have hd:(_==_)=false:=bA hc)|(have hd:=bQ hc;have he:=bR hc;clear hc)|(have hd:=bS hc;have he:=bT hc)|(have hd:=ay hc)|(have hd:=ah hc;(try(have hn:=Int.natCast_pos.mp hc;have hm:=ah hn;replace hn:=av hn));first|(obtain⟨ae,e_,i_⟩:=dy (by assumption) (by first|assumption|decide) hc;cases e_)|(obtain⟨Z,e_,c_⟩:=dv (by assumption) (by first|assumption|decide) hc;cases e_))|(have hd:=ah hc)|skip)|((with_reducible replace h:=dw h);obtain⟨I,h⟩:=h;replace I:=A_ I;(try dsimp only at h)));refine kI 1 3 (some 8) (some 10) G (fun K hK=> ?_) (fun K hK=> ?_);(focus (refine cy Tryz.func69 (by kernel_rfl) rfl _ (by rfl) rfl rfl (by(try simp only[List.map_toArray,List.map_cons,List.map_nil]);rfl) ?_;refine(iL.c _ _ _ _ _ Rd.out aq.out A).mono ?_;rintro e u1 ⟨v0,rfl,H,hb⟩;obtain⟨O,b0,rfl,j0,q0⟩:=aQ H;have J:=az.mk hb;(try clear H hb);refine⟨_,rfl,hK.out _ _ From.out fun hHeld=> ?_⟩;clear hK K;refine qN ?_;refine qI aW 3 64 10 ([(⟨(⟨u,z⟩:bP),D,F⟩:S64)]:List (S64)) [.int .i64 u,.int .i64 z,.int .i64 D,.int .i64 F] G hHeld (aI.c4 (show Kd.M aW _ _ _ (⟨(⟨u,z⟩:bP),D,F⟩:S64) [.int .i64 u,.int .i64 z,.int .i64 D,.int .i64 F]from(kB _ _ _ (⟨(⟨u,z⟩:bP),D,F⟩:S64))) (aI.none _ _)) ?_;intro B9 ad u9 ai aj hHeld));rotate_left;(focus (refine sj aW 64 10 ([(⟨(⟨u,z⟩:bP),D,F⟩:S64)]:List (S64)) [.int .i64 u,.int .i64 z,.int .i64 D,.int .i64 F] (aI.c4 (show Kd.M aW _ _ _ (⟨(⟨u,z⟩:bP),D,F⟩:S64) [.int .i64 u,.int .i64 z,.int .i64 D,.int .i64 F]from(kB _ _ _ (⟨(⟨u,z⟩:bP),D,F⟩:S64))) (aI.none _ _)) ?_;intro B9 ad u9 ai aj;refine hK.out _ _ From.out fun hHeld=> ?_;clear hK K;refine qN ?_;refine qC 1 8 Tryz.func69 G fun K hK=> ?_;refine(iL.c _ _ _ _ _ Rd.out aq.out A).mono ?_;rintro e u1 ⟨v0,rfl,H,hb⟩;obtain⟨O,b0,rfl,j0,q0⟩:=aQ H;have J:=az.mk hb;(try clear H hb);refine⟨_,rfl,hK _ _ From.out fun hHeld=> ?_⟩;clear hK K;refine qN ?_));all_goals(refine qP aW t ([(⟨(⟨u,z⟩:bP),D,F⟩:S64)]:List (S64)) 4 11 (.tmp 8) (.tmp 10) 28 (.agg #[(.int .i64 0),(.int .i64 0),(.int .i64 0),(.int .i64 0)]) 32 G hHeld Tryz.underlying28 ni rfl (by decide) (by omega) (fun _ _ h=>h) (by simp at hc ⊢;omega) ?_;intro B8 al u8 V ap hHeld;have ak:=aq.mk (iJ V);generalize t++([(⟨(⟨u,z⟩:bP),D,F⟩:S64)]:List (S64))=au at h V ak ⊢;refine qA 5 (some 6) G ?_;refine qD G ?_)));(repeat' first|((with_reducible replace h:=bU h);rcases h with ⟨hc,h⟩|⟨hc,h⟩<;>first|exact(bL h).elim|exact absurd hc (by decide)|subst hc|(replace hc:=bA hc;subst hc)|(replace hc:=dz hc;subst hc)|(replace hc:=dA hc;subst hc)|(have hd:(_==_)=true:=hc)|(have hd:(_==_)=false:=bA hc)|(have hd:=bQ hc;have he:=bR hc;clear hc)|(have hd:=bS hc;have he:=bT hc)|(have hd:=ay hc)|(have hd:=ah hc;(try(have hn:=Int.natCast_pos.mp hc;have hm:=ah hn;replace hn:=av hn));first|(obtain⟨ae,e_,i_⟩:=dy (by assumption) (by first|assumption|decide) hc;cases e_)|(obtain⟨Z,e_,c_⟩:=dv (by assumption) (by first|assumption|decide) hc;cases e_))|(have hd:=ah hc)|skip)|((with_reducible replace h:=dw h);obtain⟨I,h⟩:=h;replace I:=A_ I;(try dsimp only at h)));all_goals(try have hn:decide (0<t.length)=true:=ah (by omega));all_goals(try have hn:decide (0<t.length)=false:=ay (by omega)))
 all_goals simp only[Option.some.injEq,Prod.mk.injEq]at h
 all_goals obtain⟨rfl,rfl⟩:=h
 all_goals go_ret2
 all_goals exact⟨_,rfl,(by first|exact bl|exact Kd.bj _ _ _ _ _|exact bZ|exact dJ (by simp)),From.out⟩
end P
namespace Q
open Go.RowKit P WW.bq WW.cd
def pG (r n f m:Int):S64:=⟨⟨r,n⟩,f,m⟩
def addEntry (l:List S64) (r n f m:Int):List S64×Bool:=if dK l=true∧dK (l++[pG r n f m])=true then(l++[pG r n f m],true)else(l,false)
theorem tF (l:List S64) (r n f m:Int) (hl:l.length≤1048576):Ev (fun k=>gp.f k l r n f m) (addEntry l r n f m):=by
  unfold gp.f addEntry;refine bc (og l (by omega)) (bc rfl (ai (by simp;omega) (bc rfl (Ev.bind (pV l (by omega)) ?_))));by_cases h:dK l=true;rotate_left
  · exact bf (fun h2=>h h2.1)<|aw h (bc (og l (by omega)) (Ev.now _))
  refine ai h (Ev.bind (pV _ (by simp;omega)) ?_);by_cases h2:dK (l++[pG r n f m])=true
  · exact bC ⟨h,h2⟩<|ai h2 (Ev.now _)
  · exact bf (fun h3=>h2 h3.2)<|aw h2 (bc (og l (by omega)) (Ev.now _))
theorem tG (l:List S64) (r n f m:Int) (hl:l.length≤1048576):Ev (fun k=>gw.f k l r n f m) (addEntry l r n f m):=by
  unfold gw.f addEntry;refine bc (ov l (by omega)) (bc rfl (ai (by simp;omega) (bc rfl (Ev.bind (pW l (by omega)) ?_))));by_cases h:dK l=true;rotate_left
  · exact bf (fun h2=>h h2.1)<|aw h (bc (ov l (by omega)) (Ev.now _))
  refine ai h (Ev.bind (pW _ (by simp;omega)) ?_);by_cases h2:dK (l++[pG r n f m])=true
  · exact bC ⟨h,h2⟩<|ai h2 (Ev.now _)
  · exact bf (fun h3=>h2 h3.2)<|aw h2 (bc (ov l (by omega)) (Ev.now _))
theorem tE (l:List S64) (r n f m:Int):(addEntry l r n f m).1.length≤l.length+1:=by
  unfold addEntry;split<;>simp
theorem yr (l:List S64) (x:S64) (p:bP):iZ (l++[x]) p=if p=x.f0 then x.f1 else iZ l p:=by
  unfold iZ;rw[rQ];by_cases h:p=x.f0<;>simp[h]
theorem uY {p q:bP}:p=q↔p.f0=q.f0∧p.f1=q.f1:=by
  obtain⟨a,b⟩:=p;obtain⟨c,d⟩:=q;simp
theorem yt (l:List S64) (a b:Int) (hl:l.length≤1048577):Ev (fun k=>eE.f k l a b) (if dK l=true then iZ l ⟨a,b⟩else 0):=by
  have u:=pW l hl;by_cases h0:dK l=true;rotate_left
  · rw[ag h0];replace h0:=Bool.eq_false_iff.mpr h0;rw[h0]at u;unfold eE.f;by_cases hz:l.length=0
    · have:l=[]:=List.length_eq_zero_iff.mp hz;subst this;exact absurd h0 (by decide)
    refine Ev.step (fun k=>by rw[eE.l0]) (ai (by omega) (Ev.bind u ?_));exact Ev.step (fun k=>by rw[eE.j1]) (aw (by decide) (evs rfl))
  rw[af h0];rw[h0]at u
  have key:∀i,i≤l.length→Ev (fun k=>eE.l0 k l (iZ (l.take i) ⟨a,b⟩) (i:Int) a b) (iZ l ⟨a,b⟩):=by
    refine down (n:=l.length) ?_ ?_
    · refine Ev.step (fun k=>by rw[eE.l0]) (aw (by omega) ?_);exact Ev.step (fun k=>by rw[eE.j1]) (aw (by decide) (evs (by rw[List.take_length])))
    · intro i hi ih;refine Ev.step (fun k=>by rw[eE.l0]) (ai (by omega) (Ev.bind u ?_));refine Ev.step (fun k=>by rw[eE.j1]) (ai rfl (ai (by omega) (ai (by omega) ?_)));rw[mC l i hi,cm (n:=(i:Int)+1) (by omega) (by omega)];rw[List.take_succ_eq_append_getElem hi,yr]at ih;by_cases he:(⟨a,b⟩:bP)=l[i].f0
      · rw[af he]at ih;obtain⟨e1,e2⟩:=uY.mp he;simp only at e1 e2;exact ai (by simp[←e1,←e2]) ih
      · rw[ag he]at ih;refine aw ?_ ih;intro hh;simp only[Bool.and_eq_true,beq_iff_eq]at hh;exact he (uY.mpr ⟨hh.1.symm,hh.2.symm⟩)
  exact key 0 (Nat.zero_le _)
end Q
namespace P
set_option maxHeartbeats 8000000
set_option maxRecDepth 100000
open Go.RowKit WW.bq WW.cg WW.cd
attribute [local go_sem] cN cR cQ cU cP cT cO cS
def nC.f (k:Nat) (l0:List (S64)):Option (Int×Int×Bool):=(bH.f k l0).bind fun u=>(if(u.length:Int)=0 then(some (0,0,false))else(if 0<(u.length:Int)then(some ((au u 0).f0.f0,(au u 0).f0.f1,true))else(none)))
theorem nC.c (k:Nat) (A0:Option Addr) (c0:Nat) (l0:List (S64)) (r1:Int) (r2:Int) (r3:Bool) (w:World) (am:Kd.C aW w A0 l0.length l0) (hc0:l0.length≤c0) (h:nC.f k l0=some (r1,r2,r3)):
  Calls Tryz.prog 117 #[.slice A0 l0.length c0] w fun e w'=>e= .returned (.tuple #[.agg #[.int .i64 r1,.int .i64 r2],.bool r3])∧Below w.heap.size w w':=by
 have a4:=Tryz.underlying62;have al:=A_ am;have ak:=A_ hc0;clear am hc0;have z:=A_ (Below.refl w.heap.size w);have H:((bH.f k l0).bind fun u=>(if(u.length:Int)=0 then(some (0,0,false))else(if 0<(u.length:Int)then(some ((au u 0).f0.f0,(au u 0).f0.f1,true))else(none))))=some (r1,r2,r3):=h;clear h;replace H:=aD H;obtain⟨u,aj,H⟩:=H
 (try dsimp only at H)
 have A2:=A_ aj;clear aj;by_cases c3:(u.length:Int)=0
 ·rw[af c3]at H;have aq:((u.length:Int)==0)=true:=beq_iff_eq.mpr c3;have aw:((u.length:Int) != 0)=false:=bne_eq_false_iff_eq.mpr c3;clear c3;simp only[Option.some.injEq,Prod.mk.injEq]at H;obtain⟨rfl,rfl,rfl⟩:=H;go_enter Tryz.func117,Tryz.ntmps117
  go_wp2_with (first|((with_reducible refine ax (N:=2) rfl ?_);refine bX (N:=2) (cs:= #[.int .i64 0,.int .i64 0]) (t:=62) ?_;intro J hg w4 K hb;have F:=A_ (aC (oB z) hb);have G:=A_ (K);have I:=A_ ((by rw[hg];exact(aA (oB z)):w.heap.size≤J));have U:=A_ ((by rw[hg];exact(aA (oB z)):w.heap.size≤J));clear z;have z:=F;have D:=G;have ap:=I;have ao:=U;clear F G I U hb K hg)|((with_reducible refine aZ (f:=135) rfl ?_);refine gL (some 6) Tryz.func135 #[.slice A0 l0.length c0] ?_;(with_reducible refine(bH.c k _ _ l0 u _ ?a6 ?a7 A2.out).mono ?_);(case a6=>exact bO al.out);(case a7=>exact ak.out);rintro e a9 ⟨aF,rfl,O,hb⟩;refine⟨_,rfl,?_⟩;have F:=A_ (Kd.bE O (aA (oB z)));have G:=A_ (bb D hb);have I:=A_ (aC (oB z) hb);clear D z;have V:=F;have D:=G;have z:=I;clear F G I;(try clear hb);(try clear hb2);(try clear hk);(try clear hi);(try clear O);obtain⟨aJ,aR,aE⟩:=Kd.bz V.out;subst aE;have aV:=cz D 0;have aX:=cz D 1;have a2:=ar D.out 0;have a3:=ar D.out 1))
  refine bodyPost_ret (di rfl _ _ J 62 #[.int .i64 0,.int .i64 0] (0,0) _ rfl (by(with_reducible repeat(first|refine aT ?_ _|refine aM ?_|refine aN ?_ _));refine bw (cs:= #[.int .i64 0,.int .i64 0]) ?_ 1 _ rfl;(with_reducible repeat(first|refine aT ?_ _|refine aM ?_|refine aN ?_ _));refine bw (cs:= #[.int .i64 0,.int .i64 0]) ?_ 0 _ rfl;(with_reducible repeat(first|refine aT ?_ _|refine aM ?_|refine aN ?_ _));exact D.out) Tryz.underlying62 rfl (by kernel_rfl)) rfl ?_;exact⟨eR,oB z⟩
 ·rw[ag c3]at H;have aq:((u.length:Int)==0)=false:=beq_eq_false_iff_ne.mpr c3;have aw:((u.length:Int) != 0)=true:=bne_iff_ne.mpr c3;have aL:¬(u=[]):=fun h_=>c3 (by rw[h_];rfl);by_cases c8:0<(u.length:Int)
  ·rw[af c8]at H;have aO:decide (0<(u.length:Int))=true:=ah c8;have aP:decide (0<u.length)=true:=ah (by omega);clear c8;simp only[Option.some.injEq,Prod.mk.injEq]at H;obtain⟨rfl,rfl,rfl⟩:=H;go_enter Tryz.func117,Tryz.ntmps117
   go_wp2_with (first|((with_reducible refine ax (N:=2) rfl ?_);refine bX (N:=2) (cs:= #[.int .i64 0,.int .i64 0]) (t:=62) ?_;intro J hg a_ K hb;have F:=A_ (aC (oB z) hb);have G:=A_ (K);have I:=A_ ((by rw[hg];exact(aA (oB z)):w.heap.size≤J));have U:=A_ ((by rw[hg];exact(aA (oB z)):w.heap.size≤J));clear z;have z:=F;have D:=G;have ap:=I;have ao:=U;clear F G I U hb K hg)|((with_reducible refine aZ (f:=135) rfl ?_);refine gL (some 6) Tryz.func135 #[.slice A0 l0.length c0] ?_;(with_reducible refine(bH.c k _ _ l0 u _ ?a6 ?a7 A2.out).mono ?_);(case a6=>exact bO al.out);(case a7=>exact ak.out);rintro e a8 ⟨aF,rfl,O,hb⟩;refine⟨_,rfl,?_⟩;have F:=A_ (Kd.bE O (aA (oB z)));have G:=A_ (bb D hb);have I:=A_ (aC (oB z) hb);clear D z;have V:=F;have D:=G;have z:=I;clear F G I;(try clear hb);(try clear hb2);(try clear hk);(try clear hi);(try clear O);obtain⟨aI,aQ,aB⟩:=Kd.bz V.out;subst aB;have ae:0≤(0:Int):=(by omega);have ai:0<(u.length:Int):=oD;obtain⟨aK,az,X,Y,Z,ad⟩:=eW (Kd.aY V.out).2.2 0 ae ai;cases az;have a5:(0<u.length)=True:=av (by omega);(try rw[show((0:Int)).toNat=0 from rfl]at X);(try rw[show 0*4=0 from rfl]at X);(try rw[Addr.add_zero']at X);(try rw[show((0:Int)).toNat=0 from rfl]at Y);(try rw[show 0*4=0 from rfl]at Y);(try rw[Addr.add_zero']at Y);(try rw[show((0:Int)).toNat=0 from rfl]at Z);(try rw[show 0*4=0 from rfl]at Z);(try rw[Addr.add_zero']at Z);(try rw[show((0:Int)).toNat=0 from rfl]at ad);(try rw[show 0*4=0 from rfl]at ad);(try rw[Addr.add_zero']at ad);replace ae:=av ae;replace ai:=av ai;have aS:=cz D 0;have aU:=cz D 1;have a0:=ar D.out 0;have a1:=ar D.out 1))
   refine bodyPost_ret (di rfl _ _ J 62 #[.int .i64 ((au u 0).f0.f0),.int .i64 ((au u 0).f0.f1)] (0,0) _ rfl (by(with_reducible repeat(first|refine aT ?_ _|refine aM ?_|refine aN ?_ _));refine bw (cs:= #[.int .i64 ((au u 0).f0.f0),.int .i64 0]) ?_ 1 _ rfl;(with_reducible repeat(first|refine aT ?_ _|refine aM ?_|refine aN ?_ _));refine bw (cs:= #[.int .i64 0,.int .i64 0]) ?_ 0 _ rfl;(with_reducible repeat(first|refine aT ?_ _|refine aM ?_|refine aN ?_ _));exact D.out) Tryz.underlying62 rfl (by kernel_rfl)) rfl ?_;exact⟨eR,oB z⟩
  ·rw[ag c8]at H;exact absurd H (by simp)
end P
namespace P
set_option maxHeartbeats 8000000
set_option maxRecDepth 100000
set_option synthInstance.maxHeartbeats 400000
set_option synthInstance.maxSize 100000
open Go.RowKit WW.bq WW.cg WW.cd V
attribute [local go_sem] dN dO
attribute [local go_sem] cN cR cQ cU cP cT cO cS
def mH.f (k:Nat) (l0:List (S64)) (a1:Int):Option ((List (S64))×Bool):=(nC.f k l0).bind fun u=>(if u.2.2=true then((gw.f k l0 u.1 u.2.1 0 a1).bind fun z=>(some (z.1,z.2)))else((iL.f l0).bind fun D=>(some (D,false))))
theorem mH.c (k:Nat) (A0:Option Addr) (c0:Nat) (l0:List (S64)) (a1:Int) (r1:List (S64)) (r2:Bool) (w:World) (z:Kd.C aW w A0 l0.length l0) (hc0:l0.length≤c0) (h:mH.f k l0 a1=some (r1,r2)):
  Calls Tryz.prog 78 #[.slice A0 l0.length c0,.int .i64 a1] w fun e w'=>∃F:Value,e= .returned (.tuple #[F,.bool r2])∧Kd.R aW 64 w' w.heap.size (fun _=>True) F r1∧Below w.heap.size w w':=by
 replace z:=bn.mk z;replace hc0:=aq.mk hc0;unfold mH.f at h;have H:=Tryz.underlying62
 all_goals go_enter Tryz.func78,Tryz.ntmps78
 all_goals go_wp2_with ((first
  |((with_reducible refine ax (N:=6) rfl ?_);refine bV #[.int .i64 0,.int .i64 0] 62 fun g w1 j1 j2 I=> ?_)
  |(go_at_call 117;replace h:=bI h;obtain⟨⟨t1,t2,t3⟩,A,h⟩:=h;(try dsimp only at h);refine(nC.c _ _ _ _ _ _ _ _ Rd.out aq.out A).mono ?_;rintro e w2 ⟨rfl,hb⟩;have D:=az.mk hb;clear A hb)
  |(go_at_call 115;replace h:=bI h;obtain⟨⟨t1,t2⟩,A,h⟩:=h;(try dsimp only at h);refine(gw.c _ _ _ _ _ _ _ _ _ _ _ Rd.out aq.out A).mono ?_;rintro e w2 ⟨v0,rfl,u,hb⟩;obtain⟨G,b0,rfl,j0,q0⟩:=aQ u;have D:=az.mk hb;clear A u hb)
  |(go_at_call 69;replace h:=bI h;obtain⟨t,A,h⟩:=h;(try dsimp only at h);refine(iL.c _ _ _ _ _ Rd.out aq.out A).mono ?_;rintro e w2 ⟨v0,rfl,u,hb⟩;obtain⟨G,b0,rfl,j0,q0⟩:=aQ u;have D:=az.mk hb;clear A u hb));(repeat' first|((with_reducible replace h:=bU h);rcases h with ⟨hc,h⟩|⟨hc,h⟩<;>first|exact(bL h).elim|exact absurd hc (by decide)|subst hc|(replace hc:=bA hc;subst hc)|(have hd:=bQ hc;have he:=bR hc;clear hc)|(have hd:=bS hc;have he:=bT hc)|(have hd:=ay hc)|(have hd:=ah hc)|skip));all_goals(try have hn:decide (0<t.length)=true:=ah (by omega));all_goals(try have hn:decide (0<t.length)=false:=ay (by omega)))
 all_goals simp only[Option.some.injEq,Prod.mk.injEq]at h
 all_goals obtain⟨rfl,rfl⟩:=h
 all_goals go_ret2
 all_goals exact⟨_,rfl,(by first|exact bl|exact Kd.bj _ _ _ _ _),From.out⟩
end P
namespace S
open Go.RowKit Go.Sort P Q V WW.bq
attribute [local go_sem] dN dO
abbrev E:=S64
instance:Inhabited E:=⟨z64⟩
def eI (x:E):List Value:=[.int .i64 x.f0.f0,.int .i64 x.f0.f1,.int .i64 x.f1,.int .i64 x.f2]
abbrev wC (x:E):Value:= .agg #[.int .i64 x.f0.f0,.int .i64 x.f0.f1,.int .i64 x.f1,.int .i64 x.f2]
class fR (W:World) (a:Addr) (v:outParam Value):Prop where out:W.cell? a=some v
section
variable {w w0 W:World} {a:Addr} {v:Value} {o:Obj} {n:Nat}
theorem rE (h:fR W a v):a.block<W.heap.size:=World.block_lt_of_cell? W a h.out
instance [h:fR W a v]:fR (W.alloc o) a v:=⟨((cj (RowKit.Below.refl W.heap.size W) o).cell (rE h)).trans h.out⟩
instance [h:fR W a v]:fR W.drew a v:=⟨h.out⟩
instance [h:fR W a v]:fR (W.drewN n) a v:=⟨h.out⟩
instance [b:az w W] [h:fR w a v]:fR W a v:=⟨(b.out.cell (rE h)).trans h.out⟩
instance [b:gl w0 W] [h:fR w0 a v]:fR W a v:=⟨(b.out.cell (rE h)).trans h.out⟩
theorem xV (W:World) (a:Addr) {v:Value} [h:fR W a v]:W.cell? a=some v:=h.out
end
def lF (x:E):Prop:=x.f1=1∨x.f1=2
theorem rD {a b:Int} (h:a≠b):(a != b)=true:=bne_iff_ne.mpr h
theorem rC {a b:Int} (h:a=b):(a != b)=false:=bne_eq_false_iff_eq.mpr h
set_option maxHeartbeats 8000000 in
set_option maxRecDepth 100000 in
set_option synthInstance.maxHeartbeats 400000 in
set_option synthInstance.maxSize 100000 in
theorem B_ (a b:E) (w:World) (ha:lF a) (hb:lF b):
    Calls Tryz.prog 154 #[wC a,wC b] w fun e w'=>e= .returned (.bool (aK a b))∧Below w.heap.size w w':=by
  obtain⟨⟨a0,a1⟩,a2,a3⟩:=a;obtain⟨⟨b0,b1⟩,b2,b3⟩:=b;obtain⟨r,hr⟩:∃r,aK ⟨⟨a0,a1⟩,a2,a3⟩ ⟨⟨b0,b1⟩,b2,b3⟩=r:=⟨_,rfl⟩;rw[hr];unfold lF at ha hb;simp only at ha hb;unfold aK at hr;simp only at hr;have hu:=Tryz.underlying64;have u:=Tryz.underlying62;have eY:∀{p q s:Prop} [Decidable p] [Decidable q] [Decidable s],True:=fun{_ _ _} _ _ _=>trivial;clear eY;by_cases h1:a2=b2
  · rw[af h1]at hr;have h1:=rC h1;by_cases h2:a3=b3
    · rw[af h2]at hr;have h2:=rC h2;by_cases h3:a0=b0
      · rw[af h3]at hr;have h3:=rC h3;clear ha hb;go_enter Tryz.func154,Tryz.ntmps154;go_wp2;go_ret;exact⟨rfl,From.out⟩
      · rw[ag h3]at hr;have h3:=rD h3;clear ha hb;go_enter Tryz.func154,Tryz.ntmps154;go_wp2;go_ret;exact⟨rfl,From.out⟩
    · rw[ag h2]at hr;have h2:=rD h2;clear ha hb;go_enter Tryz.func154,Tryz.ntmps154;go_wp2;go_ret;exact⟨rfl,From.out⟩
  · rw[ag h1]at hr;have h4:(a2==2)=r:=(by rw[←hr,Bool.eq_iff_iff,beq_iff_eq,decide_eq_true_eq];omega);have h1:=rD h1;clear ha hb hr;go_enter Tryz.func154,Tryz.ntmps154;go_wp2;go_ret;exact⟨rfl,From.out⟩
structure dt where
  g:Nat
  bs:Nat
  n:Nat
  c:Nat
  lb:Array Value
  sb:Array Value
class dU (C:outParam dt):Prop where
  swap:SwapSwapsK Tryz.prog 189 C.sb eI 4 C.g 0 C.n
  small:C.n<50
  lb:C.lb= #[.pointer (some ⟨C.bs,0,none⟩)]
  ne:C.bs≠C.g
structure cq (C:dt) (W:World) (D:Array E):Prop where
  hold:HoldsK eI 4 W C.g 0 D
  size:D.size=C.n
  box:W.heap[C.bs]? =some (.cells #[.slice (some ⟨C.g,0,none⟩) C.n C.c] 28 (0,0))
  lt:C.g<W.heap.size
  shape:∃cur:Array Value,W.heap[C.g]? =some (.cells cur 64 (0,0))∧cur.size=C.c*4
  pK:∀x∈D,lF x
class So (C:outParam dt) (W:World) (D:outParam (Array E)):Prop where out:cq C W D
theorem cq.at_ {C:dt} {W:World} {D:Array E} (h:cq C W D) (i:Nat) (hi:i<C.n):
    W.cell? ⟨C.g,i*4,none⟩=some (.int .i64 D[i]!.f0.f0)∧W.cell? ⟨C.g,i*4+1,none⟩=some (.int .i64 D[i]!.f0.f1)∧W.cell? ⟨C.g,i*4+2,none⟩=some (.int .i64 D[i]!.f1)∧W.cell? ⟨C.g,i*4+3,none⟩=some (.int .i64 D[i]!.f2):=by
  have hi':i<D.size:=by rw[h.size];exact hi
  have c0:=(h.hold.cell (i:=i) (c:=0) hi' (by omega)).1;have c1:=(h.hold.cell (i:=i) (c:=1) hi' (by omega)).1;have c2:=(h.hold.cell (i:=i) (c:=2) hi' (by omega)).1;have c3:=(h.hold.cell (i:=i) (c:=3) hi' (by omega)).1;simp only[Nat.zero_add,Nat.add_zero]at c0 c1 c2 c3;exact⟨c0,c1,c2,c3⟩
theorem cq.ug {C:dt} {W:World} {D:Array E} (h:cq C W D) (i:Nat) (hi:i<C.n):lF D[i]! :=by
  have hi':i<D.size:=by rw[h.size];exact hi
  rw[getElem!_pos D i hi'];exact h.pK _ (Array.getElem_mem hi')
attribute [local go_sem] xV
set_option maxHeartbeats 8000000 in
set_option maxRecDepth 100000 in
set_option synthInstance.maxHeartbeats 400000 in
set_option synthInstance.maxSize 100000 in
theorem ux (C:dt) (w:World) (D:Array E) (h:cq C w D) (hlb:C.lb= #[.pointer (some ⟨C.bs,0,none⟩)]) (hn:C.n<50) (i j:Nat) (hi:i<C.n) (hj:j<C.n):
    Calls Tryz.prog 153 (#[.int .i64 i,.int .i64 j]++C.lb) w fun e w'=>e= .returned (.bool (aK D[i]! D[j]!))∧Below w.heap.size w w':=by
  obtain⟨i0,i1,i2,i3⟩:=h.at_ i hi;obtain⟨j0,j1,j2,z⟩:=h.at_ j hj;have fi:=h.ug i hi;have fj:=h.ug j hj;generalize D[i]! =x at*;generalize D[j]! =y at*;have u:=h.box;rw[hlb];obtain⟨g,bs,n,c,lb,sb⟩:=C;simp only at*;have F:aU w bs #[.slice (some ⟨g,0,none⟩) n c] 28:=⟨u⟩;have hs:=fun W=>B_ x y W fi fj;have HS:=ae.mk hs;have k0:=fR.mk i0;have k1:=fR.mk i1;have k2:=fR.mk i2;have k3:=fR.mk i3;have k4:=fR.mk j0;have I:=fR.mk j1;have J:=fR.mk j2;have K:=fR.mk z;clear i0 i1 i2 i3 j0 j1 j2 z;have hi1:(0:Int)≤(i:Int):=by omega
  have hi2:(i:Int)<(n:Int):=by omega
  have hj1:(0:Int)≤(j:Int):=by omega
  have hj2:(j:Int)<(n:Int):=by omega
  clear h hlb u hs fi fj hn hi hj;have hu:=Tryz.underlying64;go_enter Tryz.func153,Tryz.ntmps153;go_wp2;refine oJ ?_;intro w3 H
  go_region_held3 (fun w'=>gl w3 w') (first|exact⟨From.out⟩|skip) (first|(go_at_call 154;refine(HS.out _).mono ?_;rintro e w2 ⟨rfl,hb⟩;have G:=az.mk hb;clear hb))
  all_goals go_wp2
  all_goals go_ret
  all_goals exact⟨rfl,From.out⟩
end S
namespace S
open Go.RowKit Go.Sort P Q V WW.bq
class Ix (i:Int) (n:Nat):Prop where
  lo:0≤i
  hi:i<(n:Int)
theorem pF (x:E):(eI x).length=4:=rfl
def km (C:dt) (D:Array E) (W:World) (i j:Int):World:=(W.setCells C.g (0+i.toNat*4) (eI D[j.toNat]!)).setCells C.g (0+j.toNat*4) (eI D[i.toNat]!)
theorem sJ {C:dt} {W:World} {D:Array E} (h:cq C W D) (i j:Int) (hi:i.toNat<C.n) (hj:j.toNat<C.n):km C D W i j=putRowK eI 4 W C.g 0 (swp D i.toNat j.toNat):=by
  have:=swap_worldK eI 4 pF W 0 0 C.g 0 D i.toNat j.toNat (by rw[h.size];exact hi) (by rw[h.size];exact hj)
  rw[show((putRowK eI 4 (Sort.ahead W 0) C.g 0 D).drewN 0)=W by
    rw[show∀X:World,X.drewN 0=X from fun _=>rfl];exact putRowK_self eI 4 W C.g 0 D h.hold]at this
  exact this
theorem zP {D:Array E} {i j:Nat} {x:E} (h:x∈swp D i j) (hi:i<D.size) (hj:j<D.size):x∈D:=by
  obtain⟨k,hk,rfl⟩:=Array.mem_iff_getElem.mp h;have hk':k<D.size:=by simpa[size_swp]using hk
  rw[←getElem!_pos (swp D i j) k hk];by_cases e1:k=j
  · subst e1;rw[swp_right D i k hk',getElem!_pos D i hi];exact Array.getElem_mem hi
  · by_cases e2:k=i
    · subst e2;rw[swp_left D k j hk' e1,getElem!_pos D j hj];exact Array.getElem_mem hj
    · rw[swp_other D i j k e2 e1,getElem!_pos D k hk'];exact Array.getElem_mem hk'
theorem vu {W:World} {g:Nat} {D:Array E} {c:Nat} (h:∃cur:Array Value,W.heap[g]? =some (.cells cur 64 (0,0))∧cur.size=c):∃cur:Array Value,(putRowK eI 4 W g 0 D).heap[g]? =some (.cells cur 64 (0,0))∧cur.size=c:=by
  obtain⟨cur,hc,hs⟩:=h;refine⟨putCells id 0 (flatK eI 4 D) cur,?_,by simpa[putCells]using hs⟩;unfold putRowK putRow;rw[rZ,af rfl,hc];rfl
class Fr (C:outParam dt) (w0 W:World):Prop where out:w0.grownBy W (some C.g)
section
variable {C:dt} {w w0 W:World} {D:Array E} {o:Obj} {n x i:Nat} {v:Value} {cs:Array Value} {t:TypeId}
theorem cq.move (h:cq C w D) (hs:w.heap.size≤W.heap.size) (h1:W.heap[C.g]? =w.heap[C.g]?) (h2:W.heap[C.bs]? =w.heap[C.bs]?):cq C W D:=
  ⟨fun j hj=>by
    obtain⟨a,b⟩:=h.hold j hj;exact⟨(World.cell?_of_block (a:=⟨C.g,0+j,none⟩) h1).trans a,(World.frozen?_of_block (a:=⟨C.g,0+j,none⟩) h1).trans b⟩,h.size,h2.trans h.box,Nat.lt_of_lt_of_le h.lt hs,by rw[h1];exact h.shape,h.pK⟩
theorem cq.n9 (h:cq C W D):C.bs<W.heap.size:=eX h.box
theorem cq.below (h:cq C w D) (hb:RowKit.Below w.heap.size w W):cq C W D:=h.move hb.size (hb.block _ h.lt) (hb.block _ h.n9)
instance [h:So C W D]:So C (W.alloc o) D:=⟨h.out.below (cj (RowKit.Below.refl _ _) o)⟩
instance [h:So C W D]:So C W.drew D:=⟨h.out.below (cr (RowKit.Below.refl _ _))⟩
instance [h:So C W D]:So C (W.drewN n) D:=⟨h.out.below (dM (RowKit.Below.refl _ _) n)⟩
instance [b:az w W] [h:So C w D]:So C W D:=⟨h.out.below b.out⟩
instance [h:So C W D] [k:jC W x]:fc x C.g:=⟨by rw[k.out];exact Nat.ne_of_gt h.out.lt⟩
instance [h:So C W D] [k:jC W x]:fc x C.bs:=⟨by rw[k.out];exact Nat.ne_of_gt h.out.n9⟩
instance [h:So C W D] [k:fc x C.g] [l:fc x C.bs]:So C (W.setCell ⟨x,i,none⟩ v) D:=
  ⟨h.out.move (by simp) (Below.heap_setCell W ⟨x,i,none⟩ v _ (Ne.symm k.out)) (Below.heap_setCell W ⟨x,i,none⟩ v _ (Ne.symm l.out))⟩
theorem sK (h:cq C W D) (i j:Int) (hi:i.toNat<C.n) (hj:j.toNat<C.n):W.grownBy (km C D W i j) (some C.g):=by
  rw[sJ h i j hi hj];refine⟨rfl,rfl,rfl,by simp[putRowK],fun k hk hne=> ?_⟩;unfold putRowK putRow;rw[rZ,ag (fun hh=>hne (by rw[hh]))]
theorem kA {i:Int} {n:Nat} (h:Ix i n):i.toNat<n:=by have:=h.lo;have:=h.hi;omega
theorem BZ [g:dU C] (h:cq C W D) (i j:Int) (hi:i.toNat<C.n) (hj:j.toNat<C.n):cq C (km C D W i j) (swp D i.toNat j.toNat):=by
  have hg:=sK h i j hi hj;refine⟨?_,by rw[size_swp];exact h.size,(hg.block _ h.n9 (fun e=>g.ne (aH e))).trans h.box,Nat.lt_of_lt_of_le h.lt hg.size,by rw[sJ h i j hi hj];exact vu h.shape,fun x hx=>h.pK x (zP hx (by rw[h.size];exact hi) (by rw[h.size];exact hj))⟩;rw[sJ h i j hi hj];exact holdsK_putRowK eI 4 W C.g 0 D _ h.hold (size_swp _ _ _)
instance {i j:Int} [g:dU C] [h:So C W D] [a:Ix i C.n] [b:Ix j C.n]:So C (km C D W i j) (swp D i.toNat j.toNat):=⟨BZ h.out i j (kA a) (kA b)⟩
instance {i j:Int} [h:So C W D] [k:aU W x cs t] [l:fc x C.g] [a:Ix i C.n] [b:Ix j C.n]:aU (km C D W i j) x cs t:=⟨((sK h.out i j (kA a) (kA b)).block x (eX k.out) (fun e=>l.out (aH e))).trans k.out⟩
theorem wa (W:World) (i j:Int) [g:dU C] [h:So C W D] [a:Ix i C.n] [b:Ix j C.n]:(callFunc 189 (#[.int .i64 i,.int .i64 j]++C.sb)).run Tryz.prog W= .ok (.value (.tuple #[])) (km C D W i j):=by
  have:=g.swap W D h.out.hold h.out.size i.toNat j.toNat (kA a) (kA b);rw[show((i.toNat:Nat):Int)=i from Int.toNat_of_nonneg a.lo,show((j.toNat:Nat):Int)=j from Int.toNat_of_nonneg b.lo]at this;exact this
theorem rS [g:dU C] [h:So C W D] (i j:Int) [a:Ix i C.n] [b:Ix j C.n]:
    Calls Tryz.prog 153 (#[.int .i64 i,.int .i64 j]++C.lb) W fun e w'=>e= .returned (.bool (aK D[i.toNat]! D[j.toNat]!))∧RowKit.Below W.heap.size W w':=by
  have:=ux C W D h.out g.lb g.small i.toNat j.toNat (kA a) (kA b);rw[show((i.toNat:Nat):Int)=i from Int.toNat_of_nonneg a.lo,show((j.toNat:Nat):Int)=j from Int.toNat_of_nonneg b.lo]at this;exact this
class ct (D:Array E) (i j:Int) (b:outParam Bool):Prop where out:aK D[i.toNat]! D[j.toNat]! =b
theorem ct.of {D:Array E} {i j:Int} {b:Bool} {i' j':Nat} (h:aK D[i']! D[j']! =b) (hi:i=i') (hj:j=j'):ct D i j b:=⟨by rw[hi,hj,Int.toNat_natCast,Int.toNat_natCast];exact h⟩
theorem fA {b:Bool} [g:dU C] [h:So C W D] (i j:Int) [a:Ix i C.n] [k:Ix j C.n] [l:ct D i j b]:
    Calls Tryz.prog 153 (#[.int .i64 i,.int .i64 j]++C.lb) W fun e w'=>e= .returned (.bool b)∧RowKit.Below W.heap.size W w':=
  (rS i j).mono fun e w' h=>⟨by rw[h.1,l.out],h.2⟩
theorem ja {w0 w W:World} {r:Option Nat} (h:w0.grownBy w r) (k:w.grownBy W r):w0.grownBy W r:=
  ⟨k.os.trans h.os,k.tape.trans h.tape,k.output.trans h.output,Nat.le_trans h.size k.size,fun j hj hne=>(k.block j (Nat.lt_of_lt_of_le hj h.size) hne).trans (h.block j hj hne)⟩
theorem jJ {w W:World} {r:Option Nat} (h:RowKit.Below w.heap.size w W):w.grownBy W r:=⟨h.os,h.tape,h.output,h.size,fun j hj _=>h.block j hj⟩
instance [h:So C w D]:Fr C w w:=⟨jJ (RowKit.Below.refl _ _)⟩
instance [h:Fr C w W]:Fr C w (W.alloc o):=⟨ja h.out (jJ (cj (RowKit.Below.refl _ _) o))⟩
instance [h:Fr C w W]:Fr C w W.drew:=⟨ja h.out (jJ (cr (RowKit.Below.refl _ _)))⟩
instance [h:Fr C w W]:Fr C w (W.drewN n):=⟨ja h.out (jJ (dM (RowKit.Below.refl _ _) n))⟩
instance [b:az w W] [h:Fr C w0 w]:Fr C w0 W:=⟨ja h.out (jJ b.out)⟩
instance {i j:Int} [h:Fr C w0 W] [k:So C W D] [a:Ix i C.n] [b:Ix j C.n]:Fr C w0 (km C D W i j):=⟨ja h.out (sK k.out i j (kA a) (kA b))⟩
class Gb (C:outParam dt) (w:outParam World) (W:World):Prop where out:w.grownBy W (some C.g)
instance [b:Gb C w W] [h:Fr C w0 w]:Fr C w0 W:=⟨ja h.out b.out⟩
instance [b:Gb C w W] [h:aU w x cs t] [l:fc x C.g]:aU W x cs t:=⟨(b.out.block x (eX h.out) (fun e=>l.out (aH e))).trans h.out⟩
end
end S
namespace S
open Go.RowKit Go.Sort P Q V WW.bq
attribute [local go_sem] dN dO wa
abbrev ij (C:dt):Value:= .agg #[.func (.func 153) #[] C.lb,.func (.func 189) #[] C.sb]
set_option maxHeartbeats 8000000 in
set_option maxRecDepth 100000 in
set_option synthInstance.maxHeartbeats 400000 in
set_option synthInstance.maxSize 100000 in
theorem yS (C:dt) [dU C] (w:World) (D:Array E) (h:cq C w D) (a b:Nat) (hab:a≤b) (hb:b≤C.n):
    Calls Tryz.prog 191 #[ij C,.int .i64 a,.int .i64 b] w fun e w'=>e= .returned (.tuple #[])∧cq C w' (insertionSort aK D a b)∧w.grownBy w' (some C.g):=by
  have j0:=So.mk h;have hsm:=dU.small (C:=C);have U:fc w.heap.size C.g:=⟨Nat.ne_of_gt h.lt⟩;clear h;have hu:=Tryz.underlying184;go_enter Tryz.func191,Tryz.ntmps191;go_wp2
  go_loopw [6] (fun vi wr=>∃(i:Nat) (dk:Array E),vi= .int .i64 i∧ae (a<i)∧ae (i≤b+1)∧So C wr dk∧Fr C w wr∧aU wr w.heap.size #[.func (.func 153) #[] C.lb,.func (.func 189) #[] C.sb] 184∧ae (insOuter aK a b i dk=insOuter aK a b (a+1) D)) (fun vi _=>b+1-(intOf vi).toNat)
  case atStart=>exact⟨a+1,D,by go_num,⟨by omega⟩,⟨by omega⟩,inferInstance,inferInstance,⟨gF w _⟩,⟨rfl⟩⟩
  case round=>
    clear j0;obtain⟨i,dk,rfl,u,O,j1,j2,F,HO⟩:=hrel;by_cases hib:i<b
    · have I:decide ((i:Int)<(b:Int))=true:=ah (by omega);go_wp2
      go_loopw [7] (fun vj wr2=>∃(j:Nat) (dj:Array E),vj= .int .i64 j∧ae (a≤j)∧ae (j≤i)∧So C wr2 dj∧Fr C w wr2∧aU wr2 w.heap.size #[.func (.func 153) #[] C.lb,.func (.func 189) #[] C.sb] 184∧ae (insInner aK a j dj=insInner aK a i dk)) (fun vj _=>(intOf vj).toNat)
      case atStart=>exact⟨i,dk,rfl,⟨by have:=u.out;omega⟩,⟨Nat.le_refl _⟩,j1,j2,F,⟨rfl⟩⟩
      case round=>
        clear j1 j2 F;obtain⟨j,dj,rfl,G,H,j1,j2,F,z⟩:=hrel;have hjb:=H.out;have haj:=G.out;by_cases hja:a<j
        · have J:decide ((a:Int)<(j:Int))=true:=ah (by omega);have x1:Ix (j:Int) C.n:=⟨by omega,by omega⟩;have x2:Ix ((j:Int)-1) C.n:=⟨by omega,by omega⟩;have e1:((j:Int)-1).toNat=j-1:=(by omega);cases hl:aK dj[j]! dj[j-1]! with
          |true=>
           go_wp2_with (first|(go_at_call 153;refine(rS _ _).mono ?_;rintro e w2 ⟨he,hb⟩;rw[Int.toNat_natCast,e1,hl]at he;subst he;have K:=az.mk hb;clear hb))
           refine⟨⟨j-1,swp dj j (j-1),by congr 1;omega,⟨by omega⟩,⟨by omega⟩,?_,inferInstance,inferInstance,⟨?_⟩⟩,by simp[intOf];omega⟩
           · have k:So C (km C dj w2 (j:Int) ((j:Int)-1)) (swp dj (j:Int).toNat ((j:Int)-1).toNat):=inferInstance;rw[Int.toNat_natCast,e1]at k;exact k
           · rw[←z.out,insInner_go aK a j dj hja hl]
          |false=>
           go_wp2_with (first|(go_at_call 153;refine(rS _ _).mono ?_;rintro e w2 ⟨he,hb⟩;rw[Int.toNat_natCast,e1,hl]at he;subst he;have K:=az.mk hb;clear hb))
           refine⟨⟨i+1,dj,by go_num,⟨by have:=u.out;omega⟩,⟨by omega⟩,inferInstance,inferInstance,inferInstance,⟨?_⟩⟩,by simp[intOf];omega⟩;rw[←HO.out,insOuter_go aK a b i dk hib,←z.out,insInner_stop aK a j dj (.inr hl)]
        · have J:decide ((a:Int)<(j:Int))=false:=ay (by omega);go_wp2;refine⟨⟨i+1,dj,by go_num,⟨by have:=u.out;omega⟩,⟨by omega⟩,inferInstance,inferInstance,inferInstance,⟨?_⟩⟩,by simp[intOf];omega⟩;rw[←HO.out,insOuter_go aK a b i dk hib,←z.out,insInner_stop aK a j dj (.inl (by omega))]
    · have I:decide ((i:Int)<(b:Int))=false:=ay (by omega);go_wp2
      go_end0
      refine⟨rfl,?_,Fr.out⟩;have:=HO.out;rw[insOuter_stop aK a b i dk hib]at this;unfold insertionSort;rw[←this];exact So.out
abbrev dI (C:dt):Array Value:= #[.func (.func 153) #[] C.lb,.func (.func 189) #[] C.sb]
theorem eQ {C:dt} {W:World} {D D':Array E} (h:So C W D) (e:D=D'):cq C W D':=e▸h.out
set_option maxHeartbeats 8000000 in
set_option maxRecDepth 100000 in
set_option synthInstance.maxHeartbeats 400000 in
set_option synthInstance.maxSize 100000 in
theorem BU (C:dt) [dU C] (w:World) (D:Array E) (h:cq C w D) (lo hi first:Nat) (hf:first+hi≤C.n) (hlo:lo≤C.n):
    Calls Tryz.prog 199 #[ij C,.int .i64 lo,.int .i64 hi,.int .i64 first] w fun e w'=>e= .returned (.tuple #[])∧cq C w' (siftDown aK hi first lo D)∧w.grownBy w' (some C.g):=by
  have j0:=So.mk h;have hsm:=dU.small (C:=C);have J:fc w.heap.size C.g:=⟨Nat.ne_of_gt h.lt⟩;clear h;have hu:=Tryz.underlying184;go_enter Tryz.func199,Tryz.ntmps199;go_wp2
  go_loopw [8] (fun v wr=>∃(r:Nat) (dk:Array E),v= .int .i64 r∧ae (r≤C.n)∧So C wr dk∧Fr C w wr∧aU wr w.heap.size (dI C) 184∧ae (siftDown aK hi first r dk=siftDown aK hi first lo D)) (fun v _=>hi-(intOf v).toNat)
  case atStart=>exact⟨lo,D,rfl,⟨hlo⟩,inferInstance,inferInstance,⟨gF w _⟩,⟨rfl⟩⟩
  case round=>
    clear j0;obtain⟨r,dk,rfl,G,j1,j2,I,HO⟩:=hrel;have H:=G.out;have u:=HO.out;rw[siftDown]at u;by_cases c1:2*r+1≥hi
    · rw[dif_pos c1]at u;have u:=ae.mk u;have d1:decide ((hi:Int)≤2*(r:Int)+1)=true:=ah (by omega);go_wp2
      go_end0
      exact⟨rfl,eQ j1 u.out,Fr.out⟩
    rw[dif_neg c1]at u;have d1:decide ((hi:Int)≤2*(r:Int)+1)=false:=ay (by omega);have x1:Ix ((first:Int)+(2*(r:Int)+1)) C.n:=⟨by omega,by omega⟩;have x0:Ix ((first:Int)+(r:Int)) C.n:=⟨by omega,by omega⟩;by_cases c2:2*r+1+1<hi
    · have d2:decide (2*(r:Int)+1+1<(hi:Int))=true:=ah (by omega);have x2:Ix ((first:Int)+(2*(r:Int)+1)+1) C.n:=⟨by omega,by omega⟩;have x3:Ix ((first:Int)+(2*(r:Int)+1+1)) C.n:=⟨by omega,by omega⟩;cases l1:aK dk[first+(2*r+1)]! dk[first+(2*r+1)+1]! with
      |true=>
       have y1:ct dk ((first:Int)+(2*(r:Int)+1)) ((first:Int)+(2*(r:Int)+1)+1) true:=ct.of l1 (by omega) (by omega);rw[l1,ah c2,Bool.and_self,af rfl]at u;clear l1;cases l2:aK dk[first+r]! dk[first+(2*r+2)]! with
       |true=>
        have F:ct dk ((first:Int)+(r:Int)) ((first:Int)+(2*(r:Int)+1+1)) true:=ct.of l2 (by omega) (by omega);rw[l2,ag (by decide),dif_pos c2]at u;have u:=ae.mk u;clear l2
        go_wp2_with (first|(go_at_call 153;refine(fA _ _).mono ?_;rintro e w2 ⟨rfl,hb⟩;have z:=az.mk hb;clear hb))
        refine⟨⟨2*r+2,swp dk (first+r) (first+(2*r+2)),by first|rfl|(congr 1;omega),⟨by omega⟩,⟨eQ (D':=swp dk (first+r) (first+(2*r+2))) inferInstance (by first|rfl|(congr 1<;>omega))⟩,inferInstance,inferInstance,u⟩,by simp[intOf];omega⟩
       |false=>
        have F:ct dk ((first:Int)+(r:Int)) ((first:Int)+(2*(r:Int)+1+1)) false:=ct.of l2 (by omega) (by omega);rw[l2,af (by decide)]at u;have u:=ae.mk u;clear l2
        go_wp2_with (first|(go_at_call 153;refine(fA _ _).mono ?_;rintro e w2 ⟨rfl,hb⟩;have z:=az.mk hb;clear hb))
        ((try simp only[Exit.inBlock,Exit.then]);refine bodyPost_ret (results_none rfl _ _ _) rfl ?_)
        exact⟨rfl,eQ inferInstance u.out,Fr.out⟩
      |false=>
       have y1:ct dk ((first:Int)+(2*(r:Int)+1)) ((first:Int)+(2*(r:Int)+1)+1) false:=ct.of l1 (by omega) (by omega);rw[l1,Bool.and_false,ag (by decide)]at u;clear l1;cases l2:aK dk[first+r]! dk[first+(2*r+1)]! with
       |true=>
        have F:ct dk ((first:Int)+(r:Int)) ((first:Int)+(2*(r:Int)+1)) true:=ct.of l2 (by omega) (by omega);rw[l2,ag (by decide)]at u;have u:=ae.mk u;clear l2
        go_wp2_with (first|(go_at_call 153;refine(fA _ _).mono ?_;rintro e w2 ⟨rfl,hb⟩;have z:=az.mk hb;clear hb))
        refine⟨⟨2*r+1,swp dk (first+r) (first+(2*r+1)),by first|rfl|(congr 1;omega),⟨by omega⟩,⟨eQ (D':=swp dk (first+r) (first+(2*r+1))) inferInstance (by first|rfl|(congr 1<;>omega))⟩,inferInstance,inferInstance,u⟩,by simp[intOf];omega⟩
       |false=>
        have F:ct dk ((first:Int)+(r:Int)) ((first:Int)+(2*(r:Int)+1)) false:=ct.of l2 (by omega) (by omega);rw[l2,af (by decide)]at u;have u:=ae.mk u;clear l2
        go_wp2_with (first|(go_at_call 153;refine(fA _ _).mono ?_;rintro e w2 ⟨rfl,hb⟩;have z:=az.mk hb;clear hb))
        ((try simp only[Exit.inBlock,Exit.then]);refine bodyPost_ret (results_none rfl _ _ _) rfl ?_)
        exact⟨rfl,eQ inferInstance u.out,Fr.out⟩
    · have d2:decide (2*(r:Int)+1+1<(hi:Int))=false:=ay (by omega);rw[ay c2,Bool.false_and,ag (by decide)]at u;cases l2:aK dk[first+r]! dk[first+(2*r+1)]! with
      |true=>
       have F:ct dk ((first:Int)+(r:Int)) ((first:Int)+(2*(r:Int)+1)) true:=ct.of l2 (by omega) (by omega);rw[l2,ag (by decide)]at u;have u:=ae.mk u;clear l2
       go_wp2_with (first|(go_at_call 153;refine(fA _ _).mono ?_;rintro e w2 ⟨rfl,hb⟩;have z:=az.mk hb;clear hb))
       refine⟨⟨2*r+1,swp dk (first+r) (first+(2*r+1)),by first|rfl|(congr 1;omega),⟨by omega⟩,⟨eQ (D':=swp dk (first+r) (first+(2*r+1))) inferInstance (by first|rfl|(congr 1<;>omega))⟩,inferInstance,inferInstance,u⟩,by simp[intOf];omega⟩
      |false=>
       have F:ct dk ((first:Int)+(r:Int)) ((first:Int)+(2*(r:Int)+1)) false:=ct.of l2 (by omega) (by omega);rw[l2,af (by decide)]at u;have u:=ae.mk u;clear l2
       go_wp2_with (first|(go_at_call 153;refine(fA _ _).mono ?_;rintro e w2 ⟨rfl,hb⟩;have z:=az.mk hb;clear hb))
       ((try simp only[Exit.inBlock,Exit.then]);refine bodyPost_ret (results_none rfl _ _ _) rfl ?_)
       exact⟨rfl,eQ inferInstance u.out,Fr.out⟩
theorem vP {C:dt} {W:World} {D:Array E} [dU C] [h:So C W D] (lo' hi' first':Int) (lo hi first:Nat) (e1:lo'=lo) (e2:hi'=hi) (e3:first'=first) (hf:first+hi≤C.n) (hlo:lo≤C.n):
    Calls Tryz.prog 199 #[ij C,.int .i64 lo',.int .i64 hi',.int .i64 first'] W fun e w'=>e= .returned (.tuple #[])∧cq C w' (siftDown aK hi first lo D)∧W.grownBy w' (some C.g):=by
  subst e1 e2 e3;exact BU C W D h.out lo hi first hf hlo
set_option maxHeartbeats 8000000 in
set_option maxRecDepth 100000 in
set_option synthInstance.maxHeartbeats 400000 in
set_option synthInstance.maxSize 100000 in
theorem yH (C:dt) [dU C] (w:World) (D:Array E) (h:cq C w D) (a b:Nat) (hab:a≤b) (hb:b≤C.n):
    Calls Tryz.prog 192 #[ij C,.int .i64 a,.int .i64 b] w fun e w'=>e= .returned (.tuple #[])∧cq C w' (heapSort aK D a b)∧w.grownBy w' (some C.g):=by
  have j0:=So.mk h;have hsm:=dU.small (C:=C);have G:fc w.heap.size C.g:=⟨Nat.ne_of_gt h.lt⟩;clear h;have hu:=Tryz.underlying184
  have hq:Int.tdiv ((b:Int)-(a:Int)-1) 2=(((b-a-1)/2:Nat):Int):=by
    by_cases h0:b-a=0
    · rw[h0,show(b:Int)-(a:Int)-1= -1 by omega];decide
    · rw[show(b:Int)-(a:Int)-1=((b-a-1:Nat):Int)by omega];rfl
  go_enter Tryz.func192,Tryz.ntmps192;go_wp2
  go_loopw [9] (fun v wr=>∃(k:Nat) (z:Int) (dk:Array E),v= .int .i64 z∧ae (z=(k:Int)-1)∧ae (k≤(b-a-1)/2+1)∧So C wr dk∧Fr C w wr∧aU wr w.heap.size (dI C) 184∧ae (heapBuild aK (b-a) a k dk=heapBuild aK (b-a) a ((b-a-1)/2+1) D)) (fun v _=>(intOf v+1).toNat)
  case atStart=>
    refine⟨(b-a-1)/2+1,_,D,rfl,⟨?_⟩,⟨Nat.le_refl _⟩,inferInstance,inferInstance,⟨gF w _⟩,⟨rfl⟩⟩;omega
  case round=>
    clear j0;obtain⟨k,z,dk,rfl,u,HK,j1,j2,F,HO⟩:=hrel;have hz:=u.out;have hk:=HK.out;cases k with
    |succ m=>
     obtain rfl:z=(m:Int):=(by omega);have d1:decide (0≤(m:Int))=true:=ah (by omega);clear hq hz
     go_wp2_with (first|(go_at_call 199;refine(vP _ _ _ m (b-a) a rfl (by omega) rfl (by omega) (by omega)).mono ?_;rintro e w2 ⟨rfl,hs,hg⟩;have k1:=So.mk hs;have k2:=Gb.mk hg;clear hs hg))
     exact⟨⟨m,_,_,rfl,⟨rfl⟩,⟨by omega⟩,k1,inferInstance,inferInstance,⟨HO.out⟩⟩,by simp[intOf]⟩
    |zero=>
     obtain rfl:z= -1:=(by omega);have ho:dk=heapBuild aK (b-a) a ((b-a-1)/2+1) D:=HO.out;clear hq hz HO;go_wp2
     go_loopw [10] (fun v wr=>∃(k:Nat) (z:Int) (dj:Array E),v= .int .i64 z∧ae (z=(k:Int)-1)∧ae (k≤b-a)∧So C wr dj∧Fr C w wr∧aU wr w.heap.size (dI C) 184∧ae (heapPop aK a k dj=heapSort aK D a b)) (fun v _=>(intOf v+1).toNat)
     case atStart=>exact⟨b-a,_,dk,rfl,⟨by omega⟩,⟨Nat.le_refl _⟩,j1,j2,F,⟨by rw[ho];rfl⟩⟩
     case round=>
       clear j1 j2 F u HK ho hk;obtain⟨k,z,dj,rfl,u,HK,j1,j2,F,HO⟩:=hrel;have hz:=u.out;have hk:=HK.out;cases k with
       |succ m=>
        obtain rfl:z=(m:Int):=(by omega);have d1:decide (0≤(m:Int))=true:=ah (by omega);have x1:Ix (a:Int) C.n:=⟨by omega,by omega⟩;have x2:Ix ((a:Int)+(m:Int)) C.n:=⟨by omega,by omega⟩;clear hz
        go_wp2_with (first|(go_at_call 199;refine(vP _ _ _ 0 m a rfl rfl rfl (by omega) (by omega)).mono ?_;rintro e w2 ⟨rfl,hs,hg⟩;have k1:=So.mk hs;have k2:=Gb.mk hg;clear hs hg))
        refine⟨⟨m,_,_,rfl,⟨rfl⟩,⟨by omega⟩,⟨eQ (D':=siftDown aK m a 0 (swp dj a (a+m))) k1 (by first|rfl|(congr 2<;>omega))⟩,inferInstance,inferInstance,⟨HO.out⟩⟩,by simp[intOf]⟩
       |zero=>
        obtain rfl:z= -1:=(by omega);have ho:dj=heapSort aK D a b:=HO.out;clear hz;go_wp2
        go_end0
        exact⟨rfl,eQ j1 ho,Fr.out⟩
class Fx (x:outParam Nat) (w0 W:World):Prop where out:w0.grownBy W (some x)
class Gx (x:outParam Nat) (w:outParam World) (W:World):Prop where out:w.grownBy W (some x)
section
variable {C:dt} {w w0 W:World} {D:Array E} {o:Obj} {n x y i:Nat} {v:Value} {cs:Array Value} {t:TypeId}
instance [h:Fx x w W]:Fx x w (W.alloc o):=⟨ja h.out (jJ (cj (RowKit.Below.refl _ _) o))⟩
instance [h:Fx x w W]:Fx x w W.drew:=⟨ja h.out (jJ (cr (RowKit.Below.refl _ _)))⟩
instance [h:Fx x w W]:Fx x w (W.drewN n):=⟨ja h.out (jJ (dM (RowKit.Below.refl _ _) n))⟩
instance [b:az w W] [h:Fx x w0 w]:Fx x w0 W:=⟨ja h.out (jJ b.out)⟩
instance [b:Gx x w W] [h:Fx x w0 w]:Fx x w0 W:=⟨ja h.out b.out⟩
instance [h:Fx x w W]:Fx x w (W.setCell ⟨x,i,none⟩ v):=⟨ja h.out ⟨rfl,rfl,rfl,by simp,fun k _ hk=>Below.heap_setCell W ⟨x,i,none⟩ v k (fun e=>hk (by rw[e]))⟩⟩
instance [b:Gx x w W] [h:aU w y cs t] [l:fc y x]:aU W y cs t:=⟨(b.out.block y (eX h.out) (fun e=>l.out (aH e))).trans h.out⟩
instance [b:Gx x w W] [h:From w0 w] [l:Nw w0 x]:From w0 W:=⟨h.out.grown b.out h.out.size (fun k hk=>by cases hk;exact l.out)⟩
end
set_option maxHeartbeats 8000000 in
set_option maxRecDepth 100000 in
set_option synthInstance.maxHeartbeats 400000 in
set_option synthInstance.maxSize 100000 in
theorem Aq (C:dt) [dU C] (w:World) (D:Array E) (h:cq C w D) (a b:Int) (ha:Ix a C.n) (hb:Ix b C.n) (x:Nat) (s:Int) (hs:0≤s) (hs2:s≤100) (hx:w.heap[x]? =some (.cells #[.int .i64 s] 3 (0,0))) (hg:x≠C.g) (u:x≠C.bs):
    Calls Tryz.prog 204 #[ij C,.int .i64 a,.int .i64 b,.pointer (some ⟨x,0,none⟩)] w fun e w'=>∃r1 r2 s':Int,e= .returned (.tuple #[.int .i64 r1,.int .i64 r2])∧((r1=a∧r2=b)∨(r1=b∧r2=a))∧0≤s'∧s'≤s+1∧cq C w' D∧w'.heap[x]? =some (.cells #[.int .i64 s'] 3 (0,0))∧w.grownBy w' (some x):=by
  have j0:=So.mk h;have hxl:x<w.heap.size:=eX hx;have jn:fc w.heap.size x:=⟨by omega⟩;have H:fc x w.heap.size:=⟨by omega⟩;have G:fc x C.g:=⟨hg⟩;have z:fc x C.bs:=⟨u⟩;have I:=aU.mk hx;have F:Fx x w w:=⟨jJ (RowKit.Below.refl _ _)⟩;have J:=fun o:Obj=>gF w o;clear h hx hg u hxl;have hu:=Tryz.underlying184;cases l:aK D[b.toNat]! D[a.toNat]! with
  |true=>
   have y1:ct D b a true:=⟨l⟩;clear l;go_enter Tryz.func204,Tryz.ntmps204
   go_wp2_with (first|(go_at_call 153;refine(fA _ _).mono ?_;rintro e w2 ⟨rfl,hb⟩;have z:=az.mk hb;clear hb))
   go_ret2;exact⟨b,a,s+1,rfl,.inr ⟨rfl,rfl⟩,by omega,by omega,So.out,aU.out,Fx.out⟩
  |false=>
   have y1:ct D b a false:=⟨l⟩;clear l;go_enter Tryz.func204,Tryz.ntmps204
   go_wp2_with (first|(go_at_call 153;refine(fA _ _).mono ?_;rintro e w2 ⟨rfl,hb⟩;have z:=az.mk hb;clear hb))
   go_ret2;exact⟨a,b,s,rfl,.inl ⟨rfl,rfl⟩,by omega,by omega,So.out,aU.out,Fx.out⟩
theorem y5 {r1 r2 a b:Int} {n:Nat} (h:(r1=a∧r2=b)∨(r1=b∧r2=a)) (ha:Ix a n) (hb:Ix b n):Ix r1 n∧Ix r2 n:=by
  rcases h with ⟨rfl,rfl⟩|⟨rfl,rfl⟩
  · exact⟨ha,hb⟩
  · exact⟨hb,ha⟩
set_option maxHeartbeats 8000000 in
set_option maxRecDepth 100000 in
set_option synthInstance.maxHeartbeats 400000 in
set_option synthInstance.maxSize 100000 in
theorem zN (C:dt) [dU C] (w:World) (D:Array E) (h:cq C w D) (a b c:Int) (ha:Ix a C.n) (hb:Ix b C.n) (hc:Ix c C.n) (x:Nat) (s:Int) (hs:0≤s) (hs2:s≤90) (hx:w.heap[x]? =some (.cells #[.int .i64 s] 3 (0,0))) (hg:x≠C.g) (u:x≠C.bs):
    Calls Tryz.prog 203 #[ij C,.int .i64 a,.int .i64 b,.int .i64 c,.pointer (some ⟨x,0,none⟩)] w fun e w'=>∃r s':Int,e= .returned (.int .i64 r)∧(r=a∨r=b∨r=c)∧cq C w' D∧w'.heap[x]? =some (.cells #[.int .i64 s'] 3 (0,0))∧w.grownBy w' (some x):=by
  have j0:=So.mk h;have hxl:x<w.heap.size:=eX hx;have F:fc w.heap.size x:=⟨by omega⟩;have G:=aU.mk hx;have z:Fx x w w:=⟨jJ (RowKit.Below.refl _ _)⟩;have I:=aU.mk (gF w (.cells (dI C) 184));have H:aU (w.alloc (.cells (dI C) 184)) x #[.int .i64 s] 3:=⟨aN hx _⟩;clear h hx hxl;have hu:=Tryz.underlying184;go_enter Tryz.func203,Tryz.ntmps203
  go_wp2_with (first|(go_at_call 204;refine(Aq C _ _ So.out _ _ inferInstance inferInstance x _ (by omega) (by omega) aU.out hg u).mono ?_;rintro e w2 ⟨r1,r2,s2,rfl,hr,h1,h2,h3,h4,h5⟩;obtain⟨i1,i2⟩:=y5 (n:=C.n) hr inferInstance inferInstance;have k1:=So.mk h3;have k2:=aU.mk h4;have k3:=Gx.mk h5;clear h3 h4 h5))
  go_ret;refine⟨_,_,rfl,?_,So.out,aU.out,Fx.out⟩;omega
set_option maxHeartbeats 8000000 in
set_option maxRecDepth 100000 in
set_option synthInstance.maxHeartbeats 400000 in
set_option synthInstance.maxSize 100000 in
theorem xX (C:dt) [dU C] (w:World) (D:Array E) (h:cq C w D) (a b:Nat) (hab:a<b) (hb:b≤C.n):
    Calls Tryz.prog 194 #[ij C,.int .i64 a,.int .i64 b] w fun e w'=>∃p k:Int,e= .returned (.tuple #[.int .i64 p,.int .i64 k])∧a≤p∧p<b∧(k=0∨k=1∨k=2)∧RowKit.Below w.heap.size w w':=by
  have j0:=So.mk h;have u:=h.lt;have hbl:=h.n9;have hsm:=dU.small (C:=C);obtain⟨q,hq⟩:∃q:Int,Int.tdiv ((b:Int)-(a:Int)) 4=q:=⟨_,rfl⟩
  have hq1:0≤q∧4*q≤(b:Int)-a:=by
    rw[←hq,show(b:Int)-(a:Int)=((b-a:Nat):Int)by omega];have:Int.tdiv (((b-a:Nat)):Int) 4=(((b-a)/4:Nat):Int):=rfl;rw[this];omega
  have F:=aU.mk (gF w (.cells (dI C) 184));have z:aU ((w.alloc (.cells (dI C) 184)).alloc (.cells #[.int .i64 0] 3)) (w.heap.size+1) #[.int .i64 0] 3:=⟨by have:=gF (w.alloc (.cells (dI C) 184)) (.cells #[.int .i64 0] 3);simpa using this⟩;have jn:Nw w (w.heap.size+1):=⟨by omega⟩;have hu:=Tryz.underlying184;have d2:decide (50≤(b:Int)-(a:Int))=false:=ay (by omega);by_cases h8:8≤(b:Int)-(a:Int)
  · have d1:decide (8≤(b:Int)-(a:Int))=true:=ah h8;have x1:Ix ((a:Int)+q) C.n:=⟨by omega,by omega⟩;have x2:Ix ((a:Int)+q*2) C.n:=⟨by omega,by omega⟩;have x3:Ix ((a:Int)+q*3) C.n:=⟨by omega,by omega⟩;go_enter Tryz.func194,Tryz.ntmps194
    go_wp2_with (first|(go_at_call 203;refine(zN C _ _ So.out _ _ _ inferInstance inferInstance inferInstance (w.heap.size+1) _ (by omega) (by omega) aU.out (by omega) (by omega)).mono ?_;rintro e w2 ⟨r,s2,rfl,hr,h3,h4,h5⟩;have k1:=So.mk h3;have k2:=aU.mk h4;have k3:=Gx.mk h5;clear h3 h4 h5))
    all_goals go_ret2
    all_goals exact⟨_,_,rfl,by omega,by omega,by omega,From.out⟩
  · have d1:decide (8≤(b:Int)-(a:Int))=false:=ay h8;go_enter Tryz.func194,Tryz.ntmps194;go_wp2
    all_goals go_ret2
    all_goals exact⟨_,_,rfl,by omega,by omega,by omega,From.out⟩
theorem AG {lt:E→E→Bool} {a b:Nat} {D:Array E} (h:b-a<50):partialInsertionSort lt D a b=(D,decide (scanSorted lt D b (a+1)=b)):=by
  unfold partialInsertionSort;rw[partialIns];by_cases hb:scanSorted lt D b (a+1)=b
  · simp[hb]
  · simp[hb,h]
set_option maxHeartbeats 8000000 in
set_option maxRecDepth 100000 in
set_option synthInstance.maxHeartbeats 400000 in
set_option synthInstance.maxSize 100000 in
theorem AE (C:dt) [dU C] (w:World) (D:Array E) (h:cq C w D) (a b:Nat) (hab:a<b) (hb:b≤C.n):
    Calls Tryz.prog 196 #[ij C,.int .i64 a,.int .i64 b] w fun e w'=>∃r:Bool,e= .returned (.bool r)∧partialInsertionSort aK D a b=(D,r)∧RowKit.Below w.heap.size w w':=by
  have j0:=So.mk h;have hsm:=dU.small (C:=C);have z:=ae.mk (AG (lt:=aK) (D:=D) (show b-a<50 by omega));have F:=gF w (.cells (dI C) 184);have d50:decide ((b:Int)-(a:Int)<50)=true:=ah (by omega);clear h;have hu:=Tryz.underlying184;go_enter Tryz.func196,Tryz.ntmps196;go_wp2
  go_loopw [7,8] (fun v7 v8 wr=>v7= .int .i64 ((a:Int)+1)∧v8= .int .i64 0∧So C wr D∧From w wr∧aU wr w.heap.size (dI C) 184) (fun _ _ _=>0)
  case atStart=>exact⟨rfl,rfl,inferInstance,inferInstance,⟨F⟩⟩
  case round=>
    clear j0 F;obtain⟨rfl,rfl,j1,j2,u⟩:=hrel;go_wp2
    go_loopw [7] (fun v7 wr=>∃i:Nat,v7= .int .i64 i∧ae (a<i)∧ae (i≤b)∧So C wr D∧From w wr∧aU wr w.heap.size (dI C) 184∧ae (scanSorted aK D b i=scanSorted aK D b (a+1))) (fun v _=>b-(intOf v).toNat)
    case atStart=>exact⟨a+1,by go_num,⟨by omega⟩,⟨by omega⟩,j1,j2,u,⟨rfl⟩⟩
    case round=>
      clear j1 j2 u;obtain⟨i,rfl,G,H,j1,j2,u,HO⟩:=hrel;have J:=G.out;have hib:=H.out;by_cases c1:i<b
      · have d1:decide ((i:Int)<(b:Int))=true:=ah (by omega);have d3:((i:Int)==(b:Int))=false:=beq_eq_false_iff_ne.mpr (by omega);have x1:Ix (i:Int) C.n:=⟨by omega,by omega⟩;have x2:Ix ((i:Int)-1) C.n:=⟨by omega,by omega⟩;cases l:aK D[i]! D[i-1]! with
        |true=>
         have y1:ct D (i:Int) ((i:Int)-1) true:=ct.of l rfl (by omega);have hs:=ae.mk (scanSorted_stop (lt:=aK) D b i (.inr l));clear l
         go_wp2_with (first|(go_at_call 153;refine(fA _ _).mono ?_;rintro e w2 ⟨rfl,hb⟩;have I:=az.mk hb;clear hb))
         go_ret;refine⟨false,rfl,?_,From.out⟩;rw[z.out,←HO.out,hs.out,ay (by omega)]
        |false=>
         have y1:ct D (i:Int) ((i:Int)-1) false:=ct.of l rfl (by omega);have hs:=ae.mk (scanSorted_go (lt:=aK) D b i c1 l);clear l
         go_wp2_with (first|(go_at_call 153;refine(fA _ _).mono ?_;rintro e w2 ⟨rfl,hb⟩;have I:=az.mk hb;clear hb))
         exact⟨⟨i+1,by go_num,⟨by omega⟩,⟨by omega⟩,inferInstance,inferInstance,inferInstance,⟨by rw[←HO.out,hs.out]⟩⟩,by simp[intOf];omega⟩
      · have d1:decide ((i:Int)<(b:Int))=false:=ay (by omega);obtain rfl:i=b:=(by omega);have hs:=ae.mk (scanSorted_stop (lt:=aK) D i i (.inl (by omega)));go_wp2;go_ret;refine⟨true,rfl,?_,From.out⟩;rw[z.out,←HO.out,hs.out,ah rfl]
theorem uT (D:Array E) (a b p i j:Nat) (hi:scanUp (fun x=>aK x (swp D a p)[a]!) (swp D a p) (b-1) (a+1)=i) (hj:scanDown (fun x=> !aK x (swp D a p)[a]!) (swp D a p) i (b-1)=j) (h:i>j):
    partition aK D a b p=(j,true,swp (swp D a p) j a):=by
  unfold partition;simp only[hi,hj,af h]
theorem AP (D:Array E) (a b p i j:Nat) (hi:scanUp (fun x=>aK x (swp D a p)[a]!) (swp D a p) (b-1) (a+1)=i) (hj:scanDown (fun x=> !aK x (swp D a p)[a]!) (swp D a p) i (b-1)=j) (h:¬i>j):
    partition aK D a b p=((partLoop aK a (i+1) (j-1) (swp (swp D a p) i j)).1,false,swp (partLoop aK a (i+1) (j-1) (swp (swp D a p) i j)).2 (partLoop aK a (i+1) (j-1) (swp (swp D a p) i j)).1 a):=by
  unfold partition;simp only[hi,hj,ag h]
set_option maxHeartbeats 16000000 in
set_option maxRecDepth 100000 in
set_option synthInstance.maxHeartbeats 400000 in
set_option synthInstance.maxSize 100000 in
theorem AL (C:dt) [dU C] (w:World) (D:Array E) (h:cq C w D) (a b p:Nat) (hap:a≤p) (hpb:p<b) (hb:b≤C.n):
    Calls Tryz.prog 198 #[ij C,.int .i64 a,.int .i64 b,.int .i64 p] w fun e w'=>e= .returned (.tuple #[.int .i64 (partition aK D a b p).1,.bool (partition aK D a b p).2.1])∧cq C w' (partition aK D a b p).2.2∧w.grownBy w' (some C.g):=by
  have j0:=So.mk h;have hsm:=dU.small (C:=C);have aJ:fc w.heap.size C.g:=⟨Nat.ne_of_gt h.lt⟩;have aI:=aU.mk (gF w (.cells (dI C) 184));have aL:Ix (a:Int) C.n:=⟨by omega,by omega⟩;have aM:Ix (p:Int) C.n:=⟨by omega,by omega⟩;obtain⟨R,G⟩:∃R,partition aK D a b p=R:=⟨_,rfl⟩;rw[G];have G:=ae.mk G.symm;clear h;have hu:=Tryz.underlying184;go_enter Tryz.func198,Tryz.ntmps198;go_wp2;have aE:So C (km C D (w.alloc (.cells (dI C) 184)) (a:Int) (p:Int)) (swp D a p):=⟨eQ (D':=swp D a p) inferInstance rfl⟩;have aC:Fr C w (km C D (w.alloc (.cells (dI C) 184)) (a:Int) (p:Int)):=inferInstance;have aF:aU (km C D (w.alloc (.cells (dI C) 184)) (a:Int) (p:Int)) w.heap.size (dI C) 184:=inferInstance;clear j0 aI
  go_loopw [10] (fun v wr=>∃i1:Nat,v= .int .i64 i1∧ae (a<i1)∧ae (i1≤b-1+1)∧So C wr (swp D a p)∧Fr C w wr∧aU wr w.heap.size (dI C) 184∧ae (scanUp (fun x=>aK x (swp D a p)[a]!) (swp D a p) (b-1) i1=scanUp (fun x=>aK x (swp D a p)[a]!) (swp D a p) (b-1) (a+1))) (fun v _=>b-1+1-(intOf v).toNat)
  case atStart=>exact⟨a+1,by first|rfl|go_num,⟨by omega⟩,⟨by omega⟩,inferInstance,inferInstance,inferInstance,⟨rfl⟩⟩
  case round=>
    clear aE aF aC;obtain⟨i1,rfl,am,ap,m1,m2,m3,z⟩:=hrel;have ha1:=am.out;have hb1:=ap.out;have x2:Ix (a:Int) C.n:=⟨by omega,by omega⟩;by_cases c1:i1≤b-1∧aK (swp D a p)[i1]! (swp D a p)[a]! =true
    · obtain⟨c1,l⟩:=c1;have d1:decide ((i1:Int)≤(b:Int)-1)=true:=ah (by omega);have x1:Ix (i1:Int) C.n:=⟨by omega,by omega⟩;have y1:ct (swp D a p) (i1:Int) (a:Int) true:=ct.of l rfl rfl;have hs:=ae.mk (scanUp_go (fun x=>aK x (swp D a p)[a]!) (swp D a p) (b-1) i1 c1 l);clear l
      go_wp2_with (first|(go_at_call 153;refine(fA _ _).mono ?_;rintro e w2 ⟨rfl,hb⟩;have J:=az.mk hb;clear hb))
      first
        |exact⟨⟨i1+1,by first|rfl|go_num,⟨by omega⟩,⟨by omega⟩,inferInstance,inferInstance,inferInstance,⟨by rw[←z.out,hs.out]⟩⟩,by simp[intOf];omega⟩
        |(go_roundw;(case rel=>((repeat apply Exists.intro);exact⟨⟨i1+1,by first|rfl|go_num,⟨by omega⟩,⟨by omega⟩,inferInstance,inferInstance,inferInstance,⟨by rw[←z.out,hs.out]⟩⟩,(by first|rfl|(simp only[Int.natCast_add,Int.natCast_one];rfl)|(simp only[Int.natCast_add,Int.natCast_one,I];rfl))⟩));(case measure=>first|(simp[intOf];omega)|(simp[intOf];done)))
    · have X:ae (scanUp (fun x=>aK x (swp D a p)[a]!) (swp D a p) (b-1) (a+1)=i1):=⟨by
        rw[←z.out];refine scanUp_end (fun x=>aK x (swp D a p)[a]!) (swp D a p) (b-1) i1 ?_;by_cases c:i1≤b-1
        · refine .inr ?_
          have:aK (swp D a p)[i1]! (swp D a p)[a]! =false:=by
            cases h:aK (swp D a p)[i1]! (swp D a p)[a]! with
            |true=>exact absurd ⟨c,h⟩ c1
            |false=>rfl
          simp[this]
        · exact .inl c⟩
      have step:(i1≤b-1∧aK (swp D a p)[i1]! (swp D a p)[a]! =false)∨¬i1≤b-1:=by
        by_cases c:i1≤b-1
        · refine .inl ⟨c,?_⟩;cases h:aK (swp D a p)[i1]! (swp D a p)[a]! with
          |true=>exact absurd ⟨c,h⟩ c1
          |false=>rfl
        · exact .inr c
      clear c1 z;rcases step with ⟨c1,l⟩|c1
      · have d1:decide ((i1:Int)≤(b:Int)-1)=true:=ah (by omega);have x1:Ix (i1:Int) C.n:=⟨by omega,by omega⟩;have y1:ct (swp D a p) (i1:Int) (a:Int) false:=ct.of l rfl rfl;have ad:=ae.mk l;clear l
        go_wp2_with (first|(go_at_call 153;refine(fA _ _).mono ?_;rintro e w2 ⟨rfl,hb⟩;have J:=az.mk hb;clear hb))
        clear d1
        go_loopw [11] (fun v wr=>∃j1:Nat,v= .int .i64 j1∧ae (i1≤j1+1)∧ae (j1≤b-1)∧So C wr (swp D a p)∧Fr C w wr∧aU wr w.heap.size (dI C) 184∧ae (scanDown (fun x=> !aK x (swp D a p)[a]!) (swp D a p) i1 j1=scanDown (fun x=> !aK x (swp D a p)[a]!) (swp D a p) i1 (b-1))) (fun v _=>(intOf v).toNat)
        case atStart=>exact⟨b-1,by first|rfl|(congr 1;omega),⟨by omega⟩,⟨by omega⟩,inferInstance,inferInstance,inferInstance,⟨rfl⟩⟩
        case round=>
          clear m1 m2 m3;obtain⟨j1,rfl,ai,ak,n1,n2,n3,z⟩:=hrel;have hc1:=ai.out;have hd1:=ak.out;by_cases c2:i1≤j1∧aK (swp D a p)[j1]! (swp D a p)[a]! =false
          · obtain⟨c2,l⟩:=c2;have d2:decide ((i1:Int)≤(j1:Int))=true:=ah (by omega);have H:decide (i1≤j1)=true:=ah (by omega);have x3:Ix (j1:Int) C.n:=⟨by omega,by omega⟩;have Z:ct (swp D a p) (j1:Int) (a:Int) false:=ct.of l rfl rfl;have hs:=ae.mk (scanDown_go (fun x=> !aK x (swp D a p)[a]!) (swp D a p) i1 j1 c2 (by omega) (by simp[l]));clear l
            go_wp2_with (first|(go_at_call 153;refine(fA _ _).mono ?_;rintro e w2 ⟨rfl,hb⟩;have J:=az.mk hb;clear hb))
            have I:((j1-1:Nat):Int)=(j1:Int)-1:=by omega
            first
              |exact⟨⟨j1-1,by first|rfl|(congr 1;omega),⟨by omega⟩,⟨by omega⟩,inferInstance,inferInstance,inferInstance,⟨by rw[←z.out,hs.out]⟩⟩,by simp[intOf];omega⟩
              |(go_roundw;(case rel=>((repeat apply Exists.intro);exact⟨⟨j1-1,by first|rfl|(congr 1;omega),⟨by omega⟩,⟨by omega⟩,inferInstance,inferInstance,inferInstance,⟨by rw[←z.out,hs.out]⟩⟩,(by first|rfl|(simp only[Int.natCast_add,Int.natCast_one];rfl)|(simp only[Int.natCast_add,Int.natCast_one,I];rfl))⟩));(case measure=>first|(simp[intOf];omega)|(simp[intOf];done)))
          · have Y:ae (scanDown (fun x=> !aK x (swp D a p)[a]!) (swp D a p) i1 (b-1)=j1):=⟨by
              rw[←z.out];refine scanDown_end (fun x=> !aK x (swp D a p)[a]!) (swp D a p) i1 j1 ?_;by_cases c:i1≤j1
              · refine .inr ?_
                have:aK (swp D a p)[j1]! (swp D a p)[a]! =true:=by
                  cases h:aK (swp D a p)[j1]! (swp D a p)[a]! with
                  |false=>exact absurd ⟨c,h⟩ c2
                  |true=>rfl
                simp[this]
              · exact .inl c⟩
            have step:(i1≤j1∧aK (swp D a p)[j1]! (swp D a p)[a]! =true)∨¬i1≤j1:=by
              by_cases c:i1≤j1
              · refine .inl ⟨c,?_⟩;cases h:aK (swp D a p)[j1]! (swp D a p)[a]! with
                |false=>exact absurd ⟨c,h⟩ c2
                |true=>rfl
              · exact .inr c
            clear c2 z;rcases step with ⟨c2,l⟩|c2
            · have d2:decide ((i1:Int)≤(j1:Int))=true:=ah (by omega);have H:decide (i1≤j1)=true:=ah (by omega);have d3:decide ((j1:Int)<(i1:Int))=false:=ay (by omega);have K:decide (j1<i1)=false:=ay (by omega);have x3:Ix (j1:Int) C.n:=⟨by omega,by omega⟩;have x1:Ix (i1:Int) C.n:=⟨by omega,by omega⟩;have Z:ct (swp D a p) (j1:Int) (a:Int) true:=ct.of l rfl rfl
              have hge:a+1≤i1:=by
                have:=scanUp_ge (fun x=>aK x (swp D a p)[a]!) (swp D a p) (b-1) (a+1);rw[X.out]at this;exact this
              have hne:i1≠j1:=by
                rintro rfl;have:=ad.out;rw[l]at this;cases this
              clear l
              go_wp2_with (first|(go_at_call 153;refine(fA _ _).mono ?_;rintro e w2 ⟨rfl,hb⟩;have J:=az.mk hb;clear hb))
              have V:=ae.mk (AP D a b p i1 j1 X.out Y.out (by omega))
              go_loopw [10,11] (fun v u wr=>∃(i j:Nat) (dk:Array E),v= .int .i64 i∧u= .int .i64 j∧ae (a<i)∧ae (i≤j+1)∧ae (j<b)∧So C wr dk∧Fr C w wr∧aU wr w.heap.size (dI C) 184∧ae (partLoop aK a i j dk=partLoop aK a (i1+1) (j1-1) (swp (swp D a p) i1 j1))) (fun v u _=>(intOf u).toNat+1-(intOf v).toNat)
              case atStart=>exact⟨i1+1,j1-1,swp (swp D a p) i1 j1,by go_num,by congr 1;omega,⟨by omega⟩,⟨by omega⟩,⟨by omega⟩,⟨eQ (D':=swp (swp D a p) i1 j1) inferInstance rfl⟩,inferInstance,inferInstance,⟨rfl⟩⟩
              case round=>
                clear n1 n2 n3 d2 d3 H K Z x1 x3;obtain⟨i,j,dk,rfl,rfl,ar,au,aw,ax,aA,aB,HO⟩:=hrel;have hp:=ar.out;have hq:=au.out;have hr:=aw.out;go_wp2
                go_loopw [10] (fun v wr=>∃i2:Nat,v= .int .i64 i2∧ae (a<i2)∧ae (i2≤j+1)∧So C wr dk∧Fr C w wr∧aU wr w.heap.size (dI C) 184∧ae (scanUp (fun x=>aK x dk[a]!) dk (j) i2=scanUp (fun x=>aK x dk[a]!) dk (j) (i))) (fun v _=>j+1-(intOf v).toNat)
                case atStart=>exact⟨i,by first|rfl|go_num,⟨by omega⟩,⟨by omega⟩,inferInstance,inferInstance,inferInstance,⟨rfl⟩⟩
                case round=>
                  clear ax aA aB;obtain⟨i2,rfl,ao,aq,m1,m2,m3,F⟩:=hrel;have ha2:=ao.out;have hb2:=aq.out;have x2:Ix (a:Int) C.n:=⟨by omega,by omega⟩;by_cases c1:i2≤j∧aK dk[i2]! dk[a]! =true
                  · obtain⟨c1,l⟩:=c1;have d1:decide ((i2:Int)≤(j:Int))=true:=ah (by omega);have x1:Ix (i2:Int) C.n:=⟨by omega,by omega⟩;have y1:ct dk (i2:Int) (a:Int) true:=ct.of l rfl rfl;have hs:=ae.mk (scanUp_go (fun x=>aK x dk[a]!) dk (j) i2 c1 l);clear l
                    go_wp2_with (first|(go_at_call 153;refine(fA _ _).mono ?_;rintro e w2 ⟨rfl,hb⟩;have J:=az.mk hb;clear hb))
                    first
                      |exact⟨⟨i2+1,by first|rfl|go_num,⟨by omega⟩,⟨by omega⟩,inferInstance,inferInstance,inferInstance,⟨by rw[←F.out,hs.out]⟩⟩,by simp[intOf];omega⟩
                      |(go_roundw;(case rel=>((repeat apply Exists.intro);exact⟨⟨i2+1,by first|rfl|go_num,⟨by omega⟩,⟨by omega⟩,inferInstance,inferInstance,inferInstance,⟨by rw[←F.out,hs.out]⟩⟩,(by first|rfl|(simp only[Int.natCast_add,Int.natCast_one];rfl)|(simp only[Int.natCast_add,Int.natCast_one,I];rfl))⟩));(case measure=>first|(simp[intOf];omega)|(simp[intOf];done)))
                  · have O:ae (scanUp (fun x=>aK x dk[a]!) dk (j) (i)=i2):=⟨by
                      rw[←F.out];refine scanUp_end (fun x=>aK x dk[a]!) dk (j) i2 ?_;by_cases c:i2≤j
                      · refine .inr ?_
                        have:aK dk[i2]! dk[a]! =false:=by
                          cases h:aK dk[i2]! dk[a]! with
                          |true=>exact absurd ⟨c,h⟩ c1
                          |false=>rfl
                        simp[this]
                      · exact .inl c⟩
                    have step:(i2≤j∧aK dk[i2]! dk[a]! =false)∨¬i2≤j:=by
                      by_cases c:i2≤j
                      · refine .inl ⟨c,?_⟩;cases h:aK dk[i2]! dk[a]! with
                        |true=>exact absurd ⟨c,h⟩ c1
                        |false=>rfl
                      · exact .inr c
                    clear c1 F;rcases step with ⟨c1,l⟩|c1
                    · have d1:decide ((i2:Int)≤(j:Int))=true:=ah (by omega);have x1:Ix (i2:Int) C.n:=⟨by omega,by omega⟩;have y1:ct dk (i2:Int) (a:Int) false:=ct.of l rfl rfl;have ad:=ae.mk l;clear l
                      go_wp2_with (first|(go_at_call 153;refine(fA _ _).mono ?_;rintro e w2 ⟨rfl,hb⟩;have J:=az.mk hb;clear hb))
                      clear d1
                      go_loopw [11] (fun v wr=>∃j2:Nat,v= .int .i64 j2∧ae (i2≤j2+1)∧ae (j2≤j)∧So C wr dk∧Fr C w wr∧aU wr w.heap.size (dI C) 184∧ae (scanDown (fun x=> !aK x dk[a]!) dk i2 j2=scanDown (fun x=> !aK x dk[a]!) dk i2 (j))) (fun v _=>(intOf v).toNat)
                      case atStart=>exact⟨j,by first|rfl|(congr 1;omega),⟨by omega⟩,⟨by omega⟩,inferInstance,inferInstance,inferInstance,⟨rfl⟩⟩
                      case round=>
                        clear m1 m2 m3;obtain⟨j2,rfl,aj,al,n1,n2,n3,F⟩:=hrel;have hc2:=aj.out;have hd2:=al.out;by_cases c2:i2≤j2∧aK dk[j2]! dk[a]! =false
                        · obtain⟨c2,l⟩:=c2;have d2:decide ((i2:Int)≤(j2:Int))=true:=ah (by omega);have H:decide (i2≤j2)=true:=ah (by omega);have x3:Ix (j2:Int) C.n:=⟨by omega,by omega⟩;have Z:ct dk (j2:Int) (a:Int) false:=ct.of l rfl rfl;have hs:=ae.mk (scanDown_go (fun x=> !aK x dk[a]!) dk i2 j2 c2 (by omega) (by simp[l]));clear l
                          go_wp2_with (first|(go_at_call 153;refine(fA _ _).mono ?_;rintro e w2 ⟨rfl,hb⟩;have J:=az.mk hb;clear hb))
                          have I:((j2-1:Nat):Int)=(j2:Int)-1:=by omega
                          first
                            |exact⟨⟨j2-1,by first|rfl|(congr 1;omega),⟨by omega⟩,⟨by omega⟩,inferInstance,inferInstance,inferInstance,⟨by rw[←F.out,hs.out]⟩⟩,by simp[intOf];omega⟩
                            |(go_roundw;(case rel=>((repeat apply Exists.intro);exact⟨⟨j2-1,by first|rfl|(congr 1;omega),⟨by omega⟩,⟨by omega⟩,inferInstance,inferInstance,inferInstance,⟨by rw[←F.out,hs.out]⟩⟩,(by first|rfl|(simp only[Int.natCast_add,Int.natCast_one];rfl)|(simp only[Int.natCast_add,Int.natCast_one,I];rfl))⟩));(case measure=>first|(simp[intOf];omega)|(simp[intOf];done)))
                        · have U:ae (scanDown (fun x=> !aK x dk[a]!) dk i2 (j)=j2):=⟨by
                            rw[←F.out];refine scanDown_end (fun x=> !aK x dk[a]!) dk i2 j2 ?_;by_cases c:i2≤j2
                            · refine .inr ?_
                              have:aK dk[j2]! dk[a]! =true:=by
                                cases h:aK dk[j2]! dk[a]! with
                                |false=>exact absurd ⟨c,h⟩ c2
                                |true=>rfl
                              simp[this]
                            · exact .inl c⟩
                          have step:(i2≤j2∧aK dk[j2]! dk[a]! =true)∨¬i2≤j2:=by
                            by_cases c:i2≤j2
                            · refine .inl ⟨c,?_⟩;cases h:aK dk[j2]! dk[a]! with
                              |false=>exact absurd ⟨c,h⟩ c2
                              |true=>rfl
                            · exact .inr c
                          clear c2 F;rcases step with ⟨c2,l⟩|c2
                          · have d2:decide ((i2:Int)≤(j2:Int))=true:=ah (by omega);have H:decide (i2≤j2)=true:=ah (by omega);have d3:decide ((j2:Int)<(i2:Int))=false:=ay (by omega);have K:decide (j2<i2)=false:=ay (by omega);have x3:Ix (j2:Int) C.n:=⟨by omega,by omega⟩;have x1:Ix (i2:Int) C.n:=⟨by omega,by omega⟩;have Z:ct dk (j2:Int) (a:Int) true:=ct.of l rfl rfl
                            have hge:i≤i2:=by
                              have:=scanUp_ge (fun x=>aK x dk[a]!) dk (j) (i);rw[O.out]at this;exact this
                            have hne:i2≠j2:=by
                              rintro rfl;have:=ad.out;rw[l]at this;cases this
                            clear l
                            go_wp2_with (first|(go_at_call 153;refine(fA _ _).mono ?_;rintro e w2 ⟨rfl,hb⟩;have J:=az.mk hb;clear hb))
                            have I:((j2-1:Nat):Int)=(j2:Int)-1:=by omega
                            first
                              |exact⟨⟨i2+1,j2-1,swp dk i2 j2,by first|rfl|go_num,by first|rfl|(congr 1;omega),⟨by omega⟩,⟨by omega⟩,⟨by omega⟩,⟨eQ (D':=swp dk i2 j2) inferInstance rfl⟩,inferInstance,inferInstance,⟨by
                              rw[←HO.out,partLoop_eq aK a i j dk,O.out,U.out,ag (by omega)]⟩⟩,by simp[intOf];omega⟩
                              |(go_roundw;(case rel=>((repeat apply Exists.intro);exact⟨⟨i2+1,j2-1,swp dk i2 j2,by first|rfl|go_num,by first|rfl|(congr 1;omega),⟨by omega⟩,⟨by omega⟩,⟨by omega⟩,⟨eQ (D':=swp dk i2 j2) inferInstance rfl⟩,inferInstance,inferInstance,⟨by
                              rw[←HO.out,partLoop_eq aK a i j dk,O.out,U.out,ag (by omega)]⟩⟩,(by first|rfl|(simp only[Int.natCast_add,Int.natCast_one];rfl)|(simp only[Int.natCast_add,Int.natCast_one,I];rfl))⟩));(case measure=>first|(simp[intOf];omega)|(simp[intOf];done)))
                          · have d2:decide ((i2:Int)≤(j2:Int))=false:=ay (by omega);have H:decide (i2≤j2)=false:=ay (by omega);have d3:decide ((j2:Int)<(i2:Int))=true:=ah (by omega);have K:decide (j2<i2)=true:=ah (by omega);have x3:Ix (j2:Int) C.n:=⟨by omega,by omega⟩;go_wp2;go_ret2;have hz:=HO.out;rw[partLoop_eq aK a i j dk,O.out,U.out,af (by omega)]at hz;refine⟨by rw[G.out,V.out,←hz];rfl,eQ (D':=R.2.2) (D:=swp dk j2 a) ⟨eQ (D':=swp dk j2 a) inferInstance rfl⟩ (by rw[G.out,V.out,←hz]),Fr.out⟩
                    · have d1:decide ((i2:Int)≤(j:Int))=false:=ay (by omega);go_wp2
                      go_loopw [11] (fun v wr=>∃j2:Nat,v= .int .i64 j2∧ae (i2≤j2+1)∧ae (j2≤j)∧So C wr dk∧Fr C w wr∧aU wr w.heap.size (dI C) 184∧ae (scanDown (fun x=> !aK x dk[a]!) dk i2 j2=scanDown (fun x=> !aK x dk[a]!) dk i2 (j))) (fun v _=>(intOf v).toNat)
                      case atStart=>exact⟨j,by first|rfl|(congr 1;omega),⟨by omega⟩,⟨by omega⟩,inferInstance,inferInstance,inferInstance,⟨rfl⟩⟩
                      case round=>
                        clear m1 m2 m3;obtain⟨j2,rfl,aj,al,n1,n2,n3,F⟩:=hrel;have hc2:=aj.out;have hd2:=al.out;have c2:¬i2≤j2:=by omega
                        have U:ae (scanDown (fun x=> !aK x dk[a]!) dk i2 (j)=j2):=⟨by
                          rw[←F.out];exact scanDown_end (fun x=> !aK x dk[a]!) dk i2 j2 (.inl c2)⟩
                        clear F;have d2:decide ((i2:Int)≤(j2:Int))=false:=ay (by omega);have H:decide (i2≤j2)=false:=ay (by omega);have d3:decide ((j2:Int)<(i2:Int))=true:=ah (by omega);have K:decide (j2<i2)=true:=ah (by omega);have x3:Ix (j2:Int) C.n:=⟨by omega,by omega⟩;go_wp2;go_ret2;have hz:=HO.out;rw[partLoop_eq aK a i j dk,O.out,U.out,af (by omega)]at hz;refine⟨by rw[G.out,V.out,←hz];rfl,eQ (D':=R.2.2) (D:=swp dk j2 a) ⟨eQ (D':=swp dk j2 a) inferInstance rfl⟩ (by rw[G.out,V.out,←hz]),Fr.out⟩
            · have d2:decide ((i1:Int)≤(j1:Int))=false:=ay (by omega);have H:decide (i1≤j1)=false:=ay (by omega);have d3:decide ((j1:Int)<(i1:Int))=true:=ah (by omega);have K:decide (j1<i1)=true:=ah (by omega);have x3:Ix (j1:Int) C.n:=⟨by omega,by omega⟩;go_wp2;go_ret2;have hz:=uT D a b p i1 j1 X.out Y.out (by omega);refine⟨by rw[G.out,hz];rfl,eQ (D':=R.2.2) (D:=swp (swp D a p) j1 a) ⟨eQ (D':=swp (swp D a p) j1 a) inferInstance rfl⟩ (by rw[G.out,hz]),Fr.out⟩
      · have d1:decide ((i1:Int)≤(b:Int)-1)=false:=ay (by omega);go_wp2
        go_loopw [11] (fun v wr=>∃j1:Nat,v= .int .i64 j1∧ae (i1≤j1+1)∧ae (j1≤b-1)∧So C wr (swp D a p)∧Fr C w wr∧aU wr w.heap.size (dI C) 184∧ae (scanDown (fun x=> !aK x (swp D a p)[a]!) (swp D a p) i1 j1=scanDown (fun x=> !aK x (swp D a p)[a]!) (swp D a p) i1 (b-1))) (fun v _=>(intOf v).toNat)
        case atStart=>exact⟨b-1,by first|rfl|(congr 1;omega),⟨by omega⟩,⟨by omega⟩,inferInstance,inferInstance,inferInstance,⟨rfl⟩⟩
        case round=>
          clear m1 m2 m3;obtain⟨j1,rfl,ai,ak,n1,n2,n3,z⟩:=hrel;have hc1:=ai.out;have hd1:=ak.out;have c2:¬i1≤j1:=by omega
          have Y:ae (scanDown (fun x=> !aK x (swp D a p)[a]!) (swp D a p) i1 (b-1)=j1):=⟨by
            rw[←z.out];exact scanDown_end (fun x=> !aK x (swp D a p)[a]!) (swp D a p) i1 j1 (.inl c2)⟩
          clear z;have d2:decide ((i1:Int)≤(j1:Int))=false:=ay (by omega);have H:decide (i1≤j1)=false:=ay (by omega);have d3:decide ((j1:Int)<(i1:Int))=true:=ah (by omega);have K:decide (j1<i1)=true:=ah (by omega);have x3:Ix (j1:Int) C.n:=⟨by omega,by omega⟩;go_wp2;go_ret2;have hz:=uT D a b p i1 j1 X.out Y.out (by omega);refine⟨by rw[G.out,hz];rfl,eQ (D':=R.2.2) (D:=swp (swp D a p) j1 a) ⟨eQ (D':=swp (swp D a p) j1 a) inferInstance rfl⟩ (by rw[G.out,hz]),Fr.out⟩
set_option maxHeartbeats 16000000 in
set_option maxRecDepth 100000 in
set_option synthInstance.maxHeartbeats 400000 in
set_option synthInstance.maxSize 100000 in
theorem AJ (C:dt) [dU C] (w:World) (D:Array E) (h:cq C w D) (a b p:Nat) (hap:a≤p) (hpb:p<b) (hb:b≤C.n):
    Calls Tryz.prog 197 #[ij C,.int .i64 a,.int .i64 b,.int .i64 p] w fun e w'=>e= .returned (.int .i64 (partitionEqual aK D a b p).1)∧cq C w' (partitionEqual aK D a b p).2∧w.grownBy w' (some C.g):=by
  have j0:=So.mk h;have hsm:=dU.small (C:=C);have ao:fc w.heap.size C.g:=⟨Nat.ne_of_gt h.lt⟩;have al:=aU.mk (gF w (.cells (dI C) 184));have ap:Ix (a:Int) C.n:=⟨by omega,by omega⟩;have aq:Ix (p:Int) C.n:=⟨by omega,by omega⟩;have hR:partitionEqual aK D a b p=partEqLoop aK a (a+1) (b-1) (swp D a p):=rfl;obtain⟨R,V⟩:∃R,partitionEqual aK D a b p=R:=⟨_,rfl⟩;rw[V]at hR ⊢;have hR:=ae.mk hR;clear h V;have hu:=Tryz.underlying184;go_enter Tryz.func197,Tryz.ntmps197;go_wp2
  go_loopw [9,10] (fun v u wr=>∃(i j:Nat) (dk:Array E),v= .int .i64 i∧u= .int .i64 j∧ae (a<i)∧ae (i≤j+1)∧ae (j<b)∧So C wr dk∧Fr C w wr∧aU wr w.heap.size (dI C) 184∧ae (partEqLoop aK a i j dk=R)) (fun v u _=>(intOf u).toNat+1-(intOf v).toNat)
  case atStart=>exact⟨a+1,b-1,swp D a p,by go_num,by congr 1;omega,⟨by omega⟩,⟨by omega⟩,⟨by omega⟩,⟨eQ (D':=swp D a p) inferInstance rfl⟩,inferInstance,inferInstance,⟨hR.out.symm⟩⟩
  case round=>
    clear j0 al;obtain⟨i,j,dk,rfl,rfl,ad,ai,aj,j1,j2,ak,HO⟩:=hrel;have hp:=ad.out;have hq:=ai.out;have hr:=aj.out;go_wp2
    go_loopw [9] (fun v wr=>∃i2:Nat,v= .int .i64 i2∧ae (a<i2)∧ae (i2≤j+1)∧So C wr dk∧Fr C w wr∧aU wr w.heap.size (dI C) 184∧ae (scanUp (fun x=> !aK dk[a]! x) dk (j) i2=scanUp (fun x=> !aK dk[a]! x) dk (j) (i))) (fun v _=>j+1-(intOf v).toNat)
    case atStart=>exact⟨i,by first|rfl|go_num,⟨by omega⟩,⟨by omega⟩,inferInstance,inferInstance,inferInstance,⟨rfl⟩⟩
    case round=>
      clear j1 j2 ak;obtain⟨i2,rfl,Y,Z,m1,m2,m3,z⟩:=hrel;have ha2:=Y.out;have hb2:=Z.out;have x2:Ix (a:Int) C.n:=⟨by omega,by omega⟩;by_cases c1:i2≤j∧aK dk[a]! dk[i2]! =false
      · obtain⟨c1,l⟩:=c1;have d1:decide ((i2:Int)≤(j:Int))=true:=ah (by omega);have x1:Ix (i2:Int) C.n:=⟨by omega,by omega⟩;have y1:ct dk (a:Int) (i2:Int) false:=ct.of l rfl rfl;have hs:=ae.mk (scanUp_go (fun x=> !aK dk[a]! x) dk (j) i2 c1 (by simp[l]));clear l
        go_wp2_with (first|(go_at_call 153;refine(fA _ _).mono ?_;rintro e w2 ⟨rfl,hb⟩;have O:=az.mk hb;clear hb))
        first
          |exact⟨⟨i2+1,by first|rfl|go_num,⟨by omega⟩,⟨by omega⟩,inferInstance,inferInstance,inferInstance,⟨by rw[←z.out,hs.out]⟩⟩,by simp[intOf];omega⟩
          |(go_roundw;(case rel=>((repeat apply Exists.intro);exact⟨⟨i2+1,by first|rfl|go_num,⟨by omega⟩,⟨by omega⟩,inferInstance,inferInstance,inferInstance,⟨by rw[←z.out,hs.out]⟩⟩,(by first|rfl|(simp only[Int.natCast_add,Int.natCast_one];rfl)|(simp only[Int.natCast_add,Int.natCast_one,H];rfl))⟩));(case measure=>first|(simp[intOf];omega)|(simp[intOf];done)))
      · have F:ae (scanUp (fun x=> !aK dk[a]! x) dk (j) (i)=i2):=⟨by
          rw[←z.out];refine scanUp_end (fun x=> !aK dk[a]! x) dk (j) i2 ?_;by_cases c:i2≤j
          · refine .inr ?_
            have:aK dk[a]! dk[i2]! =true:=by
              cases h:aK dk[a]! dk[i2]! with
              |false=>exact absurd ⟨c,h⟩ c1
              |true=>rfl
            simp[this]
          · exact .inl c⟩
        have step:(i2≤j∧aK dk[a]! dk[i2]! =true)∨¬i2≤j:=by
          by_cases c:i2≤j
          · refine .inl ⟨c,?_⟩;cases h:aK dk[a]! dk[i2]! with
            |false=>exact absurd ⟨c,h⟩ c1
            |true=>rfl
          · exact .inr c
        clear c1 z;rcases step with ⟨c1,l⟩|c1
        · have d1:decide ((i2:Int)≤(j:Int))=true:=ah (by omega);have x1:Ix (i2:Int) C.n:=⟨by omega,by omega⟩;have y1:ct dk (a:Int) (i2:Int) true:=ct.of l rfl rfl;have X:=ae.mk l;clear l
          go_wp2_with (first|(go_at_call 153;refine(fA _ _).mono ?_;rintro e w2 ⟨rfl,hb⟩;have O:=az.mk hb;clear hb))
          clear d1
          go_loopw [10] (fun v wr=>∃j2:Nat,v= .int .i64 j2∧ae (i2≤j2+1)∧ae (j2≤j)∧So C wr dk∧Fr C w wr∧aU wr w.heap.size (dI C) 184∧ae (scanDown (fun x=>aK dk[a]! x) dk i2 j2=scanDown (fun x=>aK dk[a]! x) dk i2 (j))) (fun v _=>(intOf v).toNat)
          case atStart=>exact⟨j,by first|rfl|(congr 1;omega),⟨by omega⟩,⟨by omega⟩,inferInstance,inferInstance,inferInstance,⟨rfl⟩⟩
          case round=>
            clear m1 m2 m3;obtain⟨j2,rfl,I,J,n1,n2,n3,z⟩:=hrel;have hc2:=I.out;have hd2:=J.out;by_cases c2:i2≤j2∧aK dk[a]! dk[j2]! =true
            · obtain⟨c2,l⟩:=c2;have d2:decide ((i2:Int)≤(j2:Int))=true:=ah (by omega);have K:decide (i2≤j2)=true:=ah (by omega);have x3:Ix (j2:Int) C.n:=⟨by omega,by omega⟩;have am:ct dk (a:Int) (j2:Int) true:=ct.of l rfl rfl;have hs:=ae.mk (scanDown_go (fun x=>aK dk[a]! x) dk i2 j2 c2 (by omega) l);clear l
              go_wp2_with (first|(go_at_call 153;refine(fA _ _).mono ?_;rintro e w2 ⟨rfl,hb⟩;have O:=az.mk hb;clear hb))
              have H:((j2-1:Nat):Int)=(j2:Int)-1:=by omega
              first
                |exact⟨⟨j2-1,by first|rfl|(congr 1;omega),⟨by omega⟩,⟨by omega⟩,inferInstance,inferInstance,inferInstance,⟨by rw[←z.out,hs.out]⟩⟩,by simp[intOf];omega⟩
                |(go_roundw;(case rel=>((repeat apply Exists.intro);exact⟨⟨j2-1,by first|rfl|(congr 1;omega),⟨by omega⟩,⟨by omega⟩,inferInstance,inferInstance,inferInstance,⟨by rw[←z.out,hs.out]⟩⟩,(by first|rfl|(simp only[Int.natCast_add,Int.natCast_one];rfl)|(simp only[Int.natCast_add,Int.natCast_one,H];rfl))⟩));(case measure=>first|(simp[intOf];omega)|(simp[intOf];done)))
            · have G:ae (scanDown (fun x=>aK dk[a]! x) dk i2 (j)=j2):=⟨by
                rw[←z.out];refine scanDown_end (fun x=>aK dk[a]! x) dk i2 j2 ?_;by_cases c:i2≤j2
                · refine .inr ?_
                  have:aK dk[a]! dk[j2]! =false:=by
                    cases h:aK dk[a]! dk[j2]! with
                    |true=>exact absurd ⟨c,h⟩ c2
                    |false=>rfl
                  simp[this]
                · exact .inl c⟩
              have step:(i2≤j2∧aK dk[a]! dk[j2]! =false)∨¬i2≤j2:=by
                by_cases c:i2≤j2
                · refine .inl ⟨c,?_⟩;cases h:aK dk[a]! dk[j2]! with
                  |true=>exact absurd ⟨c,h⟩ c2
                  |false=>rfl
                · exact .inr c
              clear c2 z;rcases step with ⟨c2,l⟩|c2
              · have d2:decide ((i2:Int)≤(j2:Int))=true:=ah (by omega);have K:decide (i2≤j2)=true:=ah (by omega);have d3:decide ((j2:Int)<(i2:Int))=false:=ay (by omega);have U:decide (j2<i2)=false:=ay (by omega);have x3:Ix (j2:Int) C.n:=⟨by omega,by omega⟩;have x1:Ix (i2:Int) C.n:=⟨by omega,by omega⟩;have am:ct dk (a:Int) (j2:Int) false:=ct.of l rfl rfl
                have hge:i≤i2:=by
                  have:=scanUp_ge (fun x=> !aK dk[a]! x) dk (j) (i);rw[F.out]at this;exact this
                have hne:i2≠j2:=by
                  rintro rfl;have:=X.out;rw[l]at this;cases this
                clear l
                go_wp2_with (first|(go_at_call 153;refine(fA _ _).mono ?_;rintro e w2 ⟨rfl,hb⟩;have O:=az.mk hb;clear hb))
                have H:((j2-1:Nat):Int)=(j2:Int)-1:=by omega
                first
                  |exact⟨⟨i2+1,j2-1,swp dk i2 j2,by first|rfl|go_num,by first|rfl|(congr 1;omega),⟨by omega⟩,⟨by omega⟩,⟨by omega⟩,⟨eQ (D':=swp dk i2 j2) inferInstance rfl⟩,inferInstance,inferInstance,⟨by
                  rw[←HO.out,partEqLoop_eq aK a i j dk,F.out,G.out,ag (by omega)]⟩⟩,by simp[intOf];omega⟩
                  |(go_roundw;(case rel=>((repeat apply Exists.intro);exact⟨⟨i2+1,j2-1,swp dk i2 j2,by first|rfl|go_num,by first|rfl|(congr 1;omega),⟨by omega⟩,⟨by omega⟩,⟨by omega⟩,⟨eQ (D':=swp dk i2 j2) inferInstance rfl⟩,inferInstance,inferInstance,⟨by
                  rw[←HO.out,partEqLoop_eq aK a i j dk,F.out,G.out,ag (by omega)]⟩⟩,(by first|rfl|(simp only[Int.natCast_add,Int.natCast_one];rfl)|(simp only[Int.natCast_add,Int.natCast_one,H];rfl))⟩));(case measure=>first|(simp[intOf];omega)|(simp[intOf];done)))
              · have d2:decide ((i2:Int)≤(j2:Int))=false:=ay (by omega);have K:decide (i2≤j2)=false:=ay (by omega);have d3:decide ((j2:Int)<(i2:Int))=true:=ah (by omega);have U:decide (j2<i2)=true:=ah (by omega);have x3:Ix (j2:Int) C.n:=⟨by omega,by omega⟩;go_wp2;go_ret;have hz:=HO.out;rw[partEqLoop_eq aK a i j dk,F.out,G.out,af (by omega)]at hz;exact⟨by rw[←hz];rfl,eQ (D:=dk) inferInstance (by rw[←hz]),Fr.out⟩
        · have d1:decide ((i2:Int)≤(j:Int))=false:=ay (by omega);go_wp2
          go_loopw [10] (fun v wr=>∃j2:Nat,v= .int .i64 j2∧ae (i2≤j2+1)∧ae (j2≤j)∧So C wr dk∧Fr C w wr∧aU wr w.heap.size (dI C) 184∧ae (scanDown (fun x=>aK dk[a]! x) dk i2 j2=scanDown (fun x=>aK dk[a]! x) dk i2 (j))) (fun v _=>(intOf v).toNat)
          case atStart=>exact⟨j,by first|rfl|(congr 1;omega),⟨by omega⟩,⟨by omega⟩,inferInstance,inferInstance,inferInstance,⟨rfl⟩⟩
          case round=>
            clear m1 m2 m3;obtain⟨j2,rfl,I,J,n1,n2,n3,z⟩:=hrel;have hc2:=I.out;have hd2:=J.out;have c2:¬i2≤j2:=by omega
            have G:ae (scanDown (fun x=>aK dk[a]! x) dk i2 (j)=j2):=⟨by
              rw[←z.out];exact scanDown_end (fun x=>aK dk[a]! x) dk i2 j2 (.inl c2)⟩
            clear z;have d2:decide ((i2:Int)≤(j2:Int))=false:=ay (by omega);have K:decide (i2≤j2)=false:=ay (by omega);have d3:decide ((j2:Int)<(i2:Int))=true:=ah (by omega);have U:decide (j2<i2)=true:=ah (by omega);have x3:Ix (j2:Int) C.n:=⟨by omega,by omega⟩;go_wp2;go_ret;have hz:=HO.out;rw[partEqLoop_eq aK a i j dk,F.out,G.out,af (by omega)]at hz;exact⟨by rw[←hz];rfl,eQ (D:=dk) inferInstance (by rw[←hz]),Fr.out⟩
end S
namespace S
open Go.RowKit Go.Sort P Q V WW.bq
theorem oP:SWO aK where
  irrefl:=before_irrefl
  trans:=fun x y z h k=>before_trans h k
  ntrans:=fun x y z h k=>by
    rw[Bool.eq_false_iff,ne_eq,tJ]at h k ⊢;omega
theorem zO {a b:Nat} {D D':Array E} (hb:b≤D.size) (h:PermIn a b D D'):∀x∈D',x∈D:=by
  intro x hx;obtain⟨k,hk,rfl⟩:=Array.mem_iff_getElem.mp hx;have hk':k<D.size:=by rw[←h.1];exact hk
  by_cases hin:a≤k∧k<b
  · have hall:=permIn_all D D' a b (fun y=>y∈D) hb h (fun i hi hi'=>by
      rw[getElem!_pos D i (by omega)];exact Array.getElem_mem _) k hin.1 hin.2
    rw[getElem!_pos D' k hk]at hall;exact hall
  · have:=h.2.1 k (by omega);rw[getElem!_pos D' k hk,getElem!_pos D k hk']at this;rw[this];exact Array.getElem_mem _
theorem vQ {C:dt} [g:dU C] {w:World} {D D':Array E} {a b:Nat} (h:cq C w D) (hb:b≤C.n) (hp:PermIn a b D D') (n:Nat) (os:Array Obj):
    cq C (sortWorldK eI 4 w C.g 0 n D' os) D'∧w.grownBy (sortWorldK eI 4 w C.g 0 n D' os) (some C.g):=by
  have hs:D'.size=D.size:=hp.1
  have hg:w.grownBy (sortWorldK eI 4 w C.g 0 n D' os) (some C.g):=by
    unfold sortWorldK;refine⟨rfl,rfl,rfl,by rw[size_grow,size_putRowK];show w.heap.size≤w.heap.size+os.size;omega,fun k u hk2=> ?_⟩;rw[heap_grow_old _ _ (by rw[size_putRowK];exact u)];unfold putRowK putRow;rw[rZ,ag (fun hh=>hk2 (by rw[hh]))];rfl
  exact⟨⟨holdsK_sortWorldK eI 4 w C.g 0 n D D' os h.lt h.hold hs,by rw[hs];exact h.size,(hg.block _ h.n9 (fun e=>g.ne (aH e))).trans h.box,Nat.lt_of_lt_of_le h.lt hg.size,by
    unfold sortWorldK;rw[heap_grow_old _ _ (by rw[size_putRowK];exact h.lt)];exact vu (W:=Sort.ahead w n) h.shape,fun x hx=>h.pK x (zO (by rw[h.size];exact hb) hp x hx)⟩,hg⟩
theorem xQ (C:dt) [g:dU C] (w:World) (D:Array E) (h:cq C w D) (a b:Nat) (hab:a≤b) (hb:b≤C.n):
    Calls Tryz.prog 193 #[ij C,.int .i64 a,.int .i64 b] w fun e w'=>e= .returned (.tuple #[])∧∃D',cq C w' D'∧PermIn a b D D'∧w.grownBy w' (some C.g):=by
  have hsw:SwapSwapsK Tryz.prog 189 C.sb eI 4 C.g 0 D.size:=by rw[h.size];exact g.swap
  have:=Any.breakPatterns_func_cells_w (P:=Tryz.prog) (ρ:=qq) {qp with} eI 4 pF (.func 153) #[] C.lb 189 C.sb C.g 0 a b D w hsw h.hold h.lt hab (by rw[h.size];exact hb) (by have:=g.small;rw[h.size];omega);refine this.mono ?_;rintro e w' ⟨he,n,os,rfl⟩;have hp:=breakPatterns_holds D a b hab (by rw[h.size];exact hb);obtain⟨h1,h2⟩:=vQ h hb hp n os;exact⟨he,_,h1,hp,h2⟩
theorem Bn (C:dt) [g:dU C] (w:World) (D:Array E) (h:cq C w D) (a b:Nat) (hab:a≤b) (hb:b≤C.n):
    Calls Tryz.prog 195 #[ij C,.int .i64 a,.int .i64 b] w fun e w'=>e= .returned (.tuple #[])∧∃D',cq C w' D'∧PermIn a b D D'∧w.grownBy w' (some C.g):=by
  have hsw:SwapSwapsK Tryz.prog 189 C.sb eI 4 C.g 0 D.size:=by rw[h.size];exact g.swap
  have:=Any.reverseRange_func_cells_w (P:=Tryz.prog) (ρ:=qq) {qp with} eI 4 pF (.func 153) #[] C.lb 189 C.sb C.g 0 a b D w hsw h.hold h.lt hab (by rw[h.size];exact hb) (by have:=g.small;rw[h.size];omega);refine this.mono ?_;rintro e w' ⟨he,n,os,rfl⟩;have hp:=reverseRange_holds D a b hab (by rw[h.size];exact hb);obtain⟨h1,h2⟩:=vQ h hb hp n os;exact⟨he,_,h1,hp,h2⟩
theorem zz {C:dt} {W:World} {D:Array E} [g:dU C] (h:cq C W D) (i j:Int) (i' j':Nat) (u:i=i') (ej:j=j') (hi:i'<C.n) (hj:j'<C.n):
    Calls Tryz.prog 153 (#[.int .i64 i,.int .i64 j]++C.lb) W fun e w'=>∃lb,e= .returned (.bool lb)∧aK D[i']! D[j']! =lb∧RowKit.Below W.heap.size W w':=by
  subst u ej;exact(ux C W D h g.lb g.small i' j' hi hj).mono fun e w' hh=>⟨_,hh.1,rfl,hh.2⟩
theorem AH {C:dt} {W:World} {D:Array E} [dU C] (h:cq C W D) (a b p:Nat) (p':Int) (e:p'=p) (hap:a≤p) (hpb:p<b) (hb:b≤C.n):
    Calls Tryz.prog 197 #[ij C,.int .i64 a,.int .i64 b,.int .i64 p'] W fun e w'=>∃mid D',partitionEqual aK D a b p=(mid,D')∧e= .returned (.int .i64 (mid:Nat))∧cq C w' D'∧W.grownBy w' (some C.g):=by
  subst e;exact(AJ C W D h a b p hap hpb hb).mono fun e w' hh=>⟨_,_,rfl,hh⟩
theorem AK {C:dt} {W:World} {D:Array E} [dU C] (h:cq C W D) (a b p:Nat) (p':Int) (e:p'=p) (hap:a≤p) (hpb:p<b) (hb:b≤C.n):
    Calls Tryz.prog 198 #[ij C,.int .i64 a,.int .i64 b,.int .i64 p'] W fun e w'=>∃mid ap D',partition aK D a b p=(mid,ap,D')∧e= .returned (.tuple #[.int .i64 (mid:Nat),.bool ap])∧cq C w' D'∧W.grownBy w' (some C.g):=by
  subst e;exact(AL C W D h a b p hap hpb hb).mono fun e w' hh=>⟨_,_,_,rfl,hh⟩
end S
namespace S
open Go.RowKit Go.Sort P Q V WW.bq
attribute [local go_sem] dN dO wa
def qZ (C:dt) (N:Nat):Prop:=∀(w:World) (D:Array E),cq C w D→∀a b limit:Nat,b-a<N→a≤b→b≤C.n→limit≤100→Sort.Below aK a b D→∀a' b' l':Int,a'=a→b'=b→l'=limit→
    Calls Tryz.prog 174 #[ij C,.int .i64 a',.int .i64 b',.int .i64 l'] w fun e w'=>e= .returned (.tuple #[])∧∃D',cq C w' D'∧PermIn a b D D'∧SortedIn aK a b D'∧w.grownBy w' (some C.g)
set_option maxHeartbeats 16000000 in
set_option maxRecDepth 100000 in
set_option synthInstance.maxHeartbeats 400000 in
set_option synthInstance.maxSize 100000 in
theorem AQ (C:dt) [dU C] (N:Nat) (ih:qZ C N):qZ C (N+1):=by
  intro w D h a b limit hN hab hb hlim hB a' b' l' ea eb el;subst ea eb el;have j0:=So.mk h;have hsm:=dU.small (C:=C);have hsz:=h.size;have aP:fc w.heap.size C.g:=⟨Nat.ne_of_gt h.lt⟩;have aJ:=aU.mk (gF w (.cells (dI C) 184));have aI:=ae.mk hB;have IH:=ae.mk ih;clear h hB ih;have hu:=Tryz.underlying184;go_enter Tryz.func174,Tryz.ntmps174;go_wp2
  go_loopg [1,2,3,8,9] (b-a) (fun kx v1 v2 v3 v8 v9 wr=>∃(a1 b1 l1:Nat) (wb wp:Bool) (dk:Array E),v1= .int .i64 a1∧v2= .int .i64 b1∧v3= .int .i64 l1∧v8= .bool wb∧v9= .bool wp∧ae (a1≤b1∧b1≤C.n∧b1-a1≤kx∧kx≤b-a∧l1≤100)∧ae (Sort.Below aK a1 b1 dk)∧ae (∀R,PermIn a1 b1 dk R→SortedIn aK a1 b1 R→PermIn a b D R∧SortedIn aK a b R)∧So C wr dk∧Fr C w wr∧aU wr w.heap.size (dI C) 184)
  case atStart=>exact⟨a,b,limit,true,true,D,rfl,rfl,rfl,rfl,rfl,⟨⟨by omega,by omega,by omega,by omega,by omega⟩⟩,aI,⟨fun R h1 h2=>⟨h1,h2⟩⟩,inferInstance,inferInstance,inferInstance⟩
  case round=>
    clear j0 aJ;obtain⟨a1,b1,l1,wb,wp,dk,rfl,rfl,rfl,rfl,rfl,au,Z,G,j1,j2,u⟩:=hrel;obtain⟨ai,hb1,aO,hn2,hl1⟩:=au.out;have hds:dk.size=C.n:=j1.out.size;by_cases c12:b1-a1≤12
    · have d1:decide ((b1:Int)-(a1:Int)≤12)=true:=ah (by omega)
      go_wp2_with (first|(go_at_call 191;refine(yS C _ _ So.out a1 b1 (by omega) (by omega)).mono ?_;rintro e w2 ⟨rfl,hs,hg⟩;have k1:=So.mk hs;have k2:=Gb.mk hg;clear hs hg))
      ((try simp only[Exit.inBlock,Exit.then]);refine bodyPost_ret (results_none rfl _ _ _) rfl ?_)
      obtain⟨h1,h2⟩:=insertionSort_holds oP dk a1 b1 ai (by omega);obtain⟨h3,h4⟩:=G.out _ h1 h2;exact⟨rfl,_,So.out,h3,h4,Fr.out⟩
    have d1:decide ((b1:Int)-(a1:Int)≤12)=false:=ay (by omega);by_cases c0:l1=0
    · subst c0
      go_wp2_with (first|(go_at_call 192;refine(yH C _ _ So.out a1 b1 (by omega) (by omega)).mono ?_;rintro e w2 ⟨rfl,hs,hg⟩;have k1:=So.mk hs;have k2:=Gb.mk hg;clear hs hg))
      ((try simp only[Exit.inBlock,Exit.then]);refine bodyPost_ret (results_none rfl _ _ _) rfl ?_)
      obtain⟨h1,h2⟩:=heapSort_holds oP dk a1 b1 ai (by omega);obtain⟨h3,h4⟩:=G.out _ h1 h2;exact⟨rfl,_,So.out,h3,h4,Fr.out⟩
    have d0:((l1:Int)==0)=false:=beq_eq_false_iff_ne.mpr (by omega)
    go_upto_if 35 with fail
    go_cut [3]from 19 (fun s3 wc=>∃(l2:Nat) (dj:Array E),s3= .int .i64 l2∧ae (l2≤100)∧ae (PermIn a1 b1 dk dj)∧So C wc dj∧Fr C w wc∧aU wc w.heap.size (dI C) 184)
    case first=>
      cases wb
      · go_wp2_with (first|(go_at_call 193;refine(xQ C _ _ So.out a1 b1 (by omega) (by omega)).mono ?_;rintro e w2 ⟨rfl,F,hs,hp,hg⟩;have k1:=So.mk hs;have k2:=Gb.mk hg;have K:=ae.mk hp;clear hs hg hp))
        go_meet
        case rel=>exact⟨l1-1,F,by congr 1;omega,⟨by omega⟩,K,inferInstance,inferInstance,inferInstance⟩
      · go_wp2_with fail
        go_meet
        case rel=>exact⟨l1,dk,rfl,⟨by omega⟩,⟨permIn_refl dk a1 b1⟩,j1,j2,u⟩
    case rest=>
      clear j1 j2 u d0 d1;obtain⟨l2,dj,rfl,ar,HS,j1,j2,u⟩:=hcut;have hl2:=ar.out
      go_upto_if 50 with (go_at_call 194;refine(xX C _ _ So.out a1 b1 (by omega) (by omega)).mono ?_;rintro e w2 ⟨p,k,rfl,hp1,hp2,hk,hb⟩;have Y:=az.mk hb;clear hb)
      obtain⟨p,rfl⟩:∃p':Nat,p=p':=⟨p.toNat,by omega⟩
      go_cut [11,12]from 19 (fun aL s12 wc=>∃(q:Nat) (k:Int) (z:Array E),aL= .int .i64 q∧s12= .int .i64 k∧ae (a1≤q∧q<b1)∧ae (PermIn a1 b1 dk z)∧So C wc z∧Fr C w wc∧aU wc w.heap.size (dI C) 184)
      case first=>
        by_cases h2:k=2
        · have aF:(k==2)=true:=beq_iff_eq.mpr h2
          go_wp2_with (first|(go_at_call 195;refine(Bn C _ _ So.out a1 b1 (by omega) (by omega)).mono ?_;rintro e w3 ⟨rfl,F,hs,hp,hg⟩;have k1:=So.mk hs;have k2:=Gb.mk hg;have K:=ae.mk (permIn_trans _ _ _ _ _ HS.out hp);clear hs hg hp))
          go_meet
          case rel=>exact⟨b1-1-(p-a1),1,F,by congr 1;omega,rfl,⟨⟨by omega,by omega⟩⟩,K,inferInstance,inferInstance,inferInstance⟩
        · have aF:(k==2)=false:=beq_eq_false_iff_ne.mpr h2
          go_wp2_with fail
          go_meet
          case rel=>exact⟨p,k,dj,rfl,rfl,⟨⟨by omega,by omega⟩⟩,HS,inferInstance,inferInstance,inferInstance⟩
      case rest=>
        clear j1 j2 u Y hk hp1 hp2 HS;obtain⟨q,k,z,rfl,rfl,aA,HS,j1,j2,u⟩:=hcut;obtain⟨hq1,ak⟩:=aA.out
        go_upto_region 16 with fail
        go_cut [68]from 19 (fun aM wx=>∃t:Bool,aM= .bool t∧wx=wc)
        case first=>
          cases wb<;>cases wp<;>by_cases aj:k=1<;>
            (first|have hkb:(k==1)=true:=beq_iff_eq.mpr aj|have hkb:(k==1)=false:=beq_eq_false_iff_ne.mpr aj)<;>
            (go_wp2_with fail
             go_meet
             exact⟨_,rfl,rfl⟩)
        case rest=>
          obtain⟨t,rfl,rfl⟩:=hcut
          go_upto_if 68 with fail
          go_cut []from 19 (fun wx=>So C wx z∧Fr C w wx∧aU wx w.heap.size (dI C) 184)
          case first=>
            cases t
            · go_wp2_with fail
              go_meet
              case rel=>exact⟨j1,j2,u⟩
            · go_wp2_with (first|(go_at_call 196;refine(AE C _ _ So.out a1 b1 (by omega) (by omega)).mono ?_;rintro e w3 ⟨r,rfl,hpi,hb⟩;have Y:=az.mk hb;have ax:=ae.mk hpi;clear hb hpi;cases r))
              · go_meet
                exact⟨inferInstance,inferInstance,inferInstance⟩
              · ((try simp only[Exit.inBlock,Exit.then]);refine bodyPost_ret (results_none rfl _ _ _) rfl ?_)
                obtain⟨h1,h2⟩:=partialInsertionSort_holds oP z a1 b1 (by omega) (by rw[HS.out.1,hds];omega) (Below.perm Z.out (by rw[hds];omega) HS.out);rw[ax.out]at h1 h2;obtain⟨h3,h4⟩:=G.out _ (permIn_trans _ _ _ _ _ HS.out h1) (h2 rfl);exact⟨rfl,_,So.out,h3,h4,Fr.out⟩
          case rest=>
            clear j1 j2 u;obtain⟨j1,j2,u⟩:=hcut
            go_upto_region 18 with fail
            go_cut [83]from 19 (fun aN wx=>∃t:Bool,aN= .bool t∧ae (t=true→0<a1∧aK z[a1-1]! z[q]! =false)∧So C wx z∧Fr C w wx∧aU wx w.heap.size (dI C) 184)
            case first=>
              by_cases ha0:a1=0
              · have ha1:decide (0<(a1:Int))=false:=ay (by omega);have ha2:decide (0<a1)=false:=ay (by omega)
                go_wp2_with fail
                go_meet
                case rel=>exact⟨false,rfl,⟨fun h=>by cases h⟩,j1,j2,u⟩
              · have ha1:decide (0<(a1:Int))=true:=ah (by omega);have ha2:decide (0<a1)=true:=ah (by omega)
                go_wp2_with (first|(go_at_call 153;refine(zz So.out _ _ (a1-1) q (by omega) rfl (by omega) (by omega)).mono ?_;rintro e w3 ⟨lb,rfl,hlb,hb⟩;have Y:=az.mk hb;have aq:=ae.mk hlb;clear hb hlb;cases lb))
                · go_meet
                  exact⟨true,rfl,⟨fun _=>⟨by omega,aq.out⟩⟩,inferInstance,inferInstance,inferInstance⟩
                · go_meet
                  exact⟨false,rfl,⟨fun h=>by cases h⟩,inferInstance,inferInstance,inferInstance⟩
            case rest=>
              clear j1 j2 u;obtain⟨t,rfl,aB,j1,j2,u⟩:=hcut;have al:b1≤z.size:=(by rw[HS.out.1,hds];omega);have ad:=ae.mk (Below.perm Z.out (by rw[hds];omega) HS.out);cases t
              · go_upto_if 109 with (go_at_call 198;refine(AK So.out a1 b1 q _ rfl (by omega) (by omega) (by omega)).mono ?_;rintro e w3 ⟨mid,ap,F,hx,rfl,hs,hg⟩;have k1:=So.mk hs;have k2:=Gb.mk hg;obtain⟨r1,r2,r3,I,J,am,ao⟩:=round_part oP (partition_holds aK) hq1 ak al ad.out hx;have O:=ae.mk I;have U:=ae.mk J;have aC:=ae.mk am;have aE:=ae.mk ao;clear hs hg hx r3 I J am ao)
                by_cases h4:mid-a1<b1-mid
                · have h4z:decide ((mid:Int)-(a1:Int)<(b1:Int)-(mid:Int))=true:=ah (by omega)
                  go_wp2_with (first|(go_at_call 174;refine(IH.out _ _ So.out a1 mid l2 (by omega) (by omega) (by omega) (by omega) O.out _ _ _ rfl rfl rfl).mono ?_;rintro e w4 ⟨rfl,L,hs,hp,H,hg⟩;have k3:=So.mk hs;have k4:=Gb.mk hg;obtain⟨u1,u2⟩:=aC.out L hp H;have V:=ae.mk u1;have X:=ae.mk u2;clear hs hp H hg u1 u2))
                  go_roundg (b1-(mid+1))
                  case measure=>omega
                  case rel=>exact⟨mid+1,b1,l2,_,ap,L,by first|rfl|go_num,rfl,rfl,rfl,rfl,⟨⟨by omega,by omega,by omega,by omega,by omega⟩⟩,V,⟨fun R g1 g2=>by obtain⟨g3,g4⟩:=X.out R g1 g2;exact G.out R (permIn_trans _ _ _ _ _ HS.out g3) g4⟩,inferInstance,inferInstance,inferInstance⟩
                · have h4z:decide ((mid:Int)-(a1:Int)<(b1:Int)-(mid:Int))=false:=ay (by omega)
                  go_wp2_with (first|(go_at_call 174;refine(IH.out _ _ So.out (mid+1) b1 l2 (by omega) (by omega) (by omega) (by omega) U.out _ _ _ (by omega) rfl rfl).mono ?_;rintro e w4 ⟨rfl,L,hs,hp,H,hg⟩;have k3:=So.mk hs;have k4:=Gb.mk hg;obtain⟨u1,u2⟩:=aE.out L hp H;have V:=ae.mk u1;have X:=ae.mk u2;clear hs hp H hg u1 u2))
                  go_roundg (mid-a1)
                  case measure=>omega
                  case rel=>exact⟨a1,mid,l2,_,ap,L,rfl,rfl,rfl,rfl,rfl,⟨⟨by omega,by omega,by omega,by omega,by omega⟩⟩,V,⟨fun R g1 g2=>by obtain⟨g3,g4⟩:=X.out R g1 g2;exact G.out R (permIn_trans _ _ _ _ _ HS.out g3) g4⟩,inferInstance,inferInstance,inferInstance⟩
              · obtain⟨ha0,hnl⟩:=aB.out rfl;have aw:=ae.mk hnl;clear hnl
                go_wp2_with (first|(go_at_call 197;refine(AH So.out a1 b1 q _ rfl (by omega) (by omega) (by omega)).mono ?_;rintro e w3 ⟨mid,F,hx,rfl,hs,hg⟩;have k1:=So.mk hs;have k2:=Gb.mk hg;obtain⟨r1,r2,r3,I,J⟩:=round_eq oP (partitionEqual_holds aK) ha0 hq1 ak al ad.out aw.out hx;have O:=ae.mk I;have U:=ae.mk J;clear hs hg hx r3 I J))
                go_roundg (b1-mid)
                case measure=>omega
                case rel=>exact⟨mid,b1,l2,wb,wp,F,rfl,rfl,rfl,rfl,rfl,⟨⟨by omega,by omega,by omega,by omega,by omega⟩⟩,O,⟨fun R g1 g2=>by obtain⟨g3,g4⟩:=U.out R g1 g2;exact G.out R (permIn_trans _ _ _ _ _ HS.out g3) g4⟩,inferInstance,inferInstance,inferInstance⟩
theorem uU (C:dt) [dU C]:∀N,qZ C N
  |0=>fun _ _ _ _ _ _ h=>absurd h (Nat.not_lt_zero _)
  |N+1=>AQ C N (uU C N)
end S
namespace S
open Go.RowKit Go.Sort Go.Lib P Q V WW.bq
theorem uZ:Plain aW eI where
  len:=fun _=>rfl
  pos:=by decide
  of:=fun{w base ok x cs} h=>by
    obtain⟨c0,c1,rfl,⟨d0,d1,rfl,h0,h1⟩,e0,e1,rfl,h2,h3⟩:=h;rw[h0,h1,h2,h3];rfl
  make:=fun w base ok x=>kB w base ok x
theorem xr {C:dt} {w w':World} {base:Nat} {ok:Nat→Prop} {xs:List E} {D:Array E} (h:aW.R 64 w base ok (.slice (some ⟨C.g,0,none⟩) xs.length C.c) xs) (hs:cq C w' D) (hn:xs.length=C.n):
    aW.R 64 w' base ok (.slice (some ⟨C.g,0,none⟩) xs.length C.c) D.toList:=by
  obtain⟨hok,inner,ho,hr⟩:=h;rcases ho.2 with ⟨hn',_⟩|⟨g',cap',H,hv,hg,hh,hle,hmx,hcs,htk⟩
  · simp at hn'
  obtain⟨e1,e2⟩:C.g=g'∧C.c=cap':=by simpa using hv
  subst e1 e2;obtain⟨cur,hc,u⟩:=hs.shape;have hD:D.size=xs.length:=by rw[hs.size,hn]
  have hat:∀i,i<D.size→(cur.toList.drop (i*4)).take 4=eI D[i]! :=by
    intro i hi;obtain⟨a0,a1,a2,a3⟩:=hs.at_ i (by rw[←hs.size];exact hi);have e0:=(dH hc (i*4)).symm.trans a0;have e1:=(dH hc (i*4+1)).symm.trans a1;have e2:=(dH hc (i*4+2)).symm.trans a2;have e3:=(dH hc (i*4+3)).symm.trans a3;refine List.ext_getElem? fun c=> ?_;by_cases F:c<4
    · rw[tM F,Array.getElem?_toList];rcases c with _|_|_|_|c
      · exact e0
      · exact e1
      · exact e2
      · exact e3
      · omega
    · rw[List.getElem?_eq_none (by rw[List.length_take];omega),List.getElem?_eq_none (by show(eI D[i]!).length≤c;rw[pF];omega)]
  have hlen:D.toList.length=xs.length:=by simpa using hD
  have z:(cur.toList.take (xs.length*4)).length=xs.length*4:=by
    have hcl:cur.toList.length=C.c*4:=(by simpa using u);rw[List.length_take,hcl];exact Nat.min_eq_left (Nat.mul_le_mul_right 4 hle)
  refine⟨hok,cur.toList.take (xs.length*4),⟨?_,.inr ⟨C.g,C.c,cur,by rw[hlen],hg,hc,by rw[hlen];exact hle,hmx,u,by rw[hlen];rfl⟩⟩,?_,fun i x hx=> ?_⟩
  · rw[hlen];exact z
  · rw[hlen];exact z
  · have hi:i<D.size:=by have:=(List.getElem?_eq_some_iff.1 hx).1;simpa using this
    have G:D[i]! =x:=by
      have:=(List.getElem?_eq_some_iff.1 hx).2;rw[getElem!_pos D i hi];simpa using this
    have e:((cur.toList.take (xs.length*4)).drop (i*4)).take 4=eI x:=by
      rw[List.drop_take,List.take_take,Nat.min_eq_left (by rw[←hD];omega),hat i hi,G]
    show aW.M w' base _ x (((cur.toList.take (xs.length*4)).drop (i*4)).take 4);rw[e];exact uZ.make _ _ _ _
noncomputable def v_:TypeInfo:=(Tryz.prog.info? 28).get (by kernel_rfl)
noncomputable def jQ:TypeInfo:=(Tryz.prog.info? 64).get (by kernel_rfl)
theorem Cz (n:Nat) (h2:2≤n):Lib.swapperK n jQ 25=9:=by
  have a:jQ.hasPointers=false:=by kernel_rfl
  have b:jQ.bytes=32:=by kernel_rfl
  have c:(n==0)=false:=by simp;omega
  have d:(n==1)=false:=by simp;omega
  simp[Lib.swapperK,a,b,c,d]
theorem Ca (w:World) (g cap bs base:Nat) (ok:Nat→Prop) (xs:List E) (hR:aW.R 64 w base ok (.slice (some ⟨g,0,none⟩) xs.length cap) xs) (hB:w.heap[bs]? =some (.cells #[.slice (some ⟨g,0,none⟩) xs.length cap] 28 (0,0)))
    (hne:bs≠g) (h2:2≤xs.length) (h50:xs.length<50) (hf:∀x∈xs,lF x):
    Calls Tryz.prog 152 #[.iface 28 (.slice (some ⟨g,0,none⟩) xs.length cap),.func (.func 153) #[] #[.pointer (some ⟨bs,0,none⟩)]] w fun e w'=>e= .returned (.tuple #[])∧
      ∃D:Array E,PermIn 0 xs.length xs.toArray D∧SortedIn aK 0 xs.length D∧aW.R 64 w' base ok (.slice (some ⟨g,0,none⟩) xs.length cap) D.toList∧w.grownBy w' (some g):=by
  refine Any.sort_Slice_of_pdq qp 28 64 v_ jQ (by kernel_rfl) (by kernel_rfl) (by kernel_rfl) (by kernel_rfl) 25 (fun _=>by kernel_rfl) _ xs.length cap (by omega) 189 (by rw[Cz _ h2];kernel_rfl) _ _ _ w _ ?_
  have hbd:sliceBound Tryz.prog 64 jQ 25 (some ⟨g,0,none⟩) xs.length cap= #[.slice (some ⟨g,0,none⟩) xs.length cap,typeHandle Tryz.prog 64]:=by
    unfold sliceBound;rw[ag (swapperK_gt _ _ _ h2)]
  rw[hbd]
  let C:dt:=⟨g,bs,xs.length,cap,#[.pointer (some ⟨bs,0,none⟩)],#[.slice (some ⟨g,0,none⟩) xs.length cap,typeHandle Tryz.prog 64]⟩
  haveI:dU C:=⟨swapSwapsK_of_literal false 189 (fun args W=>run_callFunc_extern Tryz.func189 (by kernel_rfl) (by kernel_rfl) (by kernel_rfl) (e:=Extern.ReflectliteSwapper.swap false) (by kernel_rfl) args W) 64 jQ (by kernel_rfl) eI 4 (fun _=>rfl) (by kernel_rfl) (fun _=>by kernel_rfl) (fun x v hv=>by simp[eI]at hv;rcases hv with rfl|rfl|rfl|rfl<;>rfl) g 0 xs.length cap,h50,rfl,hne⟩
  have h0:cq C w xs.toArray:=by
    have z:=hR;obtain⟨_,inner,ho,_⟩:=z;rcases ho.2 with ⟨hn',_⟩|⟨g',cap',u,hv,hg,hh,hle,hmx,hcs,htk⟩
    · simp at hn'
    obtain⟨e1,e2⟩:g=g'∧cap=cap':=(by simpa using hv);subst e1 e2;exact⟨yN uZ hR,by simp[C],hB,eX hh,⟨u,hh,hcs⟩,fun x hx=>hf x (by simpa using hx)⟩
  have hbl:RowKit.Below w.heap.size w (sliceWorld Tryz.prog qq 28 (some ⟨g,0,none⟩) xs.length cap w):=cj (cj (RowKit.Below.refl _ _) _) _;have h1:=h0.below hbl;have G:Lib.bitLen xs.length≤62:=Lib.bitLen_le xs.length 62 (by omega) (by omega);have:=uU C (xs.length+1) _ _ h1 0 xs.length (Lib.bitLen xs.length) (by omega) (by omega) (Nat.le_refl _) (by omega) (.inl rfl) _ _ _ rfl rfl rfl;refine this.mono ?_;rintro e w' ⟨he,D,hs,hp,F,hg⟩;exact⟨he,D,hp,F,xr (C:=C) hR hs rfl,ja (jJ hbl) hg⟩
theorem Cb (w:World) (A:Option Addr) (n cap bs:Nat) (h1:n≤1):
    Calls Tryz.prog 152 #[.iface 28 (.slice A n cap),.func (.func 153) #[] #[.pointer (some ⟨bs,0,none⟩)]] w fun e w'=>e= .returned (.tuple #[])∧RowKit.Below w.heap.size w w':=by
  have hK:n=0∨n=1:=by omega
  have a:jQ.hasPointers=false:=by kernel_rfl
  have b:jQ.bytes=32:=by kernel_rfl
  have key:∀f,Tryz.prog.funcs.findIdx? (·.name== "internal/reflectlite" ++ ".Swapper$" ++toString (swapperK n jQ 25))=some f→Calls Tryz.prog 152 #[.iface 28 (.slice A n cap),.func (.func 153) #[] #[.pointer (some ⟨bs,0,none⟩)]] w fun e w'=>e= .returned (.tuple #[])∧RowKit.Below w.heap.size w w':=by
    intro f hf;refine(Any.sort_Slice_tiny qp 28 64 v_ jQ (by kernel_rfl) (by kernel_rfl) (by kernel_rfl) (by kernel_rfl) 25 (fun _=>by kernel_rfl) A n cap h1 f hf _ _ _ w).mono ?_;rintro e w' ⟨he,os,rfl⟩;exact⟨he,rfl,rfl,rfl,by simp,fun k hk=>heap_grow_old _ _ hk⟩
  rcases hK with rfl|rfl
  · exact key 181 (by rw[show swapperK 0 jQ 25=1 from rfl];kernel_rfl)
  · exact key 182 (by rw[show swapperK 1 jQ 25=2 from rfl];kernel_rfl)
end S
namespace P
open Go.RowKit WW.bq WW.cg WW.cd V
open Go.Maps (Keyed)
attribute [local go_sem] dN dO
set_option maxHeartbeats 8000000 in
set_option maxRecDepth 100000 in
set_option synthInstance.maxHeartbeats 400000 in
set_option synthInstance.maxSize 100000 in
theorem ji.xU (k:Nat) (A0:Option Addr) (c0:Nat) (l0:List (S64)) (w:World) (a0:Kd.C aW w A0 l0.length l0) (hc0:l0.length≤c0) (A:fW.f k l0=some true) (bp:l0.length≤30) (hw:∀x∈l0,cw x.f0.f0∧cw x.f0.f1) (hfl:∀x∈l0,0≤x.f1∧x.f1≤2):
    Calls Tryz.prog 132 #[.slice A0 l0.length c0] w fun e w'=>∃a2:Value,e= .returned (a2)∧Kd.R aW 64 w' w.heap.size (fun _=>True) a2 (Q.eN l0 l0.length)∧Below w.heap.size w w':=by
  have hl:l0.length≤1000:=by omega
  have a8:=ae.mk hfl;clear hfl;have i0:=bn.mk a0;have i1:=aq.mk hc0;have A:=ae.mk A;have HW:=ae.mk hw;clear a0 hc0 hw;have br:=Tryz.underlying64;have bq:=Tryz.underlying62;go_enter Tryz.func132,Tryz.ntmps132
  go_wp2_with (first
    |(go_at_call 56;refine(fW.c k _ _ _ true _ Rd.out aq.out A.out).mono ?_;rintro e w2 ⟨rfl,hb⟩;have bd:=az.mk hb;clear hb)
    |(go_at_call 133;refine(rN.c _ _ _ _ Rd.out aq.out hl HW.out).mono ?_;rintro e w3 ⟨b,rfl,hb1,hm,hb⟩;obtain⟨D,hD,aX⟩:=hm;have bd:=az.mk hb;have HD:=ae.mk hD;have aw:=ae.mk aX;have I:=ae.mk hb1;clear hb hb1 hD aX)
    |(at_range;refine wpList_range_own _ rfl _ 141 rfl 62 64 mA Tryz.underlying141 kd b l0.length D rfl HD.out ?_;intro w4 hrg hg hs;have F:=ae.mk hrg;have HG:=ae.mk hg;have HS:=ae.mk hs;clear hrg hg hs))
  go_frame
  have bj:=ae.mk (F.out.ne);have aT:=ae.mk (HD.out.size_le);have a_:=ae.mk (HD.out.lt);have J:ae (w2.heap.size+2≤w3.heap.size):=⟨by have hs:=(az.out (W:=w3)).size;simpa using hs⟩;have aM:ae (w2.heap.size+2≤b):=⟨by have:=I.out;simpa using this⟩;have ak:ae (w.heap.size≤w2.heap.size):=⟨Sz.out⟩;have ar:ae (Below w.heap.size w w4):=⟨(From.out:Below w.heap.size w w3).grown HG.out (Sz.out:w.heap.size≤w3.heap.size) (fun k hk=>by cases hk)⟩
  have u:ae (w4.heap[w2.heap.size+1]? =some (.cells #[.slice (some ⟨w2.heap.size,0,none⟩) 0 0] 28 (0,0))):=⟨by
    have h3:aU w3 (w2.heap.size+1) #[.slice (some ⟨w2.heap.size,0,none⟩) 0 0] 28:=⟨fV (by have:=gF (w2.alloc (.cells #[] 64 (0,0))) (.cells #[.slice (some ⟨w2.heap.size,0,none⟩) 0 0] 28 (0,0));simpa using this) (az.out (W:=w3))⟩;exact(HG.out.block _ (eX h3.out) (by simp)).trans h3.out⟩
  have aR:ae (Kd.R aW 64 w4 w.heap.size (fun j=>j≠w2.heap.size+1∧j≠b∧j≠w3.heap.size) (.slice (some ⟨w2.heap.size,0,none⟩) 0 0) []):=⟨by
    have h3:aU w3 w2.heap.size #[] 64:=⟨fV (aN (gF w2 (.cells #[] 64 (0,0))) (.cells #[.slice (some ⟨w2.heap.size,0,none⟩) 0 0] 28 (0,0))) (az.out (W:=w3))⟩;have h4:w4.heap[w2.heap.size]? =some (.cells #[] 64 (0,0)):=(HG.out.block _ (eX h3.out) (by simp)).trans h3.out;refine⟨fun k hk=> ?_,[],⟨rfl,.inr ⟨w2.heap.size,0,#[],rfl,ak.out,h4,Nat.le_refl _,Nat.zero_le _,rfl,rfl⟩⟩,aI.none _ _⟩;obtain rfl:w2.heap.size=k:=(by simpa[Value.ownBlock]using hk);exact⟨by omega,by have:=aM.out;omega,by have:=J.out;omega⟩⟩
  have ax:ae (Found (jm l0) (Maps.has D) []):=⟨⟨fun x hx=>by simp at hx,List.Pairwise.nil,fun p x h0 h1 hm hx hf=>by
    have e1:=Maps.atKey_of_not_has hf (.map []);have e2:=aw.out.at_ p h0 h1 (.map []);rw[hm]at e2;exact absurd (e1.symm.trans e2) (by simp[jL])⟩⟩
  go_loopg [] (Maps.size D+1) (fun be wr=>∃(left:Lit→Bool) (cnt:Nat) (v:Value) (xs:List S64),ae (be=cnt+1)∧ae (xs.length+cnt≤Maps.size D)∧ae (wr.ranges Tryz.prog 62 kd b w3.heap.size l0.length D left cnt)∧ae (Found (jm l0) left xs)∧ae (Kd.R aW 64 wr w.heap.size (fun j=>j≠w2.heap.size+1∧j≠b∧j≠w3.heap.size) v xs)∧ae (wr.heap[w2.heap.size+1]? =some (.cells #[v] 28 (0,0)))∧ae (Below w.heap.size w wr))
  case atStart=>exact⟨_,_,_,[],⟨rfl⟩,⟨by simp⟩,F,ax,aR,u,ar⟩
  case round=>
    clear F ax aR u ar HG;obtain⟨left,cnt,v,xs,HK,V,F,H,z,u,G⟩:=hrel
    go_wp2_with (first
      |(at_next;refine wpList_next_ranges _ rfl _ rfl 62 mA kd (fun p:bP=>lp p.f0 p.f1) nw (fun key kl h=>by obtain⟨a,b,rfl,_⟩:=ur h;exact⟨⟨a,b⟩,rfl⟩) (fun v y h=>by obtain⟨x,rfl,_⟩:=uX h;exact⟨x,rfl⟩) b w3.heap.size l0.length D left cnt rfl F.out ?_ ?_))
    rotate_left
    · intro p c kl y1 bf K cnt1 hk hlk hv hat hrg1 hlt hg1 hs1 hen
      obtain⟨p0,p1⟩:cw p.f0∧cw p.f1:=by
        obtain⟨a,b',e,ha,hb⟩:=ur hk;simp[lp]at e;rw[e.1,e.2];exact⟨ha,hb⟩
      obtain rfl:kl=fZ p.f0 p.f1:=aH (hk.symm.trans (my p0 p1))
      obtain⟨rfl,rfl⟩:y1=jL c∧bf=[]:=by
        have:=(r9 c).symm.trans hv;simp at this;exact⟨this.1.symm,this.2⟩
      have hm:=zJ aw.out p0 p1 hat
      obtain rfl:c.f0=p:=by
        have:=(Q.rP l0 p c l0.length (Nat.le_refl _)).mp (by rw[List.take_length];exact hm);obtain⟨_,_,_,e,_⟩:=this;exact e
      have HST:=ae.mk (H.out.step c p0 p1 hm hlk);have am:=ae.mk hrg1;have U:=ae.mk hlt;have aj:=ae.mk hg1;have bk:=ae.mk hs1;clear hk hlk hv hat hrg1 hlt hg1 hs1 hm H F;simp only[lp,nw]at hen ⊢;have al:=ae.mk (Kd.xm z.out aj.out (fun j hj e=>hj.2.2 (aH e)));have O:ae (K.heap[w2.heap.size+1]? =some (.cells #[v] 28 (0,0))):=⟨(aj.out.block _ (eX u.out) (fun e=>by have:=J.out;have:=aH e;omega)).trans u.out⟩;have I:ae (Below w.heap.size w K):=⟨G.out.grown aj.out G.out.size (fun k hk=>by cases hk;have:=J.out;have:=ak.out;omega)⟩;have a1:=aU.mk O.out;have bg:=ae.mk (show(if c.f1≠0 then xs++[c]else xs)=(if c.f1≠0 then xs++[c]else xs)from rfl);clear z u G;by_cases hc:c.f1=0
      · rw[ag (by simpa using hc)]at HST;obtain⟨bo,c1,c2⟩:=c;simp only at hc;subst hc;simp only at hen ⊢;go_wp2
        go_roundg (cnt1+1)
        case measure=>have:=HK.out;have:=U.out;omega
        case rel=>
          refine⟨_,cnt1,v,xs,⟨rfl⟩,⟨by have:=V.out;have:=U.out;omega⟩,⟨am.out.alloc _⟩,HST,⟨Kd.bm al.out _⟩,⟨aN O.out _⟩,⟨cj I.out _⟩⟩
      · rw[af hc]at HST;have hd:=beq_eq_false_iff_ne.mpr hc;have he:=bne_iff_ne.mpr hc
        go_upto_region 8 with (fail)
        generalize hW:K.alloc _=W;have X:ae (Kd.R aW 64 W w.heap.size (fun j=>j≠w2.heap.size+1∧j≠b∧j≠w3.heap.size) v xs):=⟨by rw[←hW];exact Kd.bm al.out _⟩;have ai:ae (W.heap[w2.heap.size+1]? =some (.cells #[v] 28 (0,0))):=⟨by rw[←hW];exact aN O.out _⟩;have au:ae (Below w.heap.size w W):=⟨by rw[←hW];exact cj I.out _⟩;have aQ:ae (W.ranges Tryz.prog 62 kd b w3.heap.size l0.length D _ cnt1):=⟨by rw[←hW];exact am.out.alloc _⟩;have bb:ae (w3.heap.size+1≤W.heap.size):=⟨aQ.out.lt⟩;have bs:aU W K.heap.size #[.int .i64 c.f0.f0,.int .i64 c.f0.f1,.int .i64 c.f1,.int .i64 c.f2] 64:=⟨by rw[←hW];exact gF K _⟩;have bt:=aU.mk ai.out;clear hW a1 al O I am
        go_wp2_with (first
          |(refine Kd.eF aW (w0:=w) w.heap.size rfl (.tmp 20) (.tmp 22) 28 64 (.agg #[(.int .i64 0),(.int .i64 0),(.int .i64 0),(.int .i64 0)]) 32 rfl Tryz.underlying28 ni rfl (by decide) (by omega) v xs c [.int .i64 c.f0.f0,.int .i64 c.f0.f1,.int .i64 c.f1,.int .i64 c.f2] (fun j=>j≠w2.heap.size+1∧j≠b∧j≠w3.heap.size) (fun _=>False) rfl rfl ?aP (fun _ hk=>hk.elim) ?aF ?aO ?aB ?aS ?aL ?_;(case aP=>exact kB _ _ _ c);(case aB=>exact au.out);(case aF=>intro j hj;have:=bb.out;have:=J.out;have:=a_.out;exact⟨by omega,by omega,by omega⟩);(case aO=>exact X.out);(case aS=>exact au.out.size);(case aL=>have:=V.out;have:=aT.out;omega);intro v1 a3 ho hb hg hat;obtain⟨B1,b1,rfl⟩:=Kd.bz ho;have HO:=ae.mk ho;have a7:=ae.mk hb;have aE:=ae.mk hg;have bc:aU a3 (w2.heap.size+1) #[v] 28:=⟨(aE.out.block _ (eX ai.out) (fun e=>(X.out.1 _ e.symm).1 rfl)).trans ai.out⟩;clear ho hb hg))
        go_roundg (cnt1+1)
        case measure=>have:=HK.out;have:=U.out;omega
        case rel=>
          refine⟨_,cnt1,.slice B1 (xs.length+1) b1,xs++[c],⟨rfl⟩,⟨by have:=V.out;have:=U.out;simp only[List.length_append,List.length_singleton];omega⟩,⟨?_⟩,HST,⟨?_⟩,⟨?_⟩,⟨?_⟩⟩
          · refine World.ranges.kept (aQ.out.kept aE.out (fun e=>(X.out.1 _ e.symm).2.1 rfl) (fun e=>(X.out.1 _ e.symm).2.2 rfl)) (grownBy_setCell' a3 _ _) (fun e=> ?_) (fun e=> ?_)
            · have:=aM.out;have:=aH e;omega
            · have:=J.out;have:=aH e;omega
          · refine Kd.aJ (by simpa using HO.out) (fun j hj=>hj.1) _
          · exact bw bc.out 0 _ rfl
          · exact fo a7.out (by have:=ak.out;omega)
    · intro hc0 hl0;have hall:=H.out.all
      have hnd:xs.Nodup:=by
        refine H.out.nodup.imp ?_;intro p q h e;exact h (by rw[e])
      have hmem:∀x,x∈xs↔jm l0 x.f0=some x∧x.f1≠0:=fun x=>⟨fun hx=>⟨(hall x hx).1,(hall x hx).2.1⟩,fun hx=>by
        have hin:x∈l0:=by
          have h9:=(Q.rW l0 x).mpr hx;obtain⟨i,_,_,h3⟩:=(Q.oA l0 x l0.length (Nat.le_refl _)).mp h9;exact List.mem_of_getElem? h3
        exact H.out.got x.f0 x (HW.out x hin).1 (HW.out x hin).2 hx.1 hx.2 (hl0 _)⟩
      have hin:∀x∈xs,x∈l0:=fun x hx=>by
        have h9:=(Q.rW l0 x).mpr ((hmem x).mp hx);obtain⟨i,_,_,h3⟩:=(Q.oA l0 x l0.length (Nat.le_refl _)).mp h9;exact List.mem_of_getElem? h3
      have hft:∀x∈xs,S.lF x:=fun x hx=>by
        have h8:=a8.out x (hin x hx);have h9:=((hmem x).mp hx).2;unfold S.lF;omega
      have aZ:∀D':Array S64,Sort.PermIn 0 xs.length xs.toArray D'→Sort.SortedIn Q.aK 0 xs.length D'→D'.toList=Q.eN l0 l0.length:=fun D' hp hs=>by
        obtain⟨h8,h9⟩:=Cc (lt:=Q.aK) (D:=xs.toArray) (D':=D') (by simpa using hp) (by simpa using hs) (fun a _ c _ hne=>Q.before_total hne) (by simpa using hnd);refine Q.Ao l0 _ h9 fun x=> ?_;rw[h8.mem_iff];simpa using hmem x
      have hsmall:xs.length<50:=(by have:=V.out;have:=aT.out;omega);have a9:=ae.mk hft;have aA:=ae.mk aZ;clear hall hnd hmem hin hft aZ H F;have a1:=aU.mk u.out;by_cases h2:2≤xs.length
      · obtain⟨g,cap,rfl,hg1,hg2,_⟩:=Kd.kR z.out (by omega);have hne:w2.heap.size+1≠g:=fun e=>(z.out.1 g (by simp[Value.ownBlock])).1 e.symm
        go_wp2_with (first
          |(go_at_call 152;refine(S.Ca wr g cap (w2.heap.size+1) w.heap.size _ xs z.out u.out hne h2 hsmall a9.out).mono ?_;rintro e ad ⟨rfl,a5,hp,Z,aY,ap⟩;have bv:aU ad (w2.heap.size+1) #[.slice (some ⟨g,0,none⟩) xs.length cap] 28:=⟨(ap.block _ (eX u.out) (fun e=>hne (aH e))).trans u.out⟩;have a6:=ae.mk (aA.out a5 hp Z);have ao:=ae.mk aY;have B9:ae (Below w.heap.size w ad):=⟨G.out.grown ap G.out.size (fun k hk=>by cases hk;exact hg1)⟩;clear hp Z aY ap))
        go_ret;refine⟨_,rfl,?_,B9.out⟩;rw[←a6.out];exact Kd.bh ao.out (fun _ _=>trivial)
      · obtain⟨a4,cap,rfl⟩:=Kd.bz z.out
        go_wp2_with (first
          |(go_at_call 152;refine(S.Cb wr a4 xs.length cap (w2.heap.size+1) (by omega)).mono ?_;rintro e ad ⟨rfl,Y⟩;have bu:=az.mk Y;have ao:=ae.mk (Kd.aV z.out Y);have B9:ae (Below w.heap.size w ad):=⟨aC G.out Y⟩;clear Y))
        go_ret;refine⟨_,rfl,?_,B9.out⟩;have hp:Sort.PermIn 0 xs.length xs.toArray xs.toArray:=Sort.permIn_refl _ _ _;have Z:Sort.SortedIn Q.aK 0 xs.length xs.toArray:=fun i j _ h1 h2=>by omega
        rw[←aA.out xs.toArray hp Z];exact Kd.bh ao.out (fun _ _=>trivial)
set_option maxHeartbeats 8000000 in
set_option maxRecDepth 100000 in
set_option synthInstance.maxHeartbeats 400000 in
set_option synthInstance.maxSize 100000 in
theorem ji.xT (k:Nat) (A0:Option Addr) (c0:Nat) (l0:List (S64)) (w:World) (u:Kd.C aW w A0 l0.length l0) (hc0:l0.length≤c0) (A:fW.f k l0=some false):
    Calls Tryz.prog 132 #[.slice A0 l0.length c0] w fun e w'=>∃z:Value,e= .returned (z)∧Kd.R aW 64 w' w.heap.size (fun _=>True) z ([]:List S64)∧Below w.heap.size w w':=by
  have i0:=bn.mk u;have i1:=aq.mk hc0;have A:=ae.mk A;clear u hc0;go_enter Tryz.func132,Tryz.ntmps132
  go_wp2_with (first
    |(go_at_call 56;refine(fW.c k _ _ _ false _ Rd.out aq.out A.out).mono ?_;rintro e w2 ⟨rfl,hb⟩;have D:=az.mk hb;clear hb))
  go_ret;exact⟨_,rfl,Kd.bj _ _ _ _ _,From.out⟩
end P
namespace P
open Go.RowKit WW.bq WW.cg WW.cd V
attribute [local go_sem] dN dO
attribute [local go_sem] cN cR cQ cU cP cT cO cS
def ji.f (l0:List (S64)):Option (List (S64)):=if l0.length≤1048577 then some (if Q.dK l0=true then Q.eN l0 l0.length else[])else none
theorem ji.c (A0:Option Addr) (c0:Nat) (l0:List (S64)) (r:List (S64)) (w:World) (u:Kd.C aW w A0 l0.length l0) (hc0:l0.length≤c0) (h:ji.f l0=some r):
  Calls Tryz.prog 132 #[.slice A0 l0.length c0] w fun e w'=>∃z:Value,e= .returned (z)∧Kd.R aW 64 w' w.heap.size (fun _=>True) z r∧Below w.heap.size w w':=by
 unfold ji.f at h;by_cases h0:l0.length≤1048577;rotate_left
 ·rw[ag h0]at h;cases h
 rw[af h0]at h;obtain⟨k,hk⟩:=Q.pV l0 h0;have A:=hk k (Nat.le_refl _);by_cases hb:Q.dK l0=true
 ·rw[af hb]at h;rw[hb]at A;obtain⟨h1,h2,h3⟩:=zF hb;obtain rfl:=aH h;exact ji.xU k A0 c0 l0 w u hc0 A h1 h2 h3
 ·rw[ag hb]at h;rw[Bool.eq_false_iff.mpr hb]at A;obtain rfl:=aH h;exact ji.xT k A0 c0 l0 w u hc0 A
end P
namespace P
set_option maxHeartbeats 8000000
set_option maxRecDepth 100000
open Go.RowKit WW.bq WW.cg WW.cd
attribute [local go_sem] cN cR cQ cU cP cT cO cS
def ng.f (l0:List (S64)):Option (Int×Int×Bool):=(ji.f l0).bind fun u=>(if(u.length:Int)=0 then(some (0,0,false))else(if 0<(u.length:Int)then(some ((au u 0).f0.f0,(au u 0).f0.f1,true))else(none)))
theorem ng.c (A0:Option Addr) (c0:Nat) (l0:List (S64)) (r1:Int) (r2:Int) (r3:Bool) (w:World) (am:Kd.C aW w A0 l0.length l0) (hc0:l0.length≤c0) (h:ng.f l0=some (r1,r2,r3)):
  Calls Tryz.prog 104 #[.slice A0 l0.length c0] w fun e w'=>e= .returned (.tuple #[.agg #[.int .i64 r1,.int .i64 r2],.bool r3])∧Below w.heap.size w w':=by
 have a4:=Tryz.underlying62;have al:=A_ am;have ak:=A_ hc0;clear am hc0;have z:=A_ (Below.refl w.heap.size w);have H:((ji.f l0).bind fun u=>(if(u.length:Int)=0 then(some (0,0,false))else(if 0<(u.length:Int)then(some ((au u 0).f0.f0,(au u 0).f0.f1,true))else(none))))=some (r1,r2,r3):=h;clear h;replace H:=aD H;obtain⟨u,aj,H⟩:=H
 (try dsimp only at H)
 have A2:=A_ aj;clear aj;by_cases c3:(u.length:Int)=0
 ·rw[af c3]at H;have aq:((u.length:Int)==0)=true:=beq_iff_eq.mpr c3;have aw:((u.length:Int) != 0)=false:=bne_eq_false_iff_eq.mpr c3;clear c3;simp only[Option.some.injEq,Prod.mk.injEq]at H;obtain⟨rfl,rfl,rfl⟩:=H;go_enter Tryz.func104,Tryz.ntmps104
  go_wp2_with (first|((with_reducible refine ax (N:=2) rfl ?_);refine bX (N:=2) (cs:= #[.int .i64 0,.int .i64 0]) (t:=62) ?_;intro J hg w4 K hb;have F:=A_ (aC (oB z) hb);have G:=A_ (K);have I:=A_ ((by rw[hg];exact(aA (oB z)):w.heap.size≤J));have U:=A_ ((by rw[hg];exact(aA (oB z)):w.heap.size≤J));clear z;have z:=F;have D:=G;have ap:=I;have ao:=U;clear F G I U hb K hg)|((with_reducible refine aZ (f:=132) rfl ?_);refine gL (some 6) Tryz.func132 #[.slice A0 l0.length c0] ?_;(with_reducible refine(ji.c _ _ l0 u _ ?a6 ?a7 A2.out).mono ?_);(case a6=>exact bO al.out);(case a7=>exact ak.out);rintro e a9 ⟨aF,rfl,O,hb⟩;refine⟨_,rfl,?_⟩;have F:=A_ (Kd.bE O (aA (oB z)));have G:=A_ (bb D hb);have I:=A_ (aC (oB z) hb);clear D z;have V:=F;have D:=G;have z:=I;clear F G I;(try clear hb);(try clear hb2);(try clear hk);(try clear hi);(try clear O);obtain⟨aJ,aR,aE⟩:=Kd.bz V.out;subst aE;have aV:=cz D 0;have aX:=cz D 1;have a2:=ar D.out 0;have a3:=ar D.out 1))
  refine bodyPost_ret (di rfl _ _ J 62 #[.int .i64 0,.int .i64 0] (0,0) _ rfl (by(with_reducible repeat(first|refine aT ?_ _|refine aM ?_|refine aN ?_ _));refine bw (cs:= #[.int .i64 0,.int .i64 0]) ?_ 1 _ rfl;(with_reducible repeat(first|refine aT ?_ _|refine aM ?_|refine aN ?_ _));refine bw (cs:= #[.int .i64 0,.int .i64 0]) ?_ 0 _ rfl;(with_reducible repeat(first|refine aT ?_ _|refine aM ?_|refine aN ?_ _));exact D.out) Tryz.underlying62 rfl (by kernel_rfl)) rfl ?_;exact⟨eR,oB z⟩
 ·rw[ag c3]at H;have aq:((u.length:Int)==0)=false:=beq_eq_false_iff_ne.mpr c3;have aw:((u.length:Int) != 0)=true:=bne_iff_ne.mpr c3;have aL:¬(u=[]):=fun h_=>c3 (by rw[h_];rfl);by_cases c8:0<(u.length:Int)
  ·rw[af c8]at H;have aO:decide (0<(u.length:Int))=true:=ah c8;have aP:decide (0<u.length)=true:=ah (by omega);clear c8;simp only[Option.some.injEq,Prod.mk.injEq]at H;obtain⟨rfl,rfl,rfl⟩:=H;go_enter Tryz.func104,Tryz.ntmps104
   go_wp2_with (first|((with_reducible refine ax (N:=2) rfl ?_);refine bX (N:=2) (cs:= #[.int .i64 0,.int .i64 0]) (t:=62) ?_;intro J hg a_ K hb;have F:=A_ (aC (oB z) hb);have G:=A_ (K);have I:=A_ ((by rw[hg];exact(aA (oB z)):w.heap.size≤J));have U:=A_ ((by rw[hg];exact(aA (oB z)):w.heap.size≤J));clear z;have z:=F;have D:=G;have ap:=I;have ao:=U;clear F G I U hb K hg)|((with_reducible refine aZ (f:=132) rfl ?_);refine gL (some 6) Tryz.func132 #[.slice A0 l0.length c0] ?_;(with_reducible refine(ji.c _ _ l0 u _ ?a6 ?a7 A2.out).mono ?_);(case a6=>exact bO al.out);(case a7=>exact ak.out);rintro e a8 ⟨aF,rfl,O,hb⟩;refine⟨_,rfl,?_⟩;have F:=A_ (Kd.bE O (aA (oB z)));have G:=A_ (bb D hb);have I:=A_ (aC (oB z) hb);clear D z;have V:=F;have D:=G;have z:=I;clear F G I;(try clear hb);(try clear hb2);(try clear hk);(try clear hi);(try clear O);obtain⟨aI,aQ,aB⟩:=Kd.bz V.out;subst aB;have ae:0≤(0:Int):=(by omega);have ai:0<(u.length:Int):=oD;obtain⟨aK,az,X,Y,Z,ad⟩:=eW (Kd.aY V.out).2.2 0 ae ai;cases az;have a5:(0<u.length)=True:=av (by omega);(try rw[show((0:Int)).toNat=0 from rfl]at X);(try rw[show 0*4=0 from rfl]at X);(try rw[Addr.add_zero']at X);(try rw[show((0:Int)).toNat=0 from rfl]at Y);(try rw[show 0*4=0 from rfl]at Y);(try rw[Addr.add_zero']at Y);(try rw[show((0:Int)).toNat=0 from rfl]at Z);(try rw[show 0*4=0 from rfl]at Z);(try rw[Addr.add_zero']at Z);(try rw[show((0:Int)).toNat=0 from rfl]at ad);(try rw[show 0*4=0 from rfl]at ad);(try rw[Addr.add_zero']at ad);replace ae:=av ae;replace ai:=av ai;have aS:=cz D 0;have aU:=cz D 1;have a0:=ar D.out 0;have a1:=ar D.out 1))
   refine bodyPost_ret (di rfl _ _ J 62 #[.int .i64 ((au u 0).f0.f0),.int .i64 ((au u 0).f0.f1)] (0,0) _ rfl (by(with_reducible repeat(first|refine aT ?_ _|refine aM ?_|refine aN ?_ _));refine bw (cs:= #[.int .i64 ((au u 0).f0.f0),.int .i64 0]) ?_ 1 _ rfl;(with_reducible repeat(first|refine aT ?_ _|refine aM ?_|refine aN ?_ _));refine bw (cs:= #[.int .i64 0,.int .i64 0]) ?_ 0 _ rfl;(with_reducible repeat(first|refine aT ?_ _|refine aM ?_|refine aN ?_ _));exact D.out) Tryz.underlying62 rfl (by kernel_rfl)) rfl ?_;exact⟨eR,oB z⟩
  ·rw[ag c8]at H;exact absurd H (by simp)
end P
namespace P
set_option maxHeartbeats 8000000
set_option maxRecDepth 100000
set_option synthInstance.maxHeartbeats 400000
set_option synthInstance.maxSize 100000
open Go.RowKit WW.bq WW.cg WW.cd V
attribute [local go_sem] dN dO
attribute [local go_sem] cN cR cQ cU cP cT cO cS
def mj.f (k:Nat) (l0:List (S64)) (a1:Int):Option ((List (S64))×Bool):=(ng.f l0).bind fun u=>(if u.2.2=true then((gp.f k l0 u.1 u.2.1 0 a1).bind fun z=>(some (z.1,z.2)))else((iA.f l0).bind fun D=>(some (D,false))))
theorem mj.c (k:Nat) (A0:Option Addr) (c0:Nat) (l0:List (S64)) (a1:Int) (r1:List (S64)) (r2:Bool) (w:World) (z:Kd.C aW w A0 l0.length l0) (hc0:l0.length≤c0) (h:mj.f k l0 a1=some (r1,r2)):
  Calls Tryz.prog 65 #[.slice A0 l0.length c0,.int .i64 a1] w fun e w'=>∃F:Value,e= .returned (.tuple #[F,.bool r2])∧Kd.R aW 64 w' w.heap.size (fun _=>True) F r1∧Below w.heap.size w w':=by
 replace z:=bn.mk z;replace hc0:=aq.mk hc0;unfold mj.f at h;have H:=Tryz.underlying62
 all_goals go_enter Tryz.func65,Tryz.ntmps65
 all_goals go_wp2_with ((first
  |((with_reducible refine ax (N:=6) rfl ?_);refine bV #[.int .i64 0,.int .i64 0] 62 fun g w1 j1 j2 I=> ?_)
  |(go_at_call 104;replace h:=bI h;obtain⟨⟨t1,t2,t3⟩,A,h⟩:=h;(try dsimp only at h);refine(ng.c _ _ _ _ _ _ _ Rd.out aq.out A).mono ?_;rintro e w2 ⟨rfl,hb⟩;have D:=az.mk hb;clear A hb)
  |(go_at_call 102;replace h:=bI h;obtain⟨⟨t1,t2⟩,A,h⟩:=h;(try dsimp only at h);refine(gp.c _ _ _ _ _ _ _ _ _ _ _ Rd.out aq.out A).mono ?_;rintro e w2 ⟨v0,rfl,u,hb⟩;obtain⟨G,b0,rfl,j0,q0⟩:=aQ u;have D:=az.mk hb;clear A u hb)
  |(go_at_call 54;replace h:=bI h;obtain⟨t,A,h⟩:=h;(try dsimp only at h);refine(iA.c _ _ _ _ _ Rd.out aq.out A).mono ?_;rintro e w2 ⟨v0,rfl,u,hb⟩;obtain⟨G,b0,rfl,j0,q0⟩:=aQ u;have D:=az.mk hb;clear A u hb));(repeat' first|((with_reducible replace h:=bU h);rcases h with ⟨hc,h⟩|⟨hc,h⟩<;>first|exact(bL h).elim|exact absurd hc (by decide)|subst hc|(replace hc:=bA hc;subst hc)|(have hd:=bQ hc;have he:=bR hc;clear hc)|(have hd:=bS hc;have he:=bT hc)|(have hd:=ay hc)|(have hd:=ah hc)|skip));all_goals(try have hn:decide (0<t.length)=true:=ah (by omega));all_goals(try have hn:decide (0<t.length)=false:=ay (by omega)))
 all_goals simp only[Option.some.injEq,Prod.mk.injEq]at h
 all_goals obtain⟨rfl,rfl⟩:=h
 all_goals go_ret2
 all_goals exact⟨_,rfl,(by first|exact bl|exact Kd.bj _ _ _ _ _),From.out⟩
end P
namespace P
set_option maxHeartbeats 8000000
set_option maxRecDepth 100000
set_option synthInstance.maxHeartbeats 400000
set_option synthInstance.maxSize 100000
open Go.RowKit WW.bq WW.cg WW.cd V
attribute [local go_sem] dN dO iY kV kX lK lQ
attribute [local go_sem] cN cR cQ cU cP cT cO cS
def bJ.j0:Nat→Bool→List (aj)→Int→List Int→Int→Int→List (S64)→Int→Int→Int→Int→Option ((List (aj))×Int×List Int×Int×Int×(List (S64))×Int)
 |0,_,_,_,_,_,_,_,_,_,_,_=>none
 |k+1,aw,D,F,G,H,u,z,Y,ad,ai,au=>if aw=true then((e5.f D F G H u z).bind fun U=>(some (U.1,U.2.1,U.2.2.1,U.2.2.2.1,U.2.2.2.2.1,U.2.2.2.2.2,(-1))))else(if Y=1 then((mo.f k D F G H u z).bind fun I=>((iC.f I.2.2.2.2.2.2).bind fun ak=>(some (I.1,I.2.1,I.2.2.1,I.2.2.2.1,I.2.2.2.2.1,I.2.2.2.2.2.1,ak))))else(if Y=2 then((mq.f k D F G H u z ad).bind fun J=>((iC.f J.2.2.2.2.2.2).bind fun al=>(some (J.1,J.2.1,J.2.2.1,J.2.2.2.1,J.2.2.2.2.1,J.2.2.2.2.2.1,al))))else(if Y=3 then((mm.f k D F G H u z ad ai au).bind fun K=>((iC.f K.2.2.2.2.2.2).bind fun am=>(some (K.1,K.2.1,K.2.2.1,K.2.2.2.1,K.2.2.2.2.1,K.2.2.2.2.2.1,am))))else(if Y=4 then((mn.f k D F G H u z ad ai).bind fun O=>((iC.f O.2.2.2.2.2.2).bind fun ao=>(some (O.1,O.2.1,O.2.2.1,O.2.2.2.1,O.2.2.2.2.1,O.2.2.2.2.2.1,ao))))else(if Y=5 then((e5.f D F G H u z).bind fun Z=>((mj.f k z u).bind fun ae=>((iC.f ae.2).bind fun ap=>(some (Z.1,Z.2.1,Z.2.2.1,Z.2.2.2.1,Z.2.2.2.2.1,ae.1,ap)))))else(if Y=6 then((e5.f D F G H u z).bind fun V=>((ik.f k D F G H u z).bind fun aq=>(some (V.1,V.2.1,V.2.2.1,V.2.2.2.1,V.2.2.2.2.1,V.2.2.2.2.2,aq))))else((e5.f D F G H u z).bind fun X=>((gS.f k D F G H u z ad).bind fun ar=>(some (X.1,X.2.1,X.2.2.1,X.2.2.2.1,X.2.2.2.2.1,X.2.2.2.2.2,ar))))))))))
def bJ.f (k:Nat) (J:List (aj)) (u:Int) (K:List Int) (z:Int) (D:Int) (O:List (S64)) (F:Int) (G:Int) (H:Int) (I:Int):Option ((List (aj))×Int×List Int×Int×Int×(List (S64))×Int):=(eD.f k J u K z D O).bind fun U=>(if U=true then((eC.f k F G H I).bind fun V=>(bJ.j0 k (!V) J u K z D O F G H I))else(bJ.j0 k true J u K z D O F G H I))
def bJ.tx:Bool×List (List Nat×List Nat):=(true,[([],[]),([0],[0]),([],[]),([],[]),([3],[3]),([2,4,1],[2,4]),([1,5,0,1],[1]),([5,6,0,1,2,3,4,5,6],[5])])
def bJ.wN:List Nat:=[0,1,0,0,8,31,63,127]
theorem bJ.CG:bo .any (opsOf Tryz.f29 23)=bJ.tx:=by kernel_rfl
theorem bJ.xP:cp bJ.tx.2 bJ.wN=true:=by kernel_rfl
noncomputable def bJ.T6:Bool×List (List Nat×List Nat):=bo .any (opsOf Tryz.f29 6)
def bJ.B6:List Nat:=[0,0,2,7,15]
theorem bJ.sO:bo .any (opsOf Tryz.f29 6)=bJ.T6:=rfl
theorem bJ.rA:cp bJ.T6.2 bJ.B6=true:=by kernel_rfl
noncomputable def bJ.T9:Bool×List (List Nat×List Nat):=bo .any (opsOf Tryz.f29 9)
def bJ.B9:List Nat:=[0,0,2,7,15]
theorem bJ.qw:bo .any (opsOf Tryz.f29 9)=bJ.T9:=rfl
theorem bJ.pw:cp bJ.T9.2 bJ.B9=true:=by kernel_rfl
noncomputable def bJ.tk:Bool×List (List Nat×List Nat):=bo .any (opsOf Tryz.f29 12)
def bJ.wI:List Nat:=[0,0,2,7,15]
theorem bJ.CC:bo .any (opsOf Tryz.f29 12)=bJ.tk:=rfl
theorem bJ.xL:cp bJ.tk.2 bJ.wI=true:=by kernel_rfl
noncomputable def bJ.nR:Bool×List (List Nat×List Nat):=bo .any (opsOf Tryz.f29 15)
def bJ.qO:List Nat:=[0,0,2,7,15]
theorem bJ.oU:bo .any (opsOf Tryz.f29 15)=bJ.nR:=rfl
theorem bJ.nX:cp bJ.nR.2 bJ.qO=true:=by kernel_rfl
noncomputable def bJ.nS:Bool×List (List Nat×List Nat):=bo .any (opsOf Tryz.f29 20)
def bJ.qQ:List Nat:=[0,0,2,7,15]
theorem bJ.sN:bo .any (opsOf Tryz.f29 20)=bJ.nS:=rfl
theorem bJ.rz:cp bJ.nS.2 bJ.qQ=true:=by kernel_rfl
noncomputable def bJ.tv:Bool×List (List Nat×List Nat):=bo .any (opsOf Tryz.f29 22)
def bJ.wM:List Nat:=[0,1,0,7,15,31]
theorem bJ.CF:bo .any (opsOf Tryz.f29 22)=bJ.tv:=rfl
theorem bJ.xO:cp bJ.tv.2 bJ.wM=true:=by kernel_rfl
theorem bJ.c (k:Nat) (ad:Option Addr) (aw:Nat) (X:List (aj)) (ak:Int) (ae:Option Addr) (aA:Nat) (Y:List Int) (al:Int) (am:Int) (ai:Option Addr) (aB:Nat) (Z:List (S64)) (ao:Int) (ap:Int) (ar:Int) (au:Int) (r1:List (aj)) (r2:Int) (r3:List Int) (aL:Int) (aM:Int) (aN:List (S64)) (aO:Int) (w:World) (aI:Kd.C aX w ad X.length X) (aC:X.length≤aw) (aJ:Kd.C (Kd.int .i64) w ae Y.length Y) (aE:Y.length≤aA) (aK:Kd.C aW w ai Z.length Z) (aF:Z.length≤aB) (h:bJ.f k X ak Y al am Z ao ap ar au=some (r1,r2,r3,aL,aM,aN,aO)):
  Calls Tryz.prog 29 #[.agg #[.slice ad X.length aw,.int .i64 ak,.slice ae Y.length aA,.int .i64 al,.int .i64 am,.slice ai Z.length aB],.agg #[.int .i64 ao,.int .i64 ap,.int .i64 ar,.int .i64 au]] w fun e w'=>∃aP aR aS:Value,e= .returned (.tuple #[.agg #[aP,.int .i64 r2,aR,.int .i64 aL,.int .i64 aM,aS],.int .i64 aO])∧Kd.R aX 110 w' w.heap.size (fun _=>True) aP r1∧Kd.R (Kd.int .i64) 3 w' w.heap.size (fun _=>True) aR r3∧Kd.R aW 64 w' w.heap.size (fun _=>True) aS aN∧Below w.heap.size w w':=by
 replace aI:=bn.mk aI;replace aC:=aq.mk aC;replace aJ:=bn.mk aJ;replace aE:=aq.mk aE;replace aK:=bn.mk aK;replace aF:=aq.mk aF;have a1:=cL.mk (d:=aX) (e:=110) (t:=3) (by decide);have a2:=cL.mk (d:=aX) (e:=110) (t:=30) (by decide);have a3:=cL.mk (d:=aX) (e:=110) (t:=57) (by decide);have a4:=cL.mk (d:=aW) (e:=64) (t:=3) (by decide);have a5:=cL.mk (d:=aW) (e:=64) (t:=30) (by decide);have a6:=cL.mk (d:=aW) (e:=64) (t:=57) (by decide);unfold bJ.f at h;have aY:=Tryz.underlying30;have aZ:=Tryz.underlying57;have a0:=Tryz.underlying62
 all_goals go_enter Tryz.func29,Tryz.ntmps29
 all_goals go_wp2_with ((first
  |((with_reducible refine ax (N:=2) rfl ?_);refine bV #[.slice ad X.length aw,.int .i64 ak,.slice ae Y.length aA,.int .i64 al,.int .i64 am,.slice ai Z.length aB] 30 fun g w1 j1 j2 O=> ?_)
  |((with_reducible refine ax (N:=3) rfl ?_);refine bV #[.int .i64 ao,.int .i64 ap,.int .i64 ar,.int .i64 au] 57 fun g w1 j1 j2 O=> ?_)
  |((with_reducible refine ax (N:=4) rfl ?_);refine bV #[.slice none 0 0,.int .i64 0,.slice none 0 0,.int .i64 0,.int .i64 0,.slice none 0 0] 30 fun g w1 j1 j2 O=> ?_)
  |((with_reducible refine ax (N:=6) rfl ?_);refine bV #[.slice none 0 0,.int .i64 0,.slice none 0 0,.int .i64 0,.int .i64 0,.slice none 0 0] 30 fun g w1 j1 j2 O=> ?_)
  |((with_reducible refine ax (N:=8) rfl ?_);refine bV #[.slice none 0 0,.int .i64 0,.slice none 0 0,.int .i64 0,.int .i64 0,.slice none 0 0] 30 fun g w1 j1 j2 O=> ?_)
  |((with_reducible refine ax (N:=10) rfl ?_);refine bV #[.slice none 0 0,.int .i64 0,.slice none 0 0,.int .i64 0,.int .i64 0,.slice none 0 0] 30 fun g w1 j1 j2 O=> ?_)
  |((with_reducible refine ax (N:=12) rfl ?_);refine bV #[.slice none 0 0,.int .i64 0,.slice none 0 0,.int .i64 0,.int .i64 0,.slice none 0 0] 30 fun g w1 j1 j2 O=> ?_)
  |((with_reducible refine ax (N:=14) rfl ?_);refine bV #[.slice none 0 0,.int .i64 0,.slice none 0 0,.int .i64 0,.int .i64 0,.slice none 0 0] 30 fun g w1 j1 j2 O=> ?_)
  |(go_at_call 28;(try rw[I.out]);replace h:=bI h;obtain⟨t,A,h⟩:=h;(try dsimp only at h);refine(eD.c _ _ _ _ _ _ _ _ _ _ _ _ _ _ _ Rd.out aq.out Rd.out aq.out Rd.out aq.out A).mono ?_;rintro e w2 ⟨rfl,hb⟩;have H:=az.mk hb;clear A hb)
  |(go_at_call 59;(try rw[I.out]);replace h:=bI h;obtain⟨t,A,h⟩:=h;(try dsimp only at h);refine(eC.c _ _ _ _ _ _ _ A).mono ?_;rintro e w2 ⟨rfl,hb⟩;have H:=az.mk hb;clear A hb)
  |(go_at_call 27;(try rw[I.out]);replace h:=bI h;obtain⟨⟨t1,t2,t3,t4,t5,t6⟩,A,h⟩:=h;(try dsimp only at h);refine(e5.c _ _ _ _ _ _ _ _ _ _ _ _ _ _ _ _ _ _ _ Rd.out aq.out Rd.out aq.out Rd.out aq.out A).mono ?_;rintro e w2 ⟨v0,v1,v2,rfl,z,D,F,hb⟩;obtain⟨J,b0,rfl,j0,q0⟩:=aQ z;obtain⟨B1,b1,rfl,j1,q1⟩:=aQ D;obtain⟨B2,b2,rfl,j2,q2⟩:=aQ F;have H:=az.mk hb;clear A z D F hb)
  |(go_at_call 60;(try rw[I.out]);replace h:=bI h;obtain⟨⟨t1,t2,t3,t4,t5,t6,t7⟩,A,h⟩:=h;(try dsimp only at h);refine(mo.c _ _ _ _ _ _ _ _ _ _ _ _ _ _ _ _ _ _ _ _ _ Rd.out aq.out Rd.out aq.out Rd.out aq.out A).mono ?_;rintro e w2 ⟨v0,v1,v2,rfl,z,D,F,hb⟩;obtain⟨J,b0,rfl,j0,q0⟩:=aQ z;obtain⟨B1,b1,rfl,j1,q1⟩:=aQ D;obtain⟨B2,b2,rfl,j2,q2⟩:=aQ F;have H:=az.mk hb;clear A z D F hb)
  |(go_at_call 62;(try rw[I.out]);replace h:=bI h;obtain⟨⟨t1,t2,t3,t4,t5,t6,t7⟩,A,h⟩:=h;(try dsimp only at h);refine(mq.c _ _ _ _ _ _ _ _ _ _ _ _ _ _ _ _ _ _ _ _ _ _ Rd.out aq.out Rd.out aq.out Rd.out aq.out A).mono ?_;rintro e w2 ⟨v0,v1,v2,rfl,z,D,F,hb⟩;obtain⟨J,b0,rfl,j0,q0⟩:=aQ z;obtain⟨B1,b1,rfl,j1,q1⟩:=aQ D;obtain⟨B2,b2,rfl,j2,q2⟩:=aQ F;have H:=az.mk hb;clear A z D F hb)
  |(go_at_call 63;(try rw[I.out]);replace h:=bI h;obtain⟨⟨t1,t2,t3,t4,t5,t6,t7⟩,A,h⟩:=h;(try dsimp only at h);refine(mm.c _ _ _ _ _ _ _ _ _ _ _ _ _ _ _ _ _ _ _ _ _ _ _ _ Rd.out aq.out Rd.out aq.out Rd.out aq.out A).mono ?_;rintro e w2 ⟨v0,v1,v2,rfl,z,D,F,hb⟩;obtain⟨J,b0,rfl,j0,q0⟩:=aQ z;obtain⟨B1,b1,rfl,j1,q1⟩:=aQ D;obtain⟨B2,b2,rfl,j2,q2⟩:=aQ F;have H:=az.mk hb;clear A z D F hb)
  |(go_at_call 64;(try rw[I.out]);replace h:=bI h;obtain⟨⟨t1,t2,t3,t4,t5,t6,t7⟩,A,h⟩:=h;(try dsimp only at h);refine(mn.c _ _ _ _ _ _ _ _ _ _ _ _ _ _ _ _ _ _ _ _ _ _ _ Rd.out aq.out Rd.out aq.out Rd.out aq.out A).mono ?_;rintro e w2 ⟨v0,v1,v2,rfl,z,D,F,hb⟩;obtain⟨J,b0,rfl,j0,q0⟩:=aQ z;obtain⟨B1,b1,rfl,j1,q1⟩:=aQ D;obtain⟨B2,b2,rfl,j2,q2⟩:=aQ F;have H:=az.mk hb;clear A z D F hb)
  |(go_at_call 65;(try rw[I.out]);replace h:=bI h;obtain⟨⟨t1,t2⟩,A,h⟩:=h;(try dsimp only at h);refine(mj.c _ _ _ _ _ _ _ _ Rd.out aq.out A).mono ?_;rintro e w2 ⟨v0,rfl,z,hb⟩;obtain⟨J,b0,rfl,j0,q0⟩:=aQ z;have H:=az.mk hb;clear A z hb)
  |(refine qR (id:=6) (ds:=[3]) (l:= #[false,false,false,false,false]) bJ.sO bJ.rA ?_;intro u G w3 V u0 U hHeld;refine qA 1 (some 37) u ?_;refine qT 0 (some 36) u G hHeld ?_;replace h:=bI h;obtain⟨t,A,h⟩:=h;(try dsimp only at h);refine qC 2 38 Tryz.func61 u fun K hK=> ?_;refine(iC.c _ _ _ A).mono ?_;rintro e w2 ⟨rfl,n,rfl⟩;clear A;refine⟨_,rfl,hK _ _ From.out fun hHeld=> ?_⟩;clear hK K;refine qN ?_;refine qL 3 u ?_;refine qA 4 (some 5) u ?_;refine qD u ?_)
  |(refine qR (id:=9) (ds:=[3]) (l:= #[false,false,false,false,false]) bJ.qw bJ.pw ?_;intro u G w3 V u0 U hHeld;refine qA 1 (some 49) u ?_;refine qT 0 (some 48) u G hHeld ?_;replace h:=bI h;obtain⟨t,A,h⟩:=h;(try dsimp only at h);refine qC 2 50 Tryz.func61 u fun K hK=> ?_;refine(iC.c _ _ _ A).mono ?_;rintro e w2 ⟨rfl,n,rfl⟩;clear A;refine⟨_,rfl,hK _ _ From.out fun hHeld=> ?_⟩;clear hK K;refine qN ?_;refine qL 3 u ?_;refine qA 4 (some 5) u ?_;refine qD u ?_)
  |(refine qR (id:=12) (ds:=[3]) (l:= #[false,false,false,false,false]) bJ.CC bJ.xL ?_;intro u G w3 V u0 U hHeld;refine qA 1 (some 66) u ?_;refine qT 0 (some 65) u G hHeld ?_;replace h:=bI h;obtain⟨t,A,h⟩:=h;(try dsimp only at h);refine qC 2 67 Tryz.func61 u fun K hK=> ?_;refine(iC.c _ _ _ A).mono ?_;rintro e w2 ⟨rfl,n,rfl⟩;clear A;refine⟨_,rfl,hK _ _ From.out fun hHeld=> ?_⟩;clear hK K;refine qN ?_;refine qL 3 u ?_;refine qA 4 (some 5) u ?_;refine qD u ?_)
  |(refine qR (id:=15) (ds:=[3]) (l:= #[false,false,false,false,false]) bJ.oU bJ.nX ?_;intro u G w3 V u0 U hHeld;refine qA 1 (some 80) u ?_;refine qT 0 (some 79) u G hHeld ?_;replace h:=bI h;obtain⟨t,A,h⟩:=h;(try dsimp only at h);refine qC 2 81 Tryz.func61 u fun K hK=> ?_;refine(iC.c _ _ _ A).mono ?_;rintro e w2 ⟨rfl,n,rfl⟩;clear A;refine⟨_,rfl,hK _ _ From.out fun hHeld=> ?_⟩;clear hK K;refine qN ?_;refine qL 3 u ?_;refine qA 4 (some 5) u ?_;refine qD u ?_)
  |(refine qR (id:=20) (ds:=[3]) (l:= #[false,false,false,false,false]) bJ.sN bJ.rz ?_;intro u G w3 V u0 U hHeld;refine qA 1 (some 97) u ?_;refine qT 0 (some 96) u G hHeld ?_;replace h:=bI h;obtain⟨t,A,h⟩:=h;(try dsimp only at h);refine qC 2 98 Tryz.func61 u fun K hK=> ?_;refine(iC.c _ _ _ A).mono ?_;rintro e w2 ⟨rfl,n,rfl⟩;clear A;refine⟨_,rfl,hK _ _ From.out fun hHeld=> ?_⟩;clear hK K;refine qN ?_;refine qL 3 u ?_;refine qA 4 (some 5) u ?_;refine qD u ?_)
  |(refine qR (id:=22) (ds:=[4]) (l:= #[false,false,false,false,false,false]) bJ.CF bJ.xO ?_;intro u G w3 V u0 U hHeld;refine qT 0 (some 101) u G hHeld ?_;refine qT 2 (some 103) u G hHeld ?_;replace h:=bI h;obtain⟨⟨t1,t2,t3,t4,t5,t6⟩,A,h⟩:=h;(try dsimp only at h);refine qC 1 102 Tryz.func27 u fun K hK=> ?_;refine(e5.c _ _ _ _ _ _ _ _ _ _ _ _ _ _ _ _ _ _ _ Rd.out aq.out Rd.out aq.out Rd.out aq.out A).mono ?_;rintro e w2 ⟨v0,v1,v2,rfl,z,D,F,hb⟩;obtain⟨J,b0,rfl,j0,q0⟩:=aQ z;obtain⟨B1,b1,rfl,j1,q1⟩:=aQ D;obtain⟨B2,b2,rfl,j2,q2⟩:=aQ F;have H:=az.mk hb;clear A z D F hb;refine⟨_,rfl,hK _ _ From.out fun hHeld=> ?_⟩;clear hK K;refine qN ?_;replace h:=bI h;obtain⟨t,A,h⟩:=h;(try dsimp only at h);refine qC 3 104 Tryz.func66 u fun K hK=> ?_;refine(ik.c _ _ _ _ _ _ _ _ _ _ _ _ _ _ _ Rd.out aq.out Rd.out aq.out Rd.out aq.out A).mono ?_;rintro e w2 ⟨rfl,hb⟩;have H:=az.mk hb;clear A hb;refine⟨_,rfl,hK _ _ From.out fun hHeld=> ?_⟩;clear hK K;refine qN ?_;refine qL 4 u ?_;refine qA 5 (some 5) u ?_;refine qD u ?_)
  |(refine qR (id:=23) (ds:=[6]) (l:= #[false,false,false,false,false,false,false,false]) bJ.CG bJ.xP ?_;intro u G w3 V u0 U hHeld;refine qA 3 (some 108) u ?_;refine qT 0 (some 105) u G hHeld ?_;refine qT 2 (some 107) u G hHeld ?_;refine qT 4 (some 109) u G hHeld ?_;replace h:=bI h;obtain⟨⟨t1,t2,t3,t4,t5,t6⟩,A,h⟩:=h;(try dsimp only at h);refine qC 1 106 Tryz.func27 u fun K hK=> ?_;refine(e5.c _ _ _ _ _ _ _ _ _ _ _ _ _ _ _ _ _ _ _ Rd.out aq.out Rd.out aq.out Rd.out aq.out A).mono ?_;rintro e w2 ⟨v0,v1,v2,rfl,z,D,F,hb⟩;obtain⟨J,b0,rfl,j0,q0⟩:=aQ z;obtain⟨B1,b1,rfl,j1,q1⟩:=aQ D;obtain⟨B2,b2,rfl,j2,q2⟩:=aQ F;have H:=az.mk hb;clear A z D F hb;refine⟨_,rfl,hK _ _ From.out fun hHeld=> ?_⟩;clear hK K;refine qN ?_;replace h:=bI h;obtain⟨t,A,h⟩:=h;(try dsimp only at h);refine qC 5 110 Tryz.func67 u fun K hK=> ?_;refine(gS.c _ _ _ _ _ _ _ _ _ _ _ _ _ _ _ _ Rd.out aq.out Rd.out aq.out Rd.out aq.out A).mono ?_;rintro e w2 ⟨rfl,hb⟩;have H:=az.mk hb;clear A hb;refine⟨_,rfl,hK _ _ From.out fun hHeld=> ?_⟩;clear hK K;refine qN ?_;refine qL 6 u ?_;refine qA 7 (some 5) u ?_;refine qD u ?_));(repeat' first|((with_reducible replace h:=bU h);rcases h with ⟨hc,h⟩|⟨hc,h⟩<;>first|exact(bL h).elim|exact absurd hc (by decide)|subst hc|(replace hc:=bA hc;subst hc)|(replace hc:=dz hc;subst hc)|(replace hc:=dA hc;subst hc)|(have hd:(_==_)=true:=hc)|(have hd:(_==_)=false:=bA hc)|(have hd:=bQ hc;have he:=bR hc;clear hc)|(have hd:=bS hc;have he:=bT hc)|(have hd:=ay hc)|(have hd:=ah hc;(try(have hn:=Int.natCast_pos.mp hc;have hm:=ah hn;replace hn:=av hn));first|(obtain⟨aV,e_,i_⟩:=dy (by assumption) (by first|assumption|decide) hc;cases e_)|(obtain⟨aT,e_,c_⟩:=dv (by assumption) (by first|assumption|decide) hc;cases e_))|(have hd:=ah hc)|skip)|((with_reducible have hj:bJ.j0 k _ _ _ _ _ _ _ _ _ _ _=_:=h);clear hj;rcases k with _|k<;>rw[bJ.j0]at h<;>first|exact(bL h).elim|skip)|((with_reducible replace h:=dw h);obtain⟨I,h⟩:=h;replace I:=A_ I;(try dsimp only at h))))
 all_goals simp only[Option.some.injEq,Prod.mk.injEq]at h
 all_goals obtain⟨rfl,rfl,rfl,rfl,rfl,rfl,rfl⟩:=h
 all_goals refine bodyPost_ret (di rfl _ _ _ _ _ (0,0) _ rfl aU.out Tryz.underlying30 rfl (by kernel_rfl)) rfl ?_
 all_goals exact⟨_,_,_,rfl,(by first|exact bl|exact Kd.bj _ _ _ _ _|exact bZ|exact dJ (by simp)),(by first|exact bl|exact Kd.bj _ _ _ _ _|exact bZ|exact dJ (by simp)),(by first|exact bl|exact Kd.bj _ _ _ _ _|exact bZ|exact dJ (by simp)),From.out⟩
mutual
def ew.j0:Nat→List (bM)→Bool→List (aj)→Int→List Int→Int→Int→List (S64)→Option ((List (aj))×Int×List Int×Int×Int×(List (S64))×List Int)
 |0,_,_,_,_,_,_,_,_=>none
 |k+1,x1,I,u,z,D,F,G,H=>if I=true then(some (u,z,D,F,G,H,([]:List Int)))else(ew.l0 k (([]:List Int)) x1 (x1.length:Int) 0 u z D F G H)
def ew.l0:Nat→List Int→List (bM)→Int→Int→List (aj)→Int→List Int→Int→Int→List (S64)→Option ((List (aj))×Int×List Int×Int×Int×(List (S64))×List Int)
 |0,_,_,_,_,_,_,_,_,_,_=>none
 |k+1,F,D,U,u,G,H,I,J,K,O=>if u<U then(if 0≤u then(if u<(D.length:Int)then((bJ.f k G H I J K O ((iI D u).f0) ((iI D u).f1) ((iI D u).f2) ((iI D u).f3)).bind fun z=>(if F.length<17592186044416 then(ew.l0 k (F++[z.2.2.2.2.2.2]) D U (wrap64 (u+1)) z.1 z.2.1 z.2.2.1 z.2.2.2.1 z.2.2.2.2.1 z.2.2.2.2.2.1)else(none)))else(none))else(none))else(some (G,H,I,J,K,O,F))
end
def ew.f (k:Nat) (G:List (aj)) (z:Int) (H:List Int) (D:Int) (F:Int) (I:List (S64)) (l1:List (bM)):Option ((List (aj))×Int×List Int×Int×Int×(List (S64))×List Int):=(e5.f G z H D F I).bind fun u=>((eD.f k G z H D F I).bind fun J=>(if J=true then(ew.j0 k l1 (decide ((l1.length:Int)>40)) u.1 u.2.1 u.2.2.1 u.2.2.2.1 u.2.2.2.2.1 u.2.2.2.2.2)else(ew.j0 k l1 true u.1 u.2.1 u.2.2.1 u.2.2.2.1 u.2.2.2.2.1 u.2.2.2.2.2)))
theorem ew.c (k:Nat) (ai:Option Addr) (au:Nat) (X:List (aj)) (ao:Int) (ak:Option Addr) (aw:Nat) (Y:List Int) (ap:Int) (ar:Int) (al:Option Addr) (aA:Nat) (Z:List (S64)) (A1:Option Addr) (c1:Nat) (l1:List (bM)) (r1:List (aj)) (r2:Int) (r3:List Int) (aT:Int) (aV:Int) (aY:List (S64)) (aZ:List Int) (w:World) (br:Kd.C aX w ai X.length X) (bo:X.length≤au) (bs:Kd.C (Kd.int .i64) w ak Y.length Y) (bp:Y.length≤aw) (bt:Kd.C aW w al Z.length Z) (bq:Z.length≤aA) (hr1:Kd.C iD w A1 l1.length l1) (hc1:l1.length≤c1) (h:ew.f k X ao Y ap ar Z l1=some (r1,r2,r3,aT,aV,aY,aZ)):
  Calls Tryz.prog 9 #[.agg #[.slice ai X.length au,.int .i64 ao,.slice ak Y.length aw,.int .i64 ap,.int .i64 ar,.slice al Z.length aA],.slice A1 l1.length c1] w fun e w'=>∃bE a0 bF a1:Value,e= .returned (.tuple #[.agg #[bE,.int .i64 r2,a0,.int .i64 aT,.int .i64 aV,bF],a1])∧Kd.R aX 110 w' w.heap.size (fun _=>True) bE r1∧Kd.R (Kd.int .i64) 3 w' w.heap.size (fun k_=>some k_≠(a1:Value).ownBlock) a0 r3∧Kd.R aW 64 w' w.heap.size (fun _=>True) bF aY∧Kd.R (Kd.int .i64) 3 w' w.heap.size (fun k_=>some k_≠(a0:Value).ownBlock) a1 aZ∧Below w.heap.size w w':=by
 have ck:=bn.mk br;have cg:=aq.mk bo;have cl:=bn.mk bs;have ch:=aq.mk bp;have cm:=bn.mk bt;have ci:=aq.mk bq;have cn:=bn.mk hr1;have cj:=aq.mk hc1;clear br bo bs bp bt bq hr1 hc1;have cy:=cL.mk (d:=(Kd.int .i64)) (e:=3) (t:=30) (by decide);have cz:=cL.mk (d:=(Kd.int .i64)) (e:=3) (t:=57) (by decide);have cv:=cL.mk (d:=aX) (e:=110) (t:=30) (by decide);have cw:=cL.mk (d:=aX) (e:=110) (t:=57) (by decide);have cA:=cL.mk (d:=aW) (e:=64) (t:=30) (by decide);have cB:=cL.mk (d:=aW) (e:=64) (t:=57) (by decide);have ct:=mW.mk (e:=3) (t:=30) (by decide);have cu:=mW.mk (e:=3) (t:=57) (by decide);unfold ew.f at h
 (try simp only[aG]at h)
 have ce:=Tryz.underlying30;have cf:=Tryz.underlying57
 all_goals go_enter Tryz.func9,Tryz.ntmps9
 all_goals go_wp2_with ((first
  |((with_reducible refine ax (N:=2) rfl ?_);refine bV #[.slice ai X.length au,.int .i64 ao,.slice ak Y.length aw,.int .i64 ap,.int .i64 ar,.slice al Z.length aA] 30 fun g2 w1 K O U=> ?_)
  |((with_reducible refine ax (N:=4) rfl ?_);refine bV #[.slice none 0 0,.int .i64 0,.slice none 0 0,.int .i64 0,.int .i64 0,.slice none 0 0] 30 fun g4 w1 K O U=> ?_)
  |((with_reducible refine ax (N:=6) rfl ?_);refine bV #[.slice none 0 0,.int .i64 0,.slice none 0 0,.int .i64 0,.int .i64 0,.slice none 0 0] 30 fun g6 w1 K O U=> ?_)
  |((with_reducible refine ax (N:=9) rfl ?_);refine bV #[.int .i64 0,.int .i64 0,.int .i64 0,.int .i64 0] 57 fun g9 w1 K O U=> ?_)
  |((with_reducible refine ax (N:=10) rfl ?_);refine bV #[.slice none 0 0,.int .i64 0,.slice none 0 0,.int .i64 0,.int .i64 0,.slice none 0 0] 30 fun g10 w1 K O U=> ?_)
  |((with_reducible refine ax (N:=23) rfl ?_);refine Kd.cx (Kd.int .i64) _ 3 ?hg (N:=23) ?hd (xs:=([]:List Int)) (inner:=[]) (ok:=fun _=>True) (bB:=fun _=>True) ?hr ?hp (fun _ hk=>hk) trivial (Below.refl _ _) (Nat.le_refl _) (by simp) ?_;(case hd=>rfl);(case hg=>rfl);(case hr=>first|(go_simp;done)|(go_simp;rfl));(case hp=>exact(aI.none _ _));intro v5 b6 ho hb aK aM;obtain⟨bH,c5,rfl⟩:=Kd.bz ho;have aN:=dT.mk ho;have q5:=aq.mk (iJ aN);have bO:=az.mk hb;clear aK aM ho hb)
  |(go_at_call 27;(try rw[G.out]);replace h:=bI h;obtain⟨⟨t1,t2,t3,t4,t5,t6⟩,A,h⟩:=h;(try dsimp only at h);refine(e5.c _ _ _ _ _ _ _ _ _ _ _ _ _ _ _ _ _ _ _ Rd.out aq.out Rd.out aq.out Rd.out aq.out A).mono ?_;rintro e w2 ⟨v0,v1,v2,rfl,H,I,J,hb⟩;obtain⟨am,b0,rfl,j0,q0⟩:=aQ H;obtain⟨B1,b1,rfl,j1,q1⟩:=aQ I;obtain⟨B2,b2,rfl,j2,q2⟩:=aQ J;have aC:=az.mk hb;clear A H I J hb)
  |(go_at_call 28;(try rw[G.out]);replace h:=bI h;obtain⟨t,A,h⟩:=h;(try dsimp only at h);refine(eD.c _ _ _ _ _ _ _ _ _ _ _ _ _ _ _ Rd.out aq.out Rd.out aq.out Rd.out aq.out A).mono ?_;rintro e w2 ⟨rfl,hb⟩;have aC:=az.mk hb;clear A hb)
  |(go_at_call 29;(try rw[G.out]);replace h:=bI h;obtain⟨⟨t1,t2,t3,t4,t5,t6,t7⟩,A,h⟩:=h;(try dsimp only at h);refine(bJ.c _ _ _ _ _ _ _ _ _ _ _ _ _ _ _ _ _ _ _ _ _ _ _ _ _ Rd.out aq.out Rd.out aq.out Rd.out aq.out A).mono ?_;rintro e w2 ⟨v0,v1,v2,rfl,H,I,J,hb⟩;obtain⟨am,b0,rfl,j0,q0⟩:=aQ H;obtain⟨B1,b1,rfl,j1,q1⟩:=aQ I;obtain⟨B2,b2,rfl,j2,q2⟩:=aQ J;have aC:=az.mk hb;clear A H I J hb)
  |((with_reducible refine dP (b:= .append) (xs:= #[.tmp 37,.tmp 39]) rfl ?_);(try(refine dE (by rfl) ?_;dsimp only));at_builtin;refine Kd.eF (Kd.int .i64) (w0:=w) w.heap.size rfl (.tmp 37) (.tmp 39) 25 3 (.int .i64 0) 8 rfl Tryz.underlying25 info3 rfl (by decide) (by omega) (.slice a9 ad.length bk) ad t7 [.int .i64 t7] (fun _=>True) (fun _=>False) rfl (by first|(go_simp;done)|(go_simp;rfl)) ?aP (fun _ hk=>hk.elim) ?aF ?aO ?aB ?aS ?aL ?_;(case aP=>exact rfl);(case aO=>exact bZ);(case aB=>exact From.out);(case aF=>exact(fun _ _=>trivial));(case aS=>exact(From.out (w0:=w)).size);(case aL=>omega);intro v7 w7 ho hb hg hat;have b3:=pL hg;obtain⟨bK,c7,rfl⟩:=Kd.bz ho;have b4:=pP j0 hg;have aR:=pD j1 hat;have bX:=pE aR;have bP:=At.mk ho;have bY:From w w7:=⟨hb⟩;have b5:Sz w w7:=⟨hb.size⟩;clear ho hb hg hat));(repeat' first|((with_reducible replace h:=bU h);rcases h with ⟨hc,h⟩|⟨hc,h⟩<;>first|exact(bL h).elim|exact absurd hc (by decide)|subst hc|(replace hc:=bA hc;subst hc)|(replace hc:=dz hc;subst hc)|(replace hc:=dA hc;subst hc)|(have hd:(_==_)=true:=hc)|(have hd:(_==_)=false:=bA hc)|(have hd:=bQ hc;have he:=bR hc;clear hc)|(have hd:=bS hc;have he:=bT hc)|(have hd:=ay hc)|(have hd:=ah hc;(try(have hn:=Int.natCast_pos.mp hc;have hm:=ah hn;replace hn:=av hn));first|(have hz:=dy (by assumption) (by first|assumption|decide) hc;obtain⟨bm,e_,i_⟩:=hz;cases e_)|(have hz:=dv (by assumption) (by first|assumption|decide) hc;obtain⟨V,e_,c_⟩:=hz;cases e_)|(have hz:=gQ (bn.out (self:=by assumption)) _ (by first|assumption|decide) hc;obtain⟨V,e_,u,z,D,F⟩:=hz;cases e_;replace u:=bu.mk u;replace z:=bu.mk z;replace D:=bu.mk D;replace F:=bu.mk F)|(have hz:=gQ (bn.out (self:=by assumption)) _ hc (by assumption);obtain⟨V,e_,u,z,D,F⟩:=hz;cases e_;replace u:=bu.mk u;replace z:=bu.mk z;replace D:=bu.mk D;replace F:=bu.mk F))|(have hd:=ah hc)|skip)|((with_reducible have hj:ew.j0 k _ _ _ _ _ _ _ _=_:=h);clear hj;rcases k with _|k<;>rw[ew.j0]at h<;>first|exact(bL h).elim|skip)|((with_reducible replace h:=dw h);obtain⟨G,h⟩:=h;replace G:=A_ G;(try dsimp only at h))))
 all_goals first
  |((try simp only[Option.some.injEq,Prod.mk.injEq]at h);(try obtain⟨rfl,rfl,rfl,rfl,rfl,rfl,rfl⟩:=h);refine bodyPost_ret (di rfl _ _ _ _ _ (0,0) _ rfl aU.out Tryz.underlying30 rfl (by kernel_rfl)) rfl ?_;exact⟨_,_,_,_,rfl,(by first|exact bl|exact bW rfl|exact bW (by simp)|exact Kd.bj _ _ _ _ _|exact bZ|exact dJ (by simp)),(by first|exact Kd.bj _ _ _ _ _|exact gR (ok:=fun _=>True) (by first|exact bl|exact bZ|exact gP (by simp)|exact bW (by simp))),(by first|exact bl|exact bW rfl|exact bW (by simp)|exact Kd.bj _ _ _ _ _|exact bZ|exact dJ (by simp)),(by first|exact Kd.bj _ _ _ _ _|exact gR (ok:=fun _=>True) (by first|exact bl|exact bZ|exact gP (by simp)|exact bW (by simp))),From.out⟩)
  |(exfalso;simp at hd;omega)
  |skip
 go_loopg [7,26] k (fun bv v7 v26 w'=>∃(ad:List Int) (a8:Int) (a2:List (aj)) (a3:Int) (a4:List Int) (a5:Int) (a6:Int) (a7:List (S64)) (u1156000:Value) (u1156002:Value) (u1156005:Value),v26= .int .i64 a8∧ae (ew.l0 bv ad l1 (l1.length:Int) a8 a2 a3 a4 a5 a6 a7=some (r1,r2,r3,aT,aV,aY,aZ))∧ae (bv≤k)∧ae (Kd.R (Kd.int .i64) 3 w' w.heap.size (fun k_=>some k_≠(u1156002:Value).ownBlock) v7 ad)∧ae (Kd.R aX 110 w' w.heap.size (fun _=>True) u1156000 a2)∧ae (Kd.R (Kd.int .i64) 3 w' w.heap.size (fun k_=>some k_≠(v7:Value).ownBlock) u1156002 a4)∧ae (Kd.R aW 64 w' w.heap.size (fun _=>True) u1156005 a7)∧ae (w'.heap[g2]? =some (.cells #[(.slice ai X.length au),.int .i64 ao,(.slice ak Y.length aw),.int .i64 ap,.int .i64 ar,(.slice al Z.length aA)] 30 (0,0)))∧ae (w'.heap[g4]? =some (.cells #[(.slice none 0 0),.int .i64 0,(.slice none 0 0),.int .i64 0,.int .i64 0,(.slice none 0 0)] 30 (0,0)))∧ae (w'.heap[g6]? =some (.cells #[u1156000,.int .i64 a3,u1156002,.int .i64 a5,.int .i64 a6,u1156005] 30 (0,0)))∧ae (Below w.heap.size w w'))
 case atStart=>exact⟨_,_,_,_,_,_,_,_,(.slice am t1.length b0),(.slice B1 t3.length b1),(.slice B2 t6.length b2),(by first|rfl|(simp;done)),⟨h⟩,⟨Nat.le_refl _⟩,⟨gR (ok:=fun _=>True) (by first|exact bl|exact bZ|exact gP (by simp)|exact bW (by simp))⟩,⟨by first|exact bl|exact bW rfl|exact bW (by simp)|exact Kd.bj _ _ _ _ _⟩,⟨gR (ok:=fun _=>True) (by first|exact bl|exact bZ|exact gP (by simp)|exact bW (by simp))⟩,⟨by first|exact bl|exact bW rfl|exact bW (by simp)|exact Kd.bj _ _ _ _ _⟩,⟨aU.out⟩,⟨aU.out⟩,⟨aU.out⟩,⟨From.out⟩⟩
 case round=>
  clear h;obtain⟨ad,a8,a2,a3,a4,a5,a6,a7,u1156000,u1156002,u1156005,rfl,aE,bd,bh,be,bf,bg,a_,bb,bc,aJ⟩:=hrel;rcases gk with _|k1
  ·exact absurd aE.out (by simp[ew.l0])
  have h:=aE.out;clear aE;simp only[ew.l0]at h;obtain⟨a9,bk,rfl,co,cC,bw⟩:=lJ bh.out;clear bh;obtain⟨b7,c91,rfl,cp,cD,bx⟩:=lJ be.out;clear be;obtain⟨b8,cd,rfl,cq,cE,bC⟩:=lJ bf.out;clear bf;obtain⟨b9,c93,rfl,cr,cF,bD⟩:=lJ bg.out;clear bg;have b_:=aU.mk a_.out;clear a_;have b':=aU.mk bb.out;clear bb;have ca:=aU.mk bc.out;clear bc;have cb:From w wr:=⟨aJ.out⟩;have cc:Sz w wr:=⟨aJ.out.size⟩;clear aJ
  (try have d90:=lM bw);(try have d91:=lM bx);(try have d92:=lM bC);(try have d93:=lM bD);clear bw bx bC bD
  (repeat' first|((with_reducible replace h:=bU h);rcases h with ⟨hc,h⟩|⟨hc,h⟩<;>first|exact(bL h).elim|exact absurd hc (by decide)|subst hc|(replace hc:=bA hc;subst hc)|(replace hc:=dz hc;subst hc)|(replace hc:=dA hc;subst hc)|(have hd:(_==_)=true:=hc)|(have hd:(_==_)=false:=bA hc)|(have hd:=bQ hc;have he:=bR hc;clear hc)|(have hd:=bS hc;have he:=bT hc)|(have hd:=ay hc)|(have hd:=ah hc;(try(have hn:=Int.natCast_pos.mp hc;have hm:=ah hn;replace hn:=av hn));first|(have hz:=dy (by assumption) (by first|assumption|decide) hc;obtain⟨bm,e_,i_⟩:=hz;cases e_)|(have hz:=dv (by assumption) (by first|assumption|decide) hc;obtain⟨V,e_,c_⟩:=hz;cases e_)|(have hz:=gQ (bn.out (self:=by assumption)) _ (by first|assumption|decide) hc;obtain⟨V,e_,u,z,D,F⟩:=hz;cases e_;replace u:=bu.mk u;replace z:=bu.mk z;replace D:=bu.mk D;replace F:=bu.mk F)|(have hz:=gQ (bn.out (self:=by assumption)) _ hc (by assumption);obtain⟨V,e_,u,z,D,F⟩:=hz;cases e_;replace u:=bu.mk u;replace z:=bu.mk z;replace D:=bu.mk D;replace F:=bu.mk F))|(have hd:=ah hc)|skip)|((with_reducible have hj:ew.j0 k _ _ _ _ _ _ _ _=_:=h);clear hj;rcases k with _|k<;>rw[ew.j0]at h<;>first|exact(bL h).elim|skip)|((with_reducible replace h:=dw h);obtain⟨G,h⟩:=h;replace G:=A_ G;(try dsimp only at h)))
  all_goals go_wp2_with ((first
   |((with_reducible refine ax (N:=2) rfl ?_);refine bV #[.slice ai X.length au,.int .i64 ao,.slice ak Y.length aw,.int .i64 ap,.int .i64 ar,.slice al Z.length aA] 30 fun g2 w1 K O U=> ?_)
   |((with_reducible refine ax (N:=4) rfl ?_);refine bV #[.slice none 0 0,.int .i64 0,.slice none 0 0,.int .i64 0,.int .i64 0,.slice none 0 0] 30 fun g4 w1 K O U=> ?_)
   |((with_reducible refine ax (N:=6) rfl ?_);refine bV #[.slice none 0 0,.int .i64 0,.slice none 0 0,.int .i64 0,.int .i64 0,.slice none 0 0] 30 fun g6 w1 K O U=> ?_)
   |((with_reducible refine ax (N:=9) rfl ?_);refine bV #[.int .i64 0,.int .i64 0,.int .i64 0,.int .i64 0] 57 fun g9 w1 K O U=> ?_)
   |((with_reducible refine ax (N:=10) rfl ?_);refine bV #[.slice none 0 0,.int .i64 0,.slice none 0 0,.int .i64 0,.int .i64 0,.slice none 0 0] 30 fun g10 w1 K O U=> ?_)
   |((with_reducible refine ax (N:=23) rfl ?_);refine Kd.cx (Kd.int .i64) _ 3 ?hg (N:=23) ?hd (xs:=([]:List Int)) (inner:=[]) (ok:=fun _=>True) (bB:=fun _=>True) ?hr ?hp (fun _ hk=>hk) trivial (Below.refl _ _) (Nat.le_refl _) (by simp) ?_;(case hd=>rfl);(case hg=>rfl);(case hr=>first|(go_simp;done)|(go_simp;rfl));(case hp=>exact(aI.none _ _));intro v5 b6 ho hb aK aM;obtain⟨bH,c5,rfl⟩:=Kd.bz ho;have aN:=dT.mk ho;have q5:=aq.mk (iJ aN);have bO:=az.mk hb;clear aK aM ho hb)
   |(go_at_call 27;(try rw[G.out]);replace h:=bI h;obtain⟨⟨t1,t2,t3,t4,t5,t6⟩,A,h⟩:=h;(try dsimp only at h);refine(e5.c _ _ _ _ _ _ _ _ _ _ _ _ _ _ _ _ _ _ _ Rd.out aq.out Rd.out aq.out Rd.out aq.out A).mono ?_;rintro e w2 ⟨v0,v1,v2,rfl,H,I,J,hb⟩;obtain⟨am,b0,rfl,j0,q0⟩:=aQ H;obtain⟨B1,b1,rfl,j1,q1⟩:=aQ I;obtain⟨B2,b2,rfl,j2,q2⟩:=aQ J;have aC:=az.mk hb;clear A H I J hb)
   |(go_at_call 28;(try rw[G.out]);replace h:=bI h;obtain⟨t,A,h⟩:=h;(try dsimp only at h);refine(eD.c _ _ _ _ _ _ _ _ _ _ _ _ _ _ _ Rd.out aq.out Rd.out aq.out Rd.out aq.out A).mono ?_;rintro e w2 ⟨rfl,hb⟩;have aC:=az.mk hb;clear A hb)
   |(go_at_call 29;(try rw[G.out]);replace h:=bI h;obtain⟨⟨t1,t2,t3,t4,t5,t6,t7⟩,A,h⟩:=h;(try dsimp only at h);refine(bJ.c _ _ _ _ _ _ _ _ _ _ _ _ _ _ _ _ _ _ _ _ _ _ _ _ _ Rd.out aq.out Rd.out aq.out Rd.out aq.out A).mono ?_;rintro e w2 ⟨v0,v1,v2,rfl,H,I,J,hb⟩;obtain⟨am,b0,rfl,j0,q0⟩:=aQ H;obtain⟨B1,b1,rfl,j1,q1⟩:=aQ I;obtain⟨B2,b2,rfl,j2,q2⟩:=aQ J;have aC:=az.mk hb;clear A H I J hb)
   |((with_reducible refine dP (b:= .append) (xs:= #[.tmp 37,.tmp 39]) rfl ?_);(try(refine dE (by rfl) ?_;dsimp only));at_builtin;refine Kd.eF (Kd.int .i64) (w0:=w) w.heap.size rfl (.tmp 37) (.tmp 39) 25 3 (.int .i64 0) 8 rfl Tryz.underlying25 info3 rfl (by decide) (by omega) (.slice a9 ad.length bk) ad t7 [.int .i64 t7] (fun _=>True) (fun _=>False) rfl (by first|(go_simp;done)|(go_simp;rfl)) ?aP (fun _ hk=>hk.elim) ?aF ?aO ?aB ?aS ?aL ?_;(case aP=>exact rfl);(case aO=>exact bZ);(case aB=>exact From.out);(case aF=>exact(fun _ _=>trivial));(case aS=>exact(From.out (w0:=w)).size);(case aL=>omega);intro v7 w7 ho hb hg hat;have b3:=pL hg;obtain⟨bK,c7,rfl⟩:=Kd.bz ho;have b4:=pP j0 hg;have aR:=pD j1 hat;have bX:=pE aR;have bP:=At.mk ho;have bY:From w w7:=⟨hb⟩;have b5:Sz w w7:=⟨hb.size⟩;clear ho hb hg hat));(repeat' first|((with_reducible replace h:=bU h);rcases h with ⟨hc,h⟩|⟨hc,h⟩<;>first|exact(bL h).elim|exact absurd hc (by decide)|subst hc|(replace hc:=bA hc;subst hc)|(replace hc:=dz hc;subst hc)|(replace hc:=dA hc;subst hc)|(have hd:(_==_)=true:=hc)|(have hd:(_==_)=false:=bA hc)|(have hd:=bQ hc;have he:=bR hc;clear hc)|(have hd:=bS hc;have he:=bT hc)|(have hd:=ay hc)|(have hd:=ah hc;(try(have hn:=Int.natCast_pos.mp hc;have hm:=ah hn;replace hn:=av hn));first|(have hz:=dy (by assumption) (by first|assumption|decide) hc;obtain⟨bm,e_,i_⟩:=hz;cases e_)|(have hz:=dv (by assumption) (by first|assumption|decide) hc;obtain⟨V,e_,c_⟩:=hz;cases e_)|(have hz:=gQ (bn.out (self:=by assumption)) _ (by first|assumption|decide) hc;obtain⟨V,e_,u,z,D,F⟩:=hz;cases e_;replace u:=bu.mk u;replace z:=bu.mk z;replace D:=bu.mk D;replace F:=bu.mk F)|(have hz:=gQ (bn.out (self:=by assumption)) _ hc (by assumption);obtain⟨V,e_,u,z,D,F⟩:=hz;cases e_;replace u:=bu.mk u;replace z:=bu.mk z;replace D:=bu.mk D;replace F:=bu.mk F))|(have hd:=ah hc)|skip)|((with_reducible have hj:ew.j0 k _ _ _ _ _ _ _ _=_:=h);clear hj;rcases k with _|k<;>rw[ew.j0]at h<;>first|exact(bL h).elim|skip)|((with_reducible replace h:=dw h);obtain⟨G,h⟩:=h;replace G:=A_ G;(try dsimp only at h))))
  all_goals first
   |(go_roundg k1;(case measure=>have:=bd.out;omega);(case rel=>exact⟨_,_,_,_,_,_,_,_,(.slice am t1.length b0),(.slice B1 t3.length b1),(.slice B2 t6.length b2),(by first|rfl|(simp;done)),⟨h⟩,⟨by have:=bd.out;omega⟩,⟨gR (ok:=fun _=>True) (by first|exact bl|exact bZ|exact gP (by simp)|exact bW (by simp))⟩,⟨by first|exact bl|exact bW rfl|exact bW (by simp)|exact Kd.bj _ _ _ _ _⟩,⟨gR (ok:=fun _=>True) (by first|exact bl|exact bZ|exact gP (by simp)|exact bW (by simp))⟩,⟨by first|exact bl|exact bW rfl|exact bW (by simp)|exact Kd.bj _ _ _ _ _⟩,⟨aU.out⟩,⟨aU.out⟩,⟨aU.out⟩,⟨From.out⟩⟩))
   |((try simp only[Option.some.injEq,Prod.mk.injEq]at h);(try obtain⟨rfl,rfl,rfl,rfl,rfl,rfl,rfl⟩:=h);refine bodyPost_ret (di rfl _ _ _ _ _ (0,0) _ rfl aU.out Tryz.underlying30 rfl (by kernel_rfl)) rfl ?_;exact⟨_,_,_,_,rfl,(by first|exact bl|exact bW rfl|exact bW (by simp)|exact Kd.bj _ _ _ _ _|exact bZ|exact dJ (by simp)),(by first|exact Kd.bj _ _ _ _ _|exact gR (ok:=fun _=>True) (by first|exact bl|exact bZ|exact gP (by simp)|exact bW (by simp))),(by first|exact bl|exact bW rfl|exact bW (by simp)|exact Kd.bj _ _ _ _ _|exact bZ|exact dJ (by simp)),(by first|exact Kd.bj _ _ _ _ _|exact gR (ok:=fun _=>True) (by first|exact bl|exact bZ|exact gP (by simp)|exact bW (by simp))),From.out⟩)
end P
namespace Q
open Go.RowKit P WW.bq WW.cd
def oH (l:List S64):List S64:=if dK l=true then eN l l.length else[]
theorem Al (l:List S64) (hl:l.length≤1048577):ji.f l=some (oH l):=by
  unfold ji.f;rw[af hl];rfl
theorem Ak (l:List S64) (hl:l.length≤1048577):Ev (fun k=>bH.f k l) (oH l):=Am l hl
def lh (l:List S64):Int×Int×Bool:=match oH l with
  |[]=>(0,0,false)
  |x::_=>(x.f0.f0,x.f0.f1,true)
theorem Ab (l:List S64) (hl:l.length≤1048577):ng.f l=some (lh l):=by
  unfold ng.f lh;rw[Al l hl];simp only[aG];cases h:oH l with
  |nil=>simp
  |cons x r=>
   rw[ag (by first|(simp;done)|(simp;omega)),af (by first|(simp;done)|(simp;omega))];simp[au]
theorem Ac (l:List S64) (hl:l.length≤1048577):Ev (fun k=>nC.f k l) (lh l):=by
  unfold nC.f lh;refine Ev.bind (Ak l hl) ?_;cases h:oH l with
  |nil=>exact ai (by simp) (Ev.now _)
  |cons x r=>
   refine aw (by first|(simp;done)|(simp;omega)) (ai (by first|(simp;done)|(simp;omega)) ?_);simp only[au];exact Ev.now _
def ly (l:List S64) (m:Int):List S64×Bool:=if(lh l).2.2=true then addEntry l (lh l).1 (lh l).2.1 0 m else(l,false)
theorem Bg (l:List S64) (m:Int) (hl:l.length≤1048576):Ev (fun k=>mj.f k l m) (ly l m):=by
  unfold mj.f ly;refine bc (Ab l (by omega)) ?_;by_cases h:(lh l).2.2=true
  · exact bC h<|ai h (Ev.bind (tF l _ _ _ _ hl) (Ev.now _))
  · exact bf h<|aw h (bc (og l (by omega)) (Ev.now _))
theorem Bi (l:List S64) (m:Int) (hl:l.length≤1048576):Ev (fun k=>mH.f k l m) (ly l m):=by
  unfold mH.f ly;refine Ev.bind (Ac l (by omega)) ?_;by_cases h:(lh l).2.2=true
  · exact bC h<|ai h (Ev.bind (tG l _ _ _ _ hl) (Ev.now _))
  · exact bf h<|aw h (bc (ov l (by omega)) (Ev.now _))
theorem Bh (l:List S64) (m:Int):(ly l m).1.length≤l.length+1:=by
  unfold ly
  split
  · exact tE _ _ _ _ _
  · simp
end Q
namespace P
set_option maxHeartbeats 8000000
set_option maxRecDepth 100000
set_option synthInstance.maxHeartbeats 400000
set_option synthInstance.maxSize 100000
open Go.RowKit WW.bq WW.cg WW.cd V
attribute [local go_sem] dN dO
attribute [local go_sem] cN cR cQ cU cP cT cO cS
def dc.gg:Nat→List ByteArray→Int→Int→Int→Option (Int×Int×Int)
 |_,[],A,B,C=>some (A,B,C)
 |i,s::r,A,B,C=>(jV s).bind fun n=>dc.gg (i+1) r (if i=0 then n else A) (if i=1 then n else B) (if i=2 then n else C)
def dc.last (k:Nat) (L:List ByteArray) (K:Int):Option (Int×Int×Int)→Option (Int×Int×Int×Int×Bool)
 |none=>some (0,0,0,0,false)
 |some (A,B,C)=>(kZ.f k K A B C).bind fun u=>if u.2=true then(strings_Join.f L ⟨#[32]⟩).bind fun j=>some (if u.1=j then(K,A,B,C,true)else(0,0,0,0,false))else some (0,0,0,0,false)
def dc.rest (k:Nat):List ByteArray→Option (Int×Int×Int×Int×Bool)
 |[]=>some (0,0,0,0,false)
 |s::r=>if∀x∈s::r,x.size≤1000 then dc.last k (s::r) (dQ s.data.toList) (dc.gg 0 r 0 0 0)else none
def dc.f (k:Nat) (a0:ByteArray):Option (Int×Int×Int×Int×Bool):=(dV.f k a0).bind fun t=>if t.2=true then dc.rest k t.1 else some (0,0,0,0,false)
theorem CI {ops:Array Oper} {rest:List Oper} {o:Oper} {a:Act} {Q:Exit→Act→World→Prop} {w:World} {x:Operand} {ad:Addr} {n c:Nat} (m:Nat) (hm:n=m+1) (hg:o.guard=none) (hop:o.op=Op.slice 38 x (some (.const (.int .i64 1))) none none) (hx:a.eval x= .slice (some ad) n c)
  (h:∀u,(c≠1→u=⟨ad.block,ad.off+1,none⟩)→wpList Tryz.prog ops Q rest (a.put o.dst (.slice (some u) m (c-1))) w):wpList Tryz.prog ops Q (o::rest) a w:=by
 have e1:a.eval (.const (.int .i64 1))= .int .i64 1:=rfl;have hu:=Tryz.underlying38;have h2:(1:Int)≤n:=by omega
 have h1:1≤n:=by omega
 have h3:n-1=m:=by omega
 refine Kd.pJ hg (v:= .slice (some (if c=1 then ad else⟨ad.block,ad.off+1,none⟩)) (n-1) (c-1)) ?_ (h3▸h _ (fun hc=>ag hc));clear hm h3;simp only[execOp,hop,Option.map,hx,e1]
 go_simp
 split<;>rfl
attribute [local go_sem] iY
theorem dc.c (k:Nat) (a0:ByteArray) (r1:Int) (r2:Int) (r3:Int) (K:Int) (O:Bool) (w:World) (h:dc.f k a0=some (r1,r2,r3,K,O)) (ak:ae (mZ w)):
  Calls Tryz.prog 41 #[.string a0] w fun e w'=>e= .returned (.tuple #[.agg #[.int .i64 r1,.int .i64 r2,.int .i64 r3,.int .i64 K],.bool O])∧Below w.heap.size w w':=by
 unfold dc.f at h;replace h:=bI h;obtain⟨⟨L,ok⟩,hA,h⟩:=h;dsimp only at h;have A:=A_ hA;clear hA;have hu:=Tryz.underlying57;cases ok with
 |false=>
  rw[ag (by decide)]at h;simp only[Option.some.injEq,Prod.mk.injEq]at h;obtain⟨rfl,rfl,rfl,rfl,rfl⟩:=h;go_enter Tryz.func41,Tryz.ntmps41
  go_wp2_with (first
   |((with_reducible refine ax (N:=2) rfl ?_);refine bV #[.int .i64 0,.int .i64 0,.int .i64 0,.int .i64 0] 57 fun g2 w1 j1 j2 aC=> ?_)
   |(go_at_call 40;refine(dV.c k _ _ _ _ A.out).mono ?_;rintro e w2 ⟨v0,rfl,hr,hb⟩;obtain⟨ao,b0,rfl⟩:=Kd.bz hr;have ai:=dT.mk hr;have al:=aq.mk (iJ ai);have aE:=az.mk hb;clear hr hb))
  refine bodyPost_ret (di rfl _ _ g2 57 #[.int .i64 0,.int .i64 0,.int .i64 0,.int .i64 0] (0,0) _ rfl (by exact aU.out) hu rfl (by kernel_rfl)) rfl ?_;exact⟨rfl,From.out⟩
 |true=>
  rw[af rfl]at h;cases L with
  |nil=>
   simp only[dc.rest,Option.some.injEq,Prod.mk.injEq]at h;obtain⟨rfl,rfl,rfl,rfl,rfl⟩:=h;go_enter Tryz.func41,Tryz.ntmps41
   go_wp2_with (first
    |((with_reducible refine ax (N:=2) rfl ?_);refine bV #[.int .i64 0,.int .i64 0,.int .i64 0,.int .i64 0] 57 fun g2 w1 j1 j2 aC=> ?_)
    |(go_at_call 40;refine(dV.c k _ _ _ _ A.out).mono ?_;rintro e w2 ⟨v0,rfl,hr,hb⟩;obtain⟨ao,b0,rfl⟩:=Kd.bz hr;have ai:=dT.mk hr;have al:=aq.mk (iJ ai);have aE:=az.mk hb;clear hr hb))
   refine bodyPost_ret (di rfl _ _ g2 57 #[.int .i64 0,.int .i64 0,.int .i64 0,.int .i64 0] (0,0) _ rfl (by exact aU.out) hu rfl (by kernel_rfl)) rfl ?_;exact⟨rfl,From.out⟩
  |cons s r=>
   rw[dc.rest]at h;by_cases hz:∀x∈s::r,x.size≤1000;rotate_left
   ·rw[ag hz]at h;cases h
   rw[af hz]at h;have aB:=A_ hz;have H:=A_ h;obtain⟨L,hL⟩:∃L,s::r=L:=⟨_,rfl⟩;have hn:L.length=r.length+1:=(by rw[←hL];rfl);have h0:(bF ByteArray.empty L 0)=s:=(by rw[←hL];rfl);rw[hL]at A H aB;have HS:ae (s.size≤maxLen):=⟨Nat.le_trans (hz s (by simp)) (by decide)⟩;have aA:=A_ hL;have U:=A_ hn;have H0:=A_ h0;have b1:decide ((L.length:Int)=0)=false:=ay (by omega);have b2:decide (L.length=0)=false:=ay (by omega);have b3:(L.length==0)=false:=(by simpa using b2);have b4:((L.length:Int)==0)=false:=beq_eq_false_iff_ne.mpr (by omega);have aS:(L=[])=False:=(by rw[←hL];simp);have aT:decide ((0:Int)<(L.length:Int))=true:=ah (by omega);have aV:decide (0<L.length)=true:=ah (by omega);have aW:decide (1≤L.length)=true:=ah (by omega);have aX:(0<L.length)=True:=av (by omega);clear h hz hL hn h0;go_enter Tryz.func41,Tryz.ntmps41
   go_wp2_with (first
    |((with_reducible refine ax (N:=2) rfl ?_);refine bV #[.int .i64 0,.int .i64 0,.int .i64 0,.int .i64 0] 57 fun g2 w1 j1 j2 aC=> ?_)
    |(go_at_call 40;refine(dV.c k _ _ _ _ A.out).mono ?_;rintro e w2 ⟨v0,rfl,hr,hb⟩;obtain⟨ao,b0,rfl⟩:=Kd.bz hr;obtain⟨ad,hq1,F⟩:=Kd.ig (Kd.aY hr).2.2 0 (by omega) (by have:=U.out;omega);have ai:=dT.mk hr;have al:=aq.mk (iJ ai);have aE:=az.mk hb;cases hq1;rw[H0.out]at F;have aL:dC w2 ad (.string s):=⟨by simpa[Addr.add]using F⟩;clear hr hb F)
    |((with_reducible refine ax (N:=27) rfl ?_);refine zl ?_ (fun _=>rfl) rfl rfl rfl rfl rfl rfl rfl rfl rfl rfl rfl rfl rfl rfl rfl rfl rfl rfl rfl rfl rfl rfl rfl;intro bb w3 hb aI;have HK:=zj aI.out s HS.out;have a2:=az.mk hb;clear hb)
    |((with_reducible refine ax (N:=36) rfl ?_);refine CI (ad:=ad) (n:=L.length) (c:=b0) r.length U.out rfl rfl rfl ?_;intro aR hq;have HD:=A_ hq;clear hq)
    |((with_reducible refine ax (N:=7) rfl ?_);refine py rfl (N:=7) rfl (cs:= #[.int .i64 0,.int .i64 0,.int .i64 0,.int .i64 0]) (t:=57) (by first|(go_simp;done)|(go_simp;rfl)) ?_;intro g7 hg w4 hk hb;have a3:=jC.mk hg;have a4:=az.mk hb;have a5:=aU.mk hk;clear hg hb hk))
   have ht1:ae (kr w):=⟨ak.out.1⟩;clear A
   go_loopg [38] (r.length+1) (fun aM v38 w'=>∃(i:Nat) (X Y Z:Int),v38= .int .i64 (i:Int)∧ae (i+aM=r.length+1)∧ae (i≤r.length)∧ae (dc.last k L (dQ s.data.toList) (dc.gg i (r.drop i) X Y Z)=some (r1,r2,r3,K,O))∧ae (Below w.heap.size w w')∧ae (w'.heap[g2]? =some (.cells #[.int .i64 0,.int .i64 0,.int .i64 0,.int .i64 0] 57 (0,0)))∧ae (w'.heap[g7]? =some (.cells #[.int .i64 (dQ s.data.toList),.int .i64 X,.int .i64 Y,.int .i64 Z] 57 (0,0)))∧ae (∀j,w1.heap.size≤j→j<w2.heap.size→w'.heap[j]? =w2.heap[j]?))
   case atStart=>exact⟨0,0,0,0,rfl,⟨by omega⟩,⟨by omega⟩,H,⟨From.out⟩,⟨aU.out⟩,⟨aU.out⟩,⟨dY.out⟩⟩
   case round=>
    obtain⟨i,X,Y,Z,rfl,D,aF,u,ap,ar,au,aw⟩:=hrel;clear H aL;have a6:From w wr:=⟨ap.out⟩;have a_:Sz w wr:=⟨ap.out.size⟩;have a7:aU wr g2 _ _:=⟨ar.out⟩;have a8:aU wr g7 _ _:=⟨au.out⟩;have a9:dY w1 w2 wr:=⟨aw.out⟩;clear ar au aw;have hmx:L.length≤9223372036854775807:=Kd.mV (qh (w1:=w1) (w2:=w2) (W:=wr) (A:=some ad) (c:=b0) (xs:=L) (d:=Kd.string) (e:=9));have hmr:r.length+1≤9223372036854775807:=(by have:=U.out;omega);by_cases hlt:i<r.length
    ·obtain⟨aQ,hq1,F⟩:=Kd.ig (qh (w1:=w1) (w2:=w2) (W:=wr) (A:=some ad) (c:=b0) (xs:=L) (d:=Kd.string) (e:=9)) ((i:Int)+1) (by omega) (by have:=U.out;omega);cases hq1;have hb0:b0≠1:=(by have:=U.out;have:=al.out;omega);obtain rfl:=HD.out hb0
     have e1:bF ByteArray.empty L ((i:Int)+1)=r[i]:=by
      rw[←aA.out];have:((i:Int)+1).toNat=i+1:=(by omega);simp[bF,this,List.getD_eq_getElem?_getD,hlt]
     obtain⟨x,hx⟩:∃x,r[i]=x:=⟨_,rfl⟩;have hxs:x.size≤1000:=aB.out x (by rw[←aA.out,←hx];exact List.mem_cons_of_mem _ (List.getElem_mem hlt));rw[e1,hx]at F
     have z:wr.cell? ⟨ad.block,ad.off+1+i,none⟩=some (.string x):=by
      have e2:((i:Int)+1).toNat=1+i:=(by omega);rw[e2]at F;rw[←F];simp[Addr.add,Nat.add_assoc]
     have hq:=u.out;rw[List.drop_eq_getElem_cons hlt,hx,dc.gg]at hq;have hb3:decide ((i:Int)<(r.length:Int))=true:=ah (by omega);have hb4:decide (i<r.length)=true:=ah (by omega);have aJ:(i<r.length)=True:=av hlt;clear F e1 u;cases hat:jV x with
     |none=>
      rw[hat]at hq;simp only[Option.bind_none,dc.last,Option.some.injEq,Prod.mk.injEq]at hq;obtain⟨rfl,rfl,rfl,rfl,rfl⟩:=hq;have J:=A_ hat;clear hat;by_cases hi0:i=0
      ·subst hi0;have V:dC wr ⟨ad.block,ad.off+1,none⟩ (.string x):=⟨z⟩;clear z
       go_wp2_with (first
        |(go_at_call 86;refine(tH x _ (by omega) J.out (rL ak.out.2 From.out)).mono ?_;rintro e I ⟨aN,t5,aO,rfl,hb⟩;have G:=az.mk hb;clear hb))
       refine bodyPost_ret (di rfl _ _ g2 57 #[.int .i64 0,.int .i64 0,.int .i64 0,.int .i64 0] (0,0) _ rfl (by exact aU.out) hu rfl (by kernel_rfl)) rfl ?_;exact⟨rfl,From.out⟩
      ·have hi1:(i=0)=False:=d_ hi0;have V:dC wr ⟨ad.block,ad.off+1+i,none⟩ (.string x):=⟨z⟩;clear z
       go_wp2_with (first
        |(go_at_call 86;refine(tH x _ (by omega) J.out (rL ak.out.2 From.out)).mono ?_;rintro e I ⟨aN,t5,aO,rfl,hb⟩;have G:=az.mk hb;clear hb))
       refine bodyPost_ret (di rfl _ _ g2 57 #[.int .i64 0,.int .i64 0,.int .i64 0,.int .i64 0] (0,0) _ rfl (by exact aU.out) hu rfl (by kernel_rfl)) rfl ?_;exact⟨rfl,From.out⟩
     |some n=>
      rw[hat]at hq;simp only[aG]at hq;have J:=A_ hat;clear hat;by_cases hi0:i=0
      ·subst hi0;have u:ae (dc.last k L (dQ s.data.toList) (dc.gg (0+1) (r.drop (0+1)) n Y Z)=some (r1,r2,r3,K,O)):=⟨hq⟩;clear hq;have V:dC wr ⟨ad.block,ad.off+1,none⟩ (.string x):=⟨z⟩;clear z
       go_wp2_with (first
        |(go_at_call 86;refine(po x n _ (by omega) J.out).mono ?_;rintro e I ⟨rfl,hb⟩;have G:=az.mk hb;clear hb))
       go_roundg (r.length-0)
       case measure=>have:=D.out;omega
       case rel=>exact⟨0+1,n,Y,Z,by go_num,⟨by have:=D.out;omega⟩,⟨by omega⟩,u,⟨From.out⟩,⟨aU.out⟩,⟨aU.out⟩,⟨dY.out⟩⟩
      by_cases hi1:i=1
      ·subst hi1;have u:ae (dc.last k L (dQ s.data.toList) (dc.gg (1+1) (r.drop (1+1)) X n Z)=some (r1,r2,r3,K,O)):=⟨hq⟩;clear hq;have V:dC wr ⟨ad.block,ad.off+1+1,none⟩ (.string x):=⟨z⟩;clear z
       go_wp2_with (first
        |(go_at_call 86;refine(po x n _ (by omega) J.out).mono ?_;rintro e I ⟨rfl,hb⟩;have G:=az.mk hb;clear hb))
       go_roundg (r.length-1)
       case measure=>have:=D.out;omega
       case rel=>exact⟨1+1,X,n,Z,by go_num,⟨by have:=D.out;omega⟩,⟨by omega⟩,u,⟨From.out⟩,⟨aU.out⟩,⟨aU.out⟩,⟨dY.out⟩⟩
      by_cases hi2:i=2
      ·subst hi2;have u:ae (dc.last k L (dQ s.data.toList) (dc.gg (2+1) (r.drop (2+1)) X Y n)=some (r1,r2,r3,K,O)):=⟨hq⟩;clear hq;have V:dC wr ⟨ad.block,ad.off+1+2,none⟩ (.string x):=⟨z⟩;clear z
       go_wp2_with (first
        |(go_at_call 86;refine(po x n _ (by omega) J.out).mono ?_;rintro e I ⟨rfl,hb⟩;have G:=az.mk hb;clear hb))
       go_roundg (r.length-2)
       case measure=>have:=D.out;omega
       case rel=>exact⟨2+1,X,Y,n,by go_num,⟨by have:=D.out;omega⟩,⟨by omega⟩,u,⟨From.out⟩,⟨aU.out⟩,⟨aU.out⟩,⟨dY.out⟩⟩
      ·rw[ag hi0,ag hi1,ag hi2]at hq;have u:=A_ hq;clear hq;have z0:(i=0)=False:=d_ hi0;have bc:(i=1)=False:=d_ hi1;have z2:(i=2)=False:=d_ hi2;have z3:decide ((i:Int)=0)=false:=ay (by omega);have z4:decide ((i:Int)=1)=false:=ay (by omega);have z5:decide ((i:Int)=2)=false:=ay (by omega);have V:dC wr ⟨ad.block,ad.off+1+i,none⟩ (.string x):=⟨z⟩;clear z
       go_wp2_with (first
        |(go_at_call 86;refine(po x n _ (by omega) J.out).mono ?_;rintro e I ⟨rfl,hb⟩;have G:=az.mk hb;clear hb))
       have a1:wrap64 ((i:Int)+1)=(i:Int)+1:=by unfold wrap64;omega
       go_roundg (r.length-i)
       case measure=>have:=D.out;omega
       case rel=>exact⟨i+1,X,Y,Z,by go_num,⟨by have:=D.out;omega⟩,⟨by omega⟩,u,⟨From.out⟩,⟨aU.out⟩,⟨aU.out⟩,⟨dY.out⟩⟩
    ·have hb3:decide ((i:Int)<(r.length:Int))=false:=ay (by omega);have hb4:decide (i<r.length)=false:=ay (by omega);have aJ:(i<r.length)=False:=d_ hlt;obtain rfl:i=r.length:=(by have:=aF.out;omega);have hq:=u.out;rw[List.drop_eq_nil_of_le (Nat.le_refl _),dc.gg,dc.last]at hq;replace hq:=aD hq;obtain⟨⟨t1,t2⟩,hA,hq⟩:=hq;dsimp only at hq;have aj:=A_ hA;clear hA u;cases t2 with
     |false=>
      rw[ag (by decide)]at hq;simp only[Option.some.injEq,Prod.mk.injEq]at hq;obtain⟨rfl,rfl,rfl,rfl,rfl⟩:=hq
      go_wp2_with (first
       |(go_at_call 36;refine(kZ.c k _ _ _ _ _ _ _ aj.out ⟨sP ht1⟩).mono ?_;rintro e I ⟨rfl,hb⟩;have G:=az.mk hb;clear hb))
      refine bodyPost_ret (di rfl _ _ g2 57 #[.int .i64 0,.int .i64 0,.int .i64 0,.int .i64 0] (0,0) _ rfl (by exact aU.out) hu rfl (by kernel_rfl)) rfl ?_;exact⟨rfl,From.out⟩
     |true=>
      rw[af rfl]at hq;replace hq:=aD hq;obtain⟨j,hJ,hq⟩:=hq;have am:=A_ hJ;clear hJ;by_cases he:t1=j
      ·rw[af he]at hq;simp only[Option.some.injEq,Prod.mk.injEq]at hq;obtain⟨rfl,rfl,rfl,rfl,rfl⟩:=hq;subst he
       go_wp2_with (first
        |(go_at_call 36;refine(kZ.c k _ _ _ _ _ _ _ aj.out ⟨sP ht1⟩).mono ?_;rintro e I ⟨rfl,hb⟩;have G:=az.mk hb;clear hb)
        |(go_at_call 82;refine(strings_Join.c (some ad) b0 L _ _ _ (Rd.out (d:=Kd.string)) aq.out am.out).mono ?_;rintro e aP ⟨rfl,hb⟩;have aK:=az.mk hb;clear hb))
       refine bodyPost_ret (di rfl _ _ g2 57 #[.int .i64 (dQ s.data.toList),.int .i64 X,.int .i64 Y,.int .i64 Z] (0,0) _ rfl (by exact aU.out) hu rfl (by kernel_rfl)) rfl ?_;exact⟨rfl,From.out⟩
      ·rw[ag he]at hq;simp only[Option.some.injEq,Prod.mk.injEq]at hq;obtain⟨rfl,rfl,rfl,rfl,rfl⟩:=hq
       have aZ:(t1.toList==j.toList)=false:=by
        rw[Go.Lib.toList_data,Go.Lib.toList_data,beq_eq_false_iff_ne];exact fun e=>he (ByteArray.ext (Array.toList_inj.mp e))
       go_wp2_with (first
        |(go_at_call 36;refine(kZ.c k _ _ _ _ _ _ _ aj.out ⟨sP ht1⟩).mono ?_;rintro e I ⟨rfl,hb⟩;have G:=az.mk hb;clear hb)
        |(go_at_call 82;refine(strings_Join.c (some ad) b0 L _ _ _ (Rd.out (d:=Kd.string)) aq.out am.out).mono ?_;rintro e aP ⟨rfl,hb⟩;have aK:=az.mk hb;clear hb))
       refine bodyPost_ret (di rfl _ _ g2 57 #[.int .i64 0,.int .i64 0,.int .i64 0,.int .i64 0] (0,0) _ rfl (by exact aU.out) hu rfl (by kernel_rfl)) rfl ?_;exact⟨rfl,From.out⟩
end P
namespace P
set_option maxHeartbeats 8000000
set_option maxRecDepth 100000
open Go.RowKit WW.bq WW.cg WW.cd V
attribute [local go_sem] dN dO
attribute [local go_sem] cN cR cQ cU cP cT cO cS
mutual
def cE.l0:Nat→List (bM)→List ByteArray→Int→Int→Option (List ByteArray×Bool)
 |0,_,_,_,_=>none
 |k+1,G,F,H,z=>if z<H then(if 0≤z then(if z<(F.length:Int)then((dV.f k (bF ByteArray.empty F z)).bind fun I=>(if I.2=true then(cE.j1 k G (bF ByteArray.empty F z) F H z ((I.1.length:Int)==0))else(cE.j1 k G (bF ByteArray.empty F z) F H z false)))else(none))else(none))else(if(G.length:Int)>40 then(some (([]:List ByteArray),false))else((ml.f k).bind fun D=>((ew.f k D.1 D.2.1 D.2.2.1 D.2.2.2.1 D.2.2.2.2.1 D.2.2.2.2.2 G).bind fun u=>(cE.l1 k (([]:List ByteArray)) u.2.2.2.2.2.2 (u.2.2.2.2.2.2.length:Int) 0 u.1 u.2.1 u.2.2.1 u.2.2.2.1 u.2.2.2.2.1 u.2.2.2.2.2.1))))
def cE.j1:Nat→List (bM)→ByteArray→List ByteArray→Int→Int→Bool→Option (List ByteArray×Bool)
 |0,_,_,_,_,_,_=>none
 |k+1,z,I,D,F,G,H=>if H=true then(cE.l0 k z D F (wrap64 (G+1)))else((dc.f k I).bind fun u=>(if u.2.2.2.2=true then(if z.length<4398046511104 then(cE.l0 k (z++[(⟨u.1,u.2.1,u.2.2.1,u.2.2.2.1⟩:bM)]) D F (wrap64 (G+1)))else(none))else(some (([]:List ByteArray),false))))
def cE.l1:Nat→List ByteArray→List Int→Int→Int→List (aj)→Int→List Int→Int→Int→List (S64)→Option (List ByteArray×Bool)
 |0,_,_,_,_,_,_,_,_,_,_=>none
 |k+1,z,D,U,u,G,H,I,J,K,O=>if u<U then(if 0≤u then(if u<(D.length:Int)then((k8.f (rd D u)).bind fun V=>(if z.length<8796093022208 then(cE.l1 k (z++[V]) D U (wrap64 (u+1)) G H I J K O)else(none)))else(none))else(none))else((eh.f k G H I J K O).bind fun F=>(if z.length+F.length<8796093022208 then(some ((z++F),true))else(none)))
end
def cE.f (k:Nat) (a0:ByteArray):Option (List ByteArray×Bool):=if(a0.size:Int)>20000 then(some (([]:List ByteArray),false))else((strings_Split.f a0 (⟨#[10]⟩:ByteArray)).bind fun u=>(cE.l0 k (([]:List (bM))) u (u.length:Int) 0))
theorem cE.c (k:Nat) (a0:ByteArray) (r1:List ByteArray) (r2:Bool) (w:World) (h:cE.f k a0=some (r1,r2)) (ca:ae (mZ w)):
  Calls Tryz.prog 16 #[.string a0] w fun e w'=>∃cS:Value,e= .returned (.tuple #[cS,.bool r2])∧Kd.R Kd.string 9 w' w.heap.size (fun _=>True) cS r1∧Below w.heap.size w w':=by
 have e2:=Tryz.underlying57;have e1:=Tryz.underlying30;have u:=A_ (Below.refl w.heap.size w);have H:(if(a0.size:Int)>20000 then(some (([]:List ByteArray),false))else((strings_Split.f a0 (⟨#[10]⟩:ByteArray)).bind fun U=>(cE.l0 k (([]:List (bM))) U (U.length:Int) 0)))=some (r1,r2):=h;clear h;by_cases c2:(a0.size:Int)>20000
 ·rw[af c2]at H;have b9:decide (20000<(a0.size:Int))=true:=ah c2;have b_:decide (20000<a0.size)=true:=ah (by omega);clear c2;simp only[Option.some.injEq,Prod.mk.injEq]at H;obtain⟨rfl,rfl⟩:=H;go_enter Tryz.func16,Tryz.ntmps16;go_wp2;go_ret2;exact⟨_,eR,by first|exact Kd.bj _ _ _ _ _|exact Kd.jF _ _ _ _ _|exact Kd.jI _ _ _ _ _|exact Kd.jG _ _ _ _ _|exact Kd.jH _ _ _ _ _,oB u⟩
 ·rw[ag c2]at H;have b9:decide (20000<(a0.size:Int))=false:=ay c2;have b_:decide (20000<a0.size)=false:=ay (by omega);clear c2;obtain⟨cT,bU⟩:∃bv:List (bM),bv=(([]:List (bM))):=⟨_,rfl⟩;replace H:((strings_Split.f a0 (⟨#[10]⟩:ByteArray)).bind fun U=>(cE.l0 k cT U (U.length:Int) 0))=some (r1,r2):=by first|(rw[bU];with_reducible exact H)|(have au:=(aG _ _).symm.trans H;rw[bU];with_reducible exact au)|(have au:=(aG _ _).symm.trans H;with_reducible exact au)|with_reducible exact H|(rw[bU];exact H)|exact H
  have cD:=A_ bU;clear bU;replace H:=aD H;obtain⟨U,b6,H⟩:=H
  (try dsimp only at H)
  have c0:=A_ b6;clear b6;have H':=A_ H;clear H;go_enter Tryz.func16,Tryz.ntmps16
  go_wp2_with (first|((with_reducible refine ax (N:=19) rfl ?_);(try(refine dE (by rfl) ?_;dsimp only));refine Kd.cx iD _ 57 ?hg (N:=19) ?hd (xs:=([]:List (bM))) (inner:=[]) (ok:=fun _=>True) (bB:=fun _=>True) ?hr ?hp (fun _ hk=>hk) trivial (Below.refl _ _) (Nat.le_refl _) (by simp) ?_;(case hd=>rfl);(case hg=>rfl);(case hr=>first|(go_simp;done)|(go_simp;rfl));(case hp=>exact(aI.none _ _));intro e8 w4 bT hb cf cg;clear cf cg;(first|rw[←cD.out]at bT|(simp only[Int.reduceToNat]at bT;rw[←cD.out]at bT));have F:=A_ (Kd.bE bT (aA (oB u)));have G:=A_ (aC (oB u) hb);clear u;have b8:=F;have u:=G;clear F G hb bT)|((with_reducible refine aZ (f:=39) rfl ?_);refine gL (some 21) Tryz.func39 #[.string a0,.string (⟨#[10]⟩:ByteArray)] ?_;(with_reducible refine(strings_Split.c a0 (⟨#[10]⟩:ByteArray) U _ c0.out).mono ?_);rintro e fD ⟨e9,rfl,aU,hb⟩;refine⟨_,rfl,?_⟩;have F:=A_ (Kd.aV (oR b8) hb);have G:=A_ (Kd.bE aU (aA (oB u)));have I:=A_ (aC (oB u) hb);clear b8 u;have b8:=F;have cC:=G;have u:=I;clear F G I;(try clear hb);(try clear hb2);(try clear hk);(try clear hi);(try clear aU);obtain⟨dd,cN,dU⟩:=Kd.bz cC.out;subst dU))
  go_loopg [4,23] k (fun bt v4 v23 w'=>∃(a3:List (bM)) (ai:Int),v23= .int .i64 ai∧ae (cE.l0 bt a3 U (U.length:Int) ai=some (r1,r2))∧ae (bt≤k)∧ae (Kd.R iD 57 w' w.heap.size (fun _=>True) v4 a3)∧ae (Kd.R Kd.string 9 w' w.heap.size (fun _=>True) (.slice dd U.length cN) U)∧ae (Below w.heap.size w w'))
  case atStart=>exact⟨(cT),(0),eS,H',⟨Nat.le_refl _⟩,⟨oR b8⟩,⟨oR cC⟩,⟨oB u⟩⟩
  case round=>
   clear H'
   try clear c1
   try clear c2
   try clear b9
   try clear b_
   try clear p2
   try clear c3
   obtain⟨a3,ai,rfl,bq,bx,J,K,u⟩:=hrel;cases gk with
   |zero=>exact absurd bq.out (by simp[cE.l0])
   |succ k1=>
    have H:=bq.out;clear bq;simp only[cE.l0]at H;by_cases c8:ai<(U.length:Int)
    ·rw[af c8]at H;have ce:decide (ai<(U.length:Int))=true:=ah c8;clear c8;by_cases c9:0≤ai
     ·rw[af c9]at H;have cL:decide (0≤ai)=true:=ah c9;clear c9;by_cases c10:ai<(U.length:Int)
      ·rw[af c10]at H;have cI:decide (ai<(U.length:Int))=true:=ah c10;clear c10;replace H:=aD H;obtain⟨⟨cQ,cR⟩,cq,H⟩:=H
       (try dsimp only at H)
       have cX:=A_ cq;clear cq;have cd:=A_ H;clear H;have b3:0≤(ai:Int):=oD;have b4:ai<(U.length:Int):=oD;obtain⟨dw,dF,cO⟩:=Kd.ig (Kd.aY K.out).2.2 ai b3 b4;cases dF;replace b3:=av b3;replace b4:=av b4
       go_upto_region 8 with (first|((with_reducible refine aZ (f:=40) rfl ?_);refine gL (some 29) Tryz.func40 #[.string (bF ByteArray.empty U ai)] ?_;(with_reducible refine(dV.c k1 (bF ByteArray.empty U ai) cQ cR _ cX.out).mono ?_);rintro e fm ⟨e_,rfl,aU,hb⟩;refine⟨_,rfl,?_⟩;have F:=A_ (Kd.aV (oR J) hb);have G:=A_ (Kd.dZ (oR K) (Kd.dr aU) hb);have I:=A_ (Kd.bE (Kd.fl aU (Kd.en (oR K))) (aA (oB u)));have O:=A_ (aC (oB u) hb);clear J K u;have J:=F;have K:=G;have dg:=I;have u:=O;clear F G I O;(try clear hb);(try clear hb2);(try clear hk);(try clear hi);(try clear aU)))
       (try simp only[Act.put,List.setIfInBounds_toArray,List.set_cons_zero,List.set_cons_succ])
       go_cut [37] (fun v37 wc=>∃(bt:Nat) (cc:Bool),v37= .bool cc∧ae (cE.j1 bt a3 (bF ByteArray.empty U ai) U (U.length:Int) ai cc=some (r1,r2))∧ae (bt≤k1)∧ae (Kd.R iD 57 wc w.heap.size (fun _=>True) u4 a3)∧ae (Kd.R Kd.string 9 wc w.heap.size (fun _=>True) (.slice (some dw) U.length cN) U)∧ae (Below w.heap.size w wc))
       case first=>
        have H:=cd.out;clear cd;by_cases c14:cR=true
        ·subst c14;rw[af rfl]at H;have H':=A_ H;clear H;obtain⟨ex,eL,dI⟩:=Kd.bz dg.out;subst dI;go_wp2
         go_meet
         case rel=>exact⟨_,(((cQ.length:Int)==0)),eS,H',⟨by have:=bx.out;first|omega|exact Nat.le_refl _⟩,⟨oR J⟩,⟨by(with_reducible repeat(first|apply Kd.bm|apply Kd.br|apply Kd.a8));exact Kd.bh K.out (fun _ hk=>trivial)⟩,⟨oB u⟩⟩
        ·replace c14:=Bool.eq_false_iff.mpr c14;subst c14;rw[ag (show¬(false=true)by decide)]at H;have H':=A_ H;clear H;go_wp2
         go_meet
         case rel=>exact⟨_,(false),eS,H',⟨by have:=bx.out;first|omega|exact Nat.le_refl _⟩,⟨oR J⟩,⟨by(with_reducible repeat(first|apply Kd.bm|apply Kd.br|apply Kd.a8));exact Kd.bh K.out (fun _ hk=>trivial)⟩,⟨oB u⟩⟩
       case rest=>
        clear cd
        try clear c1
        try clear p1
        try clear q1
        try clear hx1
        try clear c2
        try clear b9
        try clear b_
        try clear p2
        try clear c3
        try clear c4
        try clear c8
        try clear ce
        try clear c9
        try clear cL
        try clear c10
        try clear cI
        try clear c14
        try clear cO
        try clear b3
        try clear p2
        try clear b4
        obtain⟨bt,cc,rfl,bq,b7,J,K,u⟩:=hcut;cases bt with
        |zero=>exact absurd bq.out (by simp[cE.j1])
        |succ b0=>
         have H:=bq.out;clear bq;simp only[cE.j1]at H;by_cases c16:cc=true
         ·subst c16;rw[af rfl]at H;have H':=A_ H;clear H;go_wp2
          go_roundg b0
          case measure=>have:=bx.out;have:=b7.out;omega
          case rel=>exact⟨(a3),(wrap64 (ai+1)),eS,H',⟨by have:=bx.out;have:=b7.out;omega⟩,⟨oR J⟩,⟨oR K⟩,⟨oB u⟩⟩
         ·replace c16:=Bool.eq_false_iff.mpr c16;subst c16;rw[ag (show¬(false=true)by decide)]at H;replace H:=aD H;obtain⟨⟨a1,a_,bp,bs,eu⟩,ct,H⟩:=H
          (try dsimp only at H)
          have cr:=A_ ct;clear ct;by_cases c18:eu=true
          ·subst c18;rw[af rfl]at H;by_cases c19:a3.length<4398046511104
           ·rw[af c19]at H;have dl:=A_ c19;clear c19;obtain⟨cU,bV⟩:∃bv:List (bM),bv=(a3++[(⟨a1,a_,bp,bs⟩:bM)]):=⟨_,rfl⟩;replace H:(cE.l0 b0 cU U (U.length:Int) (wrap64 (ai+1)))=some (r1,r2):=by first|(rw[bV];with_reducible exact H)|(have au:=(aG _ _).symm.trans H;rw[bV];with_reducible exact au)|(have au:=(aG _ _).symm.trans H;with_reducible exact au)|with_reducible exact H|(rw[bV];exact H)|exact H
            have dt:=A_ bV;clear bV;have H':=A_ H;clear H
            go_wp2_with (first|((with_reducible refine aZ (f:=41) rfl ?_);refine gL (some 40) Tryz.func41 #[.string (bF ByteArray.empty U ai)] ?_;(with_reducible refine(dc.c b0 (bF ByteArray.empty U ai) a1 a_ bp bs true _ cr.out ?ek).mono ?_);(case ek=>exact⟨qx ca.out (oB u)⟩);rintro e fo ⟨rfl,hb⟩;refine⟨_,rfl,?_⟩;have F:=A_ (Kd.aV (oR J) hb);have G:=A_ (Kd.aV (oR K) hb);have I:=A_ (aC (oB u) hb);clear J K u;have J:=F;have K:=G;have u:=I;clear F G I;(try clear hb);(try clear hb2);(try clear hk);(try clear hi))|((with_reducible refine ax (N:=9) rfl ?_);(try(refine dE (by rfl) ?_;dsimp only));refine bX (N:=9) (cs:= #[.int .i64 0,.int .i64 0,.int .i64 0,.int .i64 0]) (t:=57) ?_;intro Z hg fp bI hb;have F:=A_ (Kd.aV (Kd.pc (oR J) Z (Nat.le_of_eq hg.symm)) hb);have G:=A_ (Kd.aV (oR K) hb);have I:=A_ (aC (oB u) hb);have O:=A_ (bI);have V:=A_ ((by rw[hg];exact(aA (oB u)):w.heap.size≤Z));have X:=A_ ((by rw[hg];exact(aA (oB u)):w.heap.size≤Z));clear J K u;have J:=F;have K:=G;have u:=I;have aj:=O;have df:=V;have de:=X;clear F G I O V X hb bI hg;have dW:=cz aj 0;have dX:=cz aj 1;have dY:=cz aj 2;have d0:=cz aj 3;have ea:=ar aj.out 0;have eb:=ar aj.out 1;have ec:=ar aj.out 2;have ef:=ar aj.out 3)|((with_reducible refine dP (b:= .append) (xs:= #[.tmp 45,.tmp 47]) rfl ?_);(try(refine dE (by rfl) ?_;dsimp only));at_builtin;refine Kd.eF iD (w0:=w) w.heap.size rfl (.tmp 45) (.tmp 47) 31 57 (.agg #[(.int .i64 0),(.int .i64 0),(.int .i64 0),(.int .i64 0)]) 32 rfl Tryz.underlying31 uj rfl (by decide) (by omega) u4 a3 (⟨a1,a_,bp,bs⟩:bM) [.int .i64 a1,.int .i64 a_,.int .i64 bp,.int .i64 bs] (fun k_=>k_≠Z) (fun _=>False) rfl (by first|(go_simp;done)|(go_simp;rfl)) ?aP (fun _ hk=>hk.elim) ?aF ?aO ?aB ?aS ?aL ?_;(case aP=>exact uq _ _ _ (⟨a1,a_,bp,bs⟩:bM));(case aB=>exact(oB u));(case aF=>exact(fun k_ hk=>Kd.uf (g:=Z) (o:= .cells #[.int .i64 a1,.int .i64 a_,.int .i64 bp,.int .i64 bs] 57 (0,0)) (by(with_reducible repeat(first|refine aT ?_ _|refine aM ?_|refine aN ?_ _));refine bw (cs:= #[.int .i64 a1,.int .i64 a_,.int .i64 bp,.int .i64 0]) ?_ 3 _ rfl;(with_reducible repeat(first|refine aT ?_ _|refine aM ?_|refine aN ?_ _));refine bw (cs:= #[.int .i64 a1,.int .i64 a_,.int .i64 0,.int .i64 0]) ?_ 2 _ rfl;(with_reducible repeat(first|refine aT ?_ _|refine aM ?_|refine aN ?_ _));refine bw (cs:= #[.int .i64 a1,.int .i64 0,.int .i64 0,.int .i64 0]) ?_ 1 _ rfl;(with_reducible repeat(first|refine aT ?_ _|refine aM ?_|refine aN ?_ _));refine bw (cs:= #[.int .i64 0,.int .i64 0,.int .i64 0,.int .i64 0]) ?_ 0 _ rfl;(with_reducible repeat(first|refine aT ?_ _|refine aM ?_|refine aN ?_ _));exact aj.out) k_ hk));(case aO=>exact(by(with_reducible repeat(first|apply Kd.bm|apply Kd.br|apply Kd.a8));exact Kd.bh (Kd.aJ (p:=⟨Z,3,none⟩) (Kd.aJ (p:=⟨Z,2,none⟩) (Kd.aJ (p:=⟨Z,1,none⟩) (Kd.aJ (p:=⟨Z,0,none⟩) (Kd.bh J.out (fun k_ hk=>(⟨hk,hk.2⟩:_∧k_≠Z))) (fun _ hk=>hk.2) (.int .i64 a1)) (fun _ hk=>hk.2) (.int .i64 a_)) (fun _ hk=>hk.2) (.int .i64 bp)) (fun _ hk=>hk.2) (.int .i64 bs)) (fun _ hk=>hk.1.2)));(case aS=>exact(aA (oB u)));(case aL=>have:=dl.out;omega);intro e' fr ho hb hg hat;rw[←dt.out]at ho;have F:=A_ (Kd.eG (by(with_reducible repeat(first|apply Kd.bm|apply Kd.br|apply Kd.a8));exact(Kd.bh (Kd.aJ (p:=⟨Z,3,none⟩) (Kd.aJ (p:=⟨Z,2,none⟩) (Kd.aJ (p:=⟨Z,1,none⟩) (Kd.aJ (p:=⟨Z,0,none⟩) (Kd.dD K.out aj.out (by decide)) (fun _ hk=>hk.2) (.int .i64 a1)) (fun _ hk=>hk.2) (.int .i64 a_)) (fun _ hk=>hk.2) (.int .i64 bp)) (fun _ hk=>hk.2) (.int .i64 bs)) (fun _ h_=>h_.1))) (Kd.eH (by(with_reducible repeat(first|apply Kd.bm|apply Kd.br|apply Kd.a8));exact(Kd.bh (Kd.aJ (p:=⟨Z,3,none⟩) (Kd.aJ (p:=⟨Z,2,none⟩) (Kd.aJ (p:=⟨Z,1,none⟩) (Kd.aJ (p:=⟨Z,0,none⟩) (Kd.bh J.out (fun k_ hk=>(⟨hk,hk.2⟩:_∧k_≠Z))) (fun _ hk=>hk.2) (.int .i64 a1)) (fun _ hk=>hk.2) (.int .i64 a_)) (fun _ hk=>hk.2) (.int .i64 bp)) (fun _ hk=>hk.2) (.int .i64 bs)) (fun _ h_=>h_.1)))) (by decide) hg);have G:=A_ (px (g:=Z) (o:= .cells #[.int .i64 a1,.int .i64 a_,.int .i64 bp,.int .i64 bs] 57 (0,0)) (by(with_reducible repeat(first|refine aT ?_ _|refine aM ?_|refine aN ?_ _));refine bw (cs:= #[.int .i64 a1,.int .i64 a_,.int .i64 bp,.int .i64 0]) ?_ 3 _ rfl;(with_reducible repeat(first|refine aT ?_ _|refine aM ?_|refine aN ?_ _));refine bw (cs:= #[.int .i64 a1,.int .i64 a_,.int .i64 0,.int .i64 0]) ?_ 2 _ rfl;(with_reducible repeat(first|refine aT ?_ _|refine aM ?_|refine aN ?_ _));refine bw (cs:= #[.int .i64 a1,.int .i64 0,.int .i64 0,.int .i64 0]) ?_ 1 _ rfl;(with_reducible repeat(first|refine aT ?_ _|refine aM ?_|refine aN ?_ _));refine bw (cs:= #[.int .i64 0,.int .i64 0,.int .i64 0,.int .i64 0]) ?_ 0 _ rfl;(with_reducible repeat(first|refine aT ?_ _|refine aM ?_|refine aN ?_ _));exact aj.out) hg (Kd.s8 J.out (fun _ hk=>hk.2)));have I:=A_ (hb);have O:=A_ (ho);clear K aj u J;have K:=F;have aj:=G;have u:=I;have dh:=O;clear F G I O ho hb hg hat))
            go_roundg b0
            case measure=>have:=bx.out;have:=b7.out;omega
            case rel=>exact⟨(cU),(wrap64 (ai+1)),eS,H',⟨by have:=bx.out;have:=b7.out;omega⟩,⟨by(with_reducible repeat(first|apply Kd.bm|apply Kd.br|apply Kd.a8));exact Kd.bh dh.out (fun _ hk=>trivial)⟩,⟨oR K⟩,⟨oB u⟩⟩
           ·rw[ag c19]at H;exact absurd H (by simp)
          ·replace c18:=Bool.eq_false_iff.mpr c18;subst c18;rw[ag (show¬(false=true)by decide)]at H;simp only[Option.some.injEq,Prod.mk.injEq]at H;obtain⟨rfl,rfl⟩:=H
           go_wp2_with (first|((with_reducible refine aZ (f:=41) rfl ?_);refine gL (some 40) Tryz.func41 #[.string (bF ByteArray.empty U ai)] ?_;(with_reducible refine(dc.c b0 (bF ByteArray.empty U ai) a1 a_ bp bs false _ cr.out ?ek).mono ?_);(case ek=>exact⟨qx ca.out (oB u)⟩);rintro e fs ⟨rfl,hb⟩;refine⟨_,rfl,?_⟩;have F:=A_ (Kd.aV (oR J) hb);have G:=A_ (Kd.aV (oR K) hb);have I:=A_ (aC (oB u) hb);clear J K u;have J:=F;have K:=G;have u:=I;clear F G I;(try clear hb);(try clear hb2);(try clear hk);(try clear hi))|((with_reducible refine ax (N:=9) rfl ?_);(try(refine dE (by rfl) ?_;dsimp only));refine bX (N:=9) (cs:= #[.int .i64 0,.int .i64 0,.int .i64 0,.int .i64 0]) (t:=57) ?_;intro Z hg fu bI hb;have F:=A_ (Kd.aV (Kd.pc (oR J) Z (Nat.le_of_eq hg.symm)) hb);have G:=A_ (Kd.aV (oR K) hb);have I:=A_ (aC (oB u) hb);have O:=A_ (bI);have V:=A_ ((by rw[hg];exact(aA (oB u)):w.heap.size≤Z));have X:=A_ ((by rw[hg];exact(aA (oB u)):w.heap.size≤Z));clear J K u;have J:=F;have K:=G;have u:=I;have aj:=O;have df:=V;have de:=X;clear F G I O V X hb bI hg;have d1:=cz aj 0;have d2:=cz aj 1;have d3:=cz aj 2;have d4:=cz aj 3;have eg:=ar aj.out 0;have ei:=ar aj.out 1;have ej:=ar aj.out 2;have el:=ar aj.out 3))
           go_ret2;exact⟨_,eR,by first|exact Kd.bj _ _ _ _ _|exact Kd.jF _ _ _ _ _|exact Kd.jI _ _ _ _ _|exact Kd.jG _ _ _ _ _|exact Kd.jH _ _ _ _ _,oB u⟩
      ·rw[ag c10]at H;exact absurd H (by simp)
     ·rw[ag c9]at H;exact absurd H (by simp)
    ·rw[ag c8]at H;have ce:decide (ai<(U.length:Int))=false:=ay c8;clear c8;by_cases bL:(a3.length:Int)>40
     ·rw[af bL]at H;have cJ:decide (40<(a3.length:Int))=true:=ah bL;have cK:decide (40<a3.length)=true:=ah (by omega);clear bL;simp only[Option.some.injEq,Prod.mk.injEq]at H;obtain⟨rfl,rfl⟩:=H;obtain⟨ey,eM,dJ⟩:=Kd.bz J.out;subst dJ;go_wp2;go_ret2;exact⟨_,eR,by first|exact Kd.bj _ _ _ _ _|exact Kd.jF _ _ _ _ _|exact Kd.jI _ _ _ _ _|exact Kd.jG _ _ _ _ _|exact Kd.jH _ _ _ _ _,oB u⟩
     ·rw[ag bL]at H;have cJ:decide (40<(a3.length:Int))=false:=ay bL;have cK:decide (40<a3.length)=false:=ay (by omega);clear bL;replace H:=aD H;obtain⟨⟨ck,cl,cm,cn,co,cp⟩,cu,H⟩:=H
      (try dsimp only at H)
      have cY:=A_ cu;clear cu;replace H:=aD H;obtain⟨⟨Y,ak,ad,ao,az,ap,aQ⟩,cv,H⟩:=H
      (try dsimp only at H)
      have b6:=A_ cv;clear cv;obtain⟨cV,bW⟩:∃bv:List ByteArray,bv=(([]:List ByteArray)):=⟨_,rfl⟩;replace H:(cE.l1 k1 cV aQ (aQ.length:Int) 0 Y ak ad ao az ap)=some (r1,r2):=by first|(rw[bW];with_reducible exact H)|(have au:=(aG _ _).symm.trans H;rw[bW];with_reducible exact au)|(have au:=(aG _ _).symm.trans H;with_reducible exact au)|with_reducible exact H|(rw[bW];exact H)|exact H
      have cF:=A_ bW;clear bW;have H':=A_ H;clear H;obtain⟨c7,dy,dK⟩:=Kd.bz J.out;subst dK
      go_wp2_with (first|((with_reducible refine aZ (f:=17) rfl ?_);refine gL (some 54) Tryz.func17 #[] ?_;(with_reducible refine(ml.c k1  ck cl cm cn co cp _ cY.out).mono ?_);rintro e fv ⟨fa,fb,fc,rfl,aU,bQ,bR,hb⟩;refine⟨_,rfl,?_⟩;have F:=A_ (Kd.aV (oR J) hb);have G:=A_ (Kd.aV (oR K) hb);have I:=A_ (Kd.bE aU (aA (oB u)));have O:=A_ (Kd.bE bQ (aA (oB u)));have V:=A_ (Kd.bE bR (aA (oB u)));have X:=A_ (aC (oB u) hb);clear J K u;have J:=F;have K:=G;have bn:=I;have bd:=O;have bo:=V;have u:=X;clear F G I O V X;(try clear hb);(try clear hb2);(try clear hk);(try clear hi);(try clear aU);(try clear bQ);(try clear bR);obtain⟨c_,dz,dL⟩:=Kd.bz bn.out;subst dL;obtain⟨c',dA,dM⟩:=Kd.bz bd.out;subst dM;obtain⟨da,dB,dN⟩:=Kd.bz bo.out;subst dN)|((with_reducible refine aZ (f:=9) rfl ?_);refine gL (some 56) Tryz.func9 #[.agg #[.slice c_ ck.length dz,.int .i64 cl,.slice c' cm.length dA,.int .i64 cn,.int .i64 co,.slice da cp.length dB],.slice c7 a3.length dy] ?_;(with_reducible refine(ew.c k1 _ _ ck cl _ _ cm cn co _ _ cp _ _ a3 Y ak ad ao az ap aQ _ ?a6 ?a7 ?cG ?cH ?fq ?ft ?sH ?sI b6.out).mono ?_);(case a6=>repeat(first|exact(Kd.aY bn.out).2.2|(with_reducible refine Kd.cZ ?_ _)|(with_reducible refine Kd.dn ?_ _)|(with_reducible refine Kd.dm ?_)));(case a7=>exact(Kd.aY bn.out).2.1);(case cG=>repeat(first|exact(Kd.aY bd.out).2.2|(with_reducible refine Kd.cZ ?_ _)|(with_reducible refine Kd.dn ?_ _)|(with_reducible refine Kd.dm ?_)));(case cH=>exact(Kd.aY bd.out).2.1);(case fq=>repeat(first|exact(Kd.aY bo.out).2.2|(with_reducible refine Kd.cZ ?_ _)|(with_reducible refine Kd.dn ?_ _)|(with_reducible refine Kd.dm ?_)));(case ft=>exact(Kd.aY bo.out).2.1);(case sH=>repeat(first|exact(Kd.aY J.out).2.2|(with_reducible refine Kd.cZ ?_ _)|(with_reducible refine Kd.dn ?_ _)|(with_reducible refine Kd.dm ?_)));(case sI=>exact(Kd.aY J.out).2.1);rintro e fw ⟨fd,fe,ff,fg,rfl,aU,bQ,bR,ch,hb⟩;refine⟨_,rfl,?_⟩;have F:=A_ (Kd.aV (oR J) hb);have G:=A_ (Kd.aV (oR K) hb);have I:=A_ (Kd.dZ (oR bn) (Kd.dr aU) hb);have O:=A_ (Kd.bh (Kd.pg (Kd.pg (Kd.s9 (oR bd) hb) (Kd.dr bQ)) (Kd.dr ch)) (fun _ h_=>h_.1));have V:=A_ (Kd.dZ (oR bo) (Kd.dr bR) hb);have X:=A_ (Kd.bE (Kd.fl aU (Kd.en (oR bn))) (aA (oB u)));have am:=A_ (Kd.bE (Kd.fl bQ (Kd.en (oR bd))) (aA (oB u)));have bk:=A_ (Kd.bE (Kd.fl bR (Kd.en (oR bo))) (aA (oB u)));have bJ:=A_ (Kd.bE (Kd.fl ch (Kd.en (oR bd))) (aA (oB u)));have bK:=A_ (aC (oB u) hb);clear J K bn bd bo u;have J:=F;have K:=G;have bn:=I;have bd:=O;have bo:=V;have bA:=X;have bC:=am;have bD:=bk;have bH:=bJ;have u:=bK;clear F G I O V X am bk bJ bK;(try clear hb);(try clear hb2);(try clear hk);(try clear hi);(try clear aU);(try clear bQ);(try clear bR);(try clear ch))|((with_reducible refine ax (N:=11) rfl ?_);(try(refine dE (by rfl) ?_;dsimp only));refine bX (N:=11) (cs:= #[.slice none 0 0,.int .i64 0,.slice none 0 0,.int .i64 0,.int .i64 0,.slice none 0 0]) (t:=30) ?_;intro z hg fx bI hb;have F:=A_ (Kd.aV (oR J) hb);have G:=A_ (Kd.aV (oR K) hb);have I:=A_ (Kd.aV (oR bn) hb);have O:=A_ (Kd.aV (oR bd) hb);have V:=A_ (Kd.aV (oR bo) hb);have X:=A_ (Kd.aV (oR bA) hb);have am:=A_ (Kd.aV (oR bC) hb);have bk:=A_ (Kd.aV (oR bD) hb);have bJ:=A_ (Kd.aV (oR bH) hb);have bK:=A_ (aC (oB u) hb);have b1:=A_ (bI);have b2:=A_ ((by rw[hg];exact(aA (oB u)):w.heap.size≤z));have cP:=A_ ((by rw[hg];exact(aA (oB u)):w.heap.size≤z));clear J K bn bd bo bA bC bD bH u;have J:=F;have K:=G;have bn:=I;have bd:=O;have bo:=V;have bA:=X;have bC:=am;have bD:=bk;have bH:=bJ;have u:=bK;have D:=b1;have eA:=b2;have ez:=cP;clear F G I O V X am bk bJ bK b1 b2 cP hb bI hg;obtain⟨aq,aw,dO⟩:=Kd.bz bA.out;subst dO;have d5:=cz D 0;have d6:=cz D 1;have d7:=cz D 2;have d8:=cz D 3;have d9:=cz D 4;have d':=cz D 5;have em:=ar D.out 0;have eo:=ar D.out 1;have ep:=ar D.out 2;have er:=ar D.out 3;have es:=ar D.out 4;have et:=ar D.out 5;obtain⟨aE,aK,dQ⟩:=Kd.bz bC.out;subst dQ;obtain⟨bc,bf,dR⟩:=Kd.bz bD.out;subst dR)|((with_reducible refine ax (N:=59) rfl ?_);(try(refine dE (by rfl) ?_;dsimp only));refine Kd.cx Kd.string _ 9 ?hg (N:=59) ?hd (xs:=([]:List ByteArray)) (inner:=[]) (ok:=fun _=>True) (bB:=fun _=>True) ?hr ?hp (fun _ hk=>hk) trivial (Below.refl _ _) (Nat.le_refl _) (by simp) ?_;(case hd=>rfl);(case hg=>rfl);(case hr=>first|(go_simp;done)|(go_simp;rfl));(case hp=>exact(aI.none _ _));intro fh fy bS hb cf cg;clear cf cg;(first|rw[←cF.out]at bS|(simp only[Int.reduceToNat]at bS;rw[←cF.out]at bS));have F:=A_ (Kd.aV (by(with_reducible repeat(first|apply Kd.bm|apply Kd.br|apply Kd.a8));exact(Kd.bh (Kd.aJ (p:=⟨z,5,none⟩) (Kd.aJ (p:=⟨z,4,none⟩) (Kd.aJ (p:=⟨z,3,none⟩) (Kd.aJ (p:=⟨z,2,none⟩) (Kd.aJ (p:=⟨z,1,none⟩) (Kd.aJ (p:=⟨z,0,none⟩) (Kd.dD J.out D.out (by decide)) (fun _ hk=>hk.2) (.slice aq Y.length aw)) (fun _ hk=>hk.2) (.int .i64 ak)) (fun _ hk=>hk.2) (.slice aE ad.length aK)) (fun _ hk=>hk.2) (.int .i64 ao)) (fun _ hk=>hk.2) (.int .i64 az)) (fun _ hk=>hk.2) (.slice bc ap.length bf)) (fun _ h_=>h_.1))) hb);have G:=A_ (Kd.dZ (by(with_reducible repeat(first|apply Kd.bm|apply Kd.br|apply Kd.a8));exact(Kd.bh (Kd.aJ (p:=⟨z,5,none⟩) (Kd.aJ (p:=⟨z,4,none⟩) (Kd.aJ (p:=⟨z,3,none⟩) (Kd.aJ (p:=⟨z,2,none⟩) (Kd.aJ (p:=⟨z,1,none⟩) (Kd.aJ (p:=⟨z,0,none⟩) (Kd.dD K.out D.out (by decide)) (fun _ hk=>hk.2) (.slice aq Y.length aw)) (fun _ hk=>hk.2) (.int .i64 ak)) (fun _ hk=>hk.2) (.slice aE ad.length aK)) (fun _ hk=>hk.2) (.int .i64 ao)) (fun _ hk=>hk.2) (.int .i64 az)) (fun _ hk=>hk.2) (.slice bc ap.length bf)) (fun _ h_=>h_.1))) (Kd.dr bS) hb);have I:=A_ (Kd.aV (by(with_reducible repeat(first|apply Kd.bm|apply Kd.br|apply Kd.a8));exact(Kd.bh (Kd.aJ (p:=⟨z,5,none⟩) (Kd.aJ (p:=⟨z,4,none⟩) (Kd.aJ (p:=⟨z,3,none⟩) (Kd.aJ (p:=⟨z,2,none⟩) (Kd.aJ (p:=⟨z,1,none⟩) (Kd.aJ (p:=⟨z,0,none⟩) (Kd.dD bn.out D.out (by decide)) (fun _ hk=>hk.2) (.slice aq Y.length aw)) (fun _ hk=>hk.2) (.int .i64 ak)) (fun _ hk=>hk.2) (.slice aE ad.length aK)) (fun _ hk=>hk.2) (.int .i64 ao)) (fun _ hk=>hk.2) (.int .i64 az)) (fun _ hk=>hk.2) (.slice bc ap.length bf)) (fun _ h_=>h_.1))) hb);have O:=A_ (Kd.aV (by(with_reducible repeat(first|apply Kd.bm|apply Kd.br|apply Kd.a8));exact(Kd.bh (Kd.aJ (p:=⟨z,5,none⟩) (Kd.aJ (p:=⟨z,4,none⟩) (Kd.aJ (p:=⟨z,3,none⟩) (Kd.aJ (p:=⟨z,2,none⟩) (Kd.aJ (p:=⟨z,1,none⟩) (Kd.aJ (p:=⟨z,0,none⟩) (Kd.dD bd.out D.out (by decide)) (fun _ hk=>hk.2) (.slice aq Y.length aw)) (fun _ hk=>hk.2) (.int .i64 ak)) (fun _ hk=>hk.2) (.slice aE ad.length aK)) (fun _ hk=>hk.2) (.int .i64 ao)) (fun _ hk=>hk.2) (.int .i64 az)) (fun _ hk=>hk.2) (.slice bc ap.length bf)) (fun _ h_=>h_.1))) hb);have V:=A_ (Kd.aV (by(with_reducible repeat(first|apply Kd.bm|apply Kd.br|apply Kd.a8));exact(Kd.bh (Kd.aJ (p:=⟨z,5,none⟩) (Kd.aJ (p:=⟨z,4,none⟩) (Kd.aJ (p:=⟨z,3,none⟩) (Kd.aJ (p:=⟨z,2,none⟩) (Kd.aJ (p:=⟨z,1,none⟩) (Kd.aJ (p:=⟨z,0,none⟩) (Kd.dD bo.out D.out (by decide)) (fun _ hk=>hk.2) (.slice aq Y.length aw)) (fun _ hk=>hk.2) (.int .i64 ak)) (fun _ hk=>hk.2) (.slice aE ad.length aK)) (fun _ hk=>hk.2) (.int .i64 ao)) (fun _ hk=>hk.2) (.int .i64 az)) (fun _ hk=>hk.2) (.slice bc ap.length bf)) (fun _ h_=>h_.1))) hb);have X:=A_ (Kd.aV (by(with_reducible repeat(first|apply Kd.bm|apply Kd.br|apply Kd.a8));exact(Kd.bh (Kd.aJ (p:=⟨z,5,none⟩) (Kd.aJ (p:=⟨z,4,none⟩) (Kd.aJ (p:=⟨z,3,none⟩) (Kd.aJ (p:=⟨z,2,none⟩) (Kd.aJ (p:=⟨z,1,none⟩) (Kd.aJ (p:=⟨z,0,none⟩) (Kd.dD bA.out D.out (by decide)) (fun _ hk=>hk.2) (.slice aq Y.length aw)) (fun _ hk=>hk.2) (.int .i64 ak)) (fun _ hk=>hk.2) (.slice aE ad.length aK)) (fun _ hk=>hk.2) (.int .i64 ao)) (fun _ hk=>hk.2) (.int .i64 az)) (fun _ hk=>hk.2) (.slice bc ap.length bf)) (fun _ h_=>h_.1))) hb);have am:=A_ (Kd.aV (by(with_reducible repeat(first|apply Kd.bm|apply Kd.br|apply Kd.a8));exact(Kd.bh (Kd.aJ (p:=⟨z,5,none⟩) (Kd.aJ (p:=⟨z,4,none⟩) (Kd.aJ (p:=⟨z,3,none⟩) (Kd.aJ (p:=⟨z,2,none⟩) (Kd.aJ (p:=⟨z,1,none⟩) (Kd.aJ (p:=⟨z,0,none⟩) (Kd.dD bC.out D.out (by decide)) (fun _ hk=>hk.2) (.slice aq Y.length aw)) (fun _ hk=>hk.2) (.int .i64 ak)) (fun _ hk=>hk.2) (.slice aE ad.length aK)) (fun _ hk=>hk.2) (.int .i64 ao)) (fun _ hk=>hk.2) (.int .i64 az)) (fun _ hk=>hk.2) (.slice bc ap.length bf)) (fun _ h_=>h_.1))) hb);have bk:=A_ (Kd.aV (by(with_reducible repeat(first|apply Kd.bm|apply Kd.br|apply Kd.a8));exact(Kd.bh (Kd.aJ (p:=⟨z,5,none⟩) (Kd.aJ (p:=⟨z,4,none⟩) (Kd.aJ (p:=⟨z,3,none⟩) (Kd.aJ (p:=⟨z,2,none⟩) (Kd.aJ (p:=⟨z,1,none⟩) (Kd.aJ (p:=⟨z,0,none⟩) (Kd.dD bD.out D.out (by decide)) (fun _ hk=>hk.2) (.slice aq Y.length aw)) (fun _ hk=>hk.2) (.int .i64 ak)) (fun _ hk=>hk.2) (.slice aE ad.length aK)) (fun _ hk=>hk.2) (.int .i64 ao)) (fun _ hk=>hk.2) (.int .i64 az)) (fun _ hk=>hk.2) (.slice bc ap.length bf)) (fun _ h_=>h_.1))) hb);have bJ:=A_ (Kd.aV (by(with_reducible repeat(first|apply Kd.bm|apply Kd.br|apply Kd.a8));exact(Kd.bh (Kd.aJ (p:=⟨z,5,none⟩) (Kd.aJ (p:=⟨z,4,none⟩) (Kd.aJ (p:=⟨z,3,none⟩) (Kd.aJ (p:=⟨z,2,none⟩) (Kd.aJ (p:=⟨z,1,none⟩) (Kd.aJ (p:=⟨z,0,none⟩) (Kd.dD bH.out D.out (by decide)) (fun _ hk=>hk.2) (.slice aq Y.length aw)) (fun _ hk=>hk.2) (.int .i64 ak)) (fun _ hk=>hk.2) (.slice aE ad.length aK)) (fun _ hk=>hk.2) (.int .i64 ao)) (fun _ hk=>hk.2) (.int .i64 az)) (fun _ hk=>hk.2) (.slice bc ap.length bf)) (fun _ h_=>h_.1))) hb);have bK:=A_ (Kd.bE (Kd.fl bS (Kd.en (by(with_reducible repeat(first|apply Kd.bm|apply Kd.br|apply Kd.a8));exact(Kd.bh (Kd.aJ (p:=⟨z,5,none⟩) (Kd.aJ (p:=⟨z,4,none⟩) (Kd.aJ (p:=⟨z,3,none⟩) (Kd.aJ (p:=⟨z,2,none⟩) (Kd.aJ (p:=⟨z,1,none⟩) (Kd.aJ (p:=⟨z,0,none⟩) (Kd.dD K.out D.out (by decide)) (fun _ hk=>hk.2) (.slice aq Y.length aw)) (fun _ hk=>hk.2) (.int .i64 ak)) (fun _ hk=>hk.2) (.slice aE ad.length aK)) (fun _ hk=>hk.2) (.int .i64 ao)) (fun _ hk=>hk.2) (.int .i64 az)) (fun _ hk=>hk.2) (.slice bc ap.length bf)) (fun _ h_=>h_.1))))) (aA (oB u)));have b1:=A_ (fV (g:=z) (o:= .cells #[.slice aq Y.length aw,.int .i64 ak,.slice aE ad.length aK,.int .i64 ao,.int .i64 az,.slice bc ap.length bf] 30 (0,0)) (by(with_reducible repeat(first|refine aT ?_ _|refine aM ?_|refine aN ?_ _));refine bw (cs:= #[.slice aq Y.length aw,.int .i64 ak,.slice aE ad.length aK,.int .i64 ao,.int .i64 az,.slice none 0 0]) ?_ 5 _ rfl;(with_reducible repeat(first|refine aT ?_ _|refine aM ?_|refine aN ?_ _));refine bw (cs:= #[.slice aq Y.length aw,.int .i64 ak,.slice aE ad.length aK,.int .i64 ao,.int .i64 0,.slice none 0 0]) ?_ 4 _ rfl;(with_reducible repeat(first|refine aT ?_ _|refine aM ?_|refine aN ?_ _));refine bw (cs:= #[.slice aq Y.length aw,.int .i64 ak,.slice aE ad.length aK,.int .i64 0,.int .i64 0,.slice none 0 0]) ?_ 3 _ rfl;(with_reducible repeat(first|refine aT ?_ _|refine aM ?_|refine aN ?_ _));refine bw (cs:= #[.slice aq Y.length aw,.int .i64 ak,.slice none 0 0,.int .i64 0,.int .i64 0,.slice none 0 0]) ?_ 2 _ rfl;(with_reducible repeat(first|refine aT ?_ _|refine aM ?_|refine aN ?_ _));refine bw (cs:= #[.slice aq Y.length aw,.int .i64 0,.slice none 0 0,.int .i64 0,.int .i64 0,.slice none 0 0]) ?_ 1 _ rfl;(with_reducible repeat(first|refine aT ?_ _|refine aM ?_|refine aN ?_ _));refine bw (cs:= #[.slice none 0 0,.int .i64 0,.slice none 0 0,.int .i64 0,.int .i64 0,.slice none 0 0]) ?_ 0 _ rfl;(with_reducible repeat(first|refine aT ?_ _|refine aM ?_|refine aN ?_ _));exact D.out) hb);have b2:=A_ (aC (oB u) hb);clear J K bn bd bo bA bC bD bH D u;have J:=F;have K:=G;have bn:=I;have bd:=O;have bo:=V;have bA:=X;have bC:=am;have bD:=bk;have bH:=bJ;have di:=bK;have D:=b1;have u:=b2;clear F G I O V X am bk bJ bK b1 b2 hb bS;obtain⟨cA,cM,dS⟩:=Kd.bz bH.out;subst dS))
      go_loopg [13,62] k1 (fun bt v13 v62 w'=>∃(bu:List ByteArray) (a2:Int),v62= .int .i64 a2∧ae (cE.l1 bt bu aQ (aQ.length:Int) a2 Y ak ad ao az ap=some (r1,r2))∧ae (bt≤k1)∧ae (Kd.R Kd.string 9 w' w.heap.size (fun _=>True) v13 bu)∧ae (Kd.R (Kd.int .i64) 3 w' w.heap.size (fun k_=>some k_≠((.slice aE ad.length aK):Value).ownBlock) (.slice cA aQ.length cM) aQ)∧ae (Kd.R aX 110 w' w.heap.size (fun _=>True) (.slice aq Y.length aw) Y)∧ae (Kd.R (Kd.int .i64) 3 w' w.heap.size (fun k_=>some k_≠((.slice cA aQ.length cM):Value).ownBlock) (.slice aE ad.length aK) ad)∧ae (Kd.R aW 64 w' w.heap.size (fun _=>True) (.slice bc ap.length bf) ap)∧ae (w'.heap[z]? =some (.cells #[(.slice aq Y.length aw),.int .i64 ak,(.slice aE ad.length aK),.int .i64 ao,.int .i64 az,(.slice bc ap.length bf)] 30 (0,0)))∧ae (Below w.heap.size w w'))
      case atStart=>exact⟨(cV),(0),eS,H',⟨Nat.le_refl _⟩,⟨by(with_reducible repeat(first|apply Kd.bm|apply Kd.br|apply Kd.a8));exact Kd.bh di.out (fun _ hk=>trivial)⟩,⟨by(with_reducible repeat(first|apply Kd.bm|apply Kd.br|apply Kd.a8));exact Kd.bh bH.out (fun _ hk=>hk.1)⟩,⟨by(with_reducible repeat(first|apply Kd.bm|apply Kd.br|apply Kd.a8));exact Kd.bh bA.out (fun _ hk=>trivial)⟩,⟨by(with_reducible repeat(first|apply Kd.bm|apply Kd.br|apply Kd.a8));exact Kd.bh bC.out (fun _ hk=>hk.1)⟩,⟨by(with_reducible repeat(first|apply Kd.bm|apply Kd.br|apply Kd.a8));exact Kd.bh bD.out (fun _ hk=>trivial)⟩,⟨oK D⟩,⟨oB u⟩⟩
      case round=>
       clear H'
       try clear c1
       try clear p1
       try clear q1
       try clear hx1
       try clear c2
       try clear b9
       try clear b_
       try clear p2
       try clear c3
       try clear c4
       try clear e6
       try clear c8
       try clear ce
       try clear c9
       try clear cL
       try clear c10
       try clear cI
       try clear c14
       try clear c16
       try clear e5
       try clear e7
       try clear e3
       try clear c17
       try clear c18
       try clear c19
       try clear bL
       try clear cJ
       try clear cK
       try clear eC
       try clear c40
       try clear eD
       try clear dW
       try clear dX
       try clear dY
       try clear d0
       try clear d1
       try clear d2
       try clear d3
       try clear d4
       try clear d5
       try clear d6
       try clear d7
       try clear d8
       try clear d9
       try clear d'
       try clear ea
       try clear eb
       try clear ec
       try clear ef
       try clear eg
       try clear ei
       try clear ej
       try clear el
       try clear em
       try clear eo
       try clear ep
       try clear er
       try clear es
       try clear et
       try clear cO
       try clear p1
       try clear b3
       try clear p2
       try clear q1
       try clear b4
       obtain⟨bu,a2,rfl,bq,cB,al,be,a4,a5,a9,D,u⟩:=hrel;cases gk with
       |zero=>exact absurd bq.out (by simp[cE.l1])
       |succ k2=>
        have H:=bq.out;clear bq;simp only[cE.l1]at H;by_cases bP:a2<(aQ.length:Int)
        ·rw[af bP]at H;have dx:decide (a2<(aQ.length:Int))=true:=ah bP;clear bP;by_cases c46:0≤a2
         ·rw[af c46]at H;have eE:decide (0≤a2)=true:=ah c46;clear c46;by_cases b':a2<(aQ.length:Int)
          ·rw[af b']at H;have eI:decide (a2<(aQ.length:Int))=true:=ah b';clear b';replace H:=aD H;obtain⟨cb,cw,H⟩:=H
           (try dsimp only at H)
           have c5:=A_ cw;clear cw;by_cases c49:bu.length<8796093022208
           ·rw[af c49]at H;have dp:=A_ c49;clear c49;obtain⟨cW,bY⟩:∃bv:List ByteArray,bv=(bu++[cb]):=⟨_,rfl⟩;replace H:(cE.l1 k2 cW aQ (aQ.length:Int) (wrap64 (a2+1)) Y ak ad ao az ap)=some (r1,r2):=by first|(rw[bY];with_reducible exact H)|(have au:=(aG _ _).symm.trans H;rw[bY];with_reducible exact au)|(have au:=(aG _ _).symm.trans H;with_reducible exact au)|with_reducible exact H|(rw[bY];exact H)|exact H
            have du:=A_ bY;clear bY;have H':=A_ H;clear H;have ci:0≤(a2:Int):=oD;have cj:a2<(aQ.length:Int):=oD;obtain⟨eB,dH,e4⟩:=Kd.dG (Kd.aY be.out).2.2 a2 ci cj;cases dH;replace ci:=av ci;replace cj:=av cj
            go_wp2_with (first|((with_reducible refine aZ (f:=18) rfl ?_);refine gL (some 68) Tryz.func18 #[.int .i64 (rd aQ a2)] ?_;(with_reducible refine(k8.c (rd aQ a2) cb _ c5.out ?ek).mono ?_);(case ek=>exact⟨iN ca.out.1 (oB u)⟩);rintro e fz ⟨rfl,hb⟩;refine⟨_,rfl,?_⟩;have F:=A_ (Kd.aV (oR al) hb);have G:=A_ (Kd.aV (oR be) hb);have I:=A_ (Kd.aV (oR a4) hb);have O:=A_ (Kd.aV (oR a5) hb);have V:=A_ (Kd.aV (oR a9) hb);have X:=A_ (bb D hb);have am:=A_ (aC (oB u) hb);clear al be a4 a5 a9 D u;have al:=F;have be:=G;have a4:=I;have a5:=O;have a9:=V;have D:=X;have u:=am;clear F G I O V X am;(try clear hb);(try clear hb2);(try clear hk);(try clear hi))|((with_reducible refine dP (b:= .append) (xs:= #[.tmp 66,.tmp 69]) rfl ?_);(try(refine dE (by rfl) ?_;dsimp only));at_builtin;refine Kd.eF Kd.string (w0:=w) w.heap.size rfl (.tmp 66) (.tmp 69) 38 9 (.string ⟨#[]⟩) 16 rfl Tryz.underlying38 ld rfl (by decide) (by omega) u13 bu cb [.string cb] (fun _=>True) (fun _=>False) rfl rfl ?aP (fun _ hk=>hk.elim) ?aF ?aO ?aB ?aS ?aL ?_;(case aP=>exact rfl);(case aB=>exact(oB u));(case aF=>exact(fun _ _=>trivial));(case aO=>exact(oR al));(case aS=>exact(aA (oB u)));(case aL=>have:=dp.out;omega);intro fi fA ho hb hg hat;rw[←du.out]at ho;have F:=A_ (Kd.eG (oR be) (Kd.eH (oR al)) (by decide) hg);have G:=A_ (Kd.eG (oR a4) (Kd.eH (oR al)) (by decide) hg);have I:=A_ (Kd.eG (oR a5) (Kd.eH (oR al)) (by decide) hg);have O:=A_ (Kd.eG (oR a9) (Kd.eH (oR al)) (by decide) hg);have V:=A_ (bg D hg (Kd.fU al.out D.out (by decide)));have X:=A_ (hb);have am:=A_ (ho);clear be a4 a5 a9 D u al;have be:=F;have a4:=G;have a5:=I;have a9:=O;have D:=V;have u:=X;have dj:=am;clear F G I O V X am ho hb hg hat))
            go_roundg k2
            case measure=>have:=bx.out;have:=cB.out;omega
            case rel=>exact⟨(cW),(wrap64 (a2+1)),eS,H',⟨by have:=bx.out;have:=cB.out;omega⟩,⟨oR dj⟩,⟨oR be⟩,⟨oR a4⟩,⟨oR a5⟩,⟨oR a9⟩,⟨oK D⟩,⟨oB u⟩⟩
           ·rw[ag c49]at H;exact absurd H (by simp)
          ·rw[ag b']at H;exact absurd H (by simp)
         ·rw[ag c46]at H;exact absurd H (by simp)
        ·rw[ag bP]at H;have dx:decide (a2<(aQ.length:Int))=false:=ay bP;clear bP;replace H:=aD H;obtain⟨b5,cy,H⟩:=H
         (try dsimp only at H)
         have c6:=A_ cy;clear cy;by_cases c53:bu.length+b5.length<8796093022208
         ·rw[af c53]at H;have dq:=A_ c53;clear c53;obtain⟨ev,bZ⟩:∃bv:List ByteArray,bv=(bu++b5):=⟨_,rfl⟩;replace H:(some (ev,true))=some (r1,r2):=by first|(rw[bZ];with_reducible exact H)|(have au:=(aG _ _).symm.trans H;rw[bZ];with_reducible exact au)|(have au:=(aG _ _).symm.trans H;with_reducible exact au)|with_reducible exact H|(rw[bZ];exact H)|exact H
          have dv:=A_ bZ;clear bZ;simp only[Option.some.injEq,Prod.mk.injEq]at H;obtain⟨rfl,rfl⟩:=H;have eN:=cz D 0;have eO:=cz D 1;have eP:=cz D 2;have eQ:=cz D 3;have eT:=cz D 4;have eU:=cz D 5;have eV:=ar D.out 0;have eW:=ar D.out 1;have eX:=ar D.out 2;have eY:=ar D.out 3;have eZ:=ar D.out 4;have e0:=ar D.out 5
          go_wp2_with (first|((with_reducible refine aZ (f:=12) rfl ?_);refine gL (some 74) Tryz.func12 #[.agg #[.slice aq Y.length aw,.int .i64 ak,.slice aE ad.length aK,.int .i64 ao,.int .i64 az,.slice bc ap.length bf]] ?_;(with_reducible refine(eh.c k2 _ _ Y ak _ _ ad ao az _ _ ap b5 _ ?a6 ?a7 ?cG ?cH ?fq ?ft c6.out ?ek).mono ?_);(case ek=>exact⟨iN ca.out.1 (oB u)⟩);(case a6=>repeat(first|exact(Kd.aY a4.out).2.2|(with_reducible refine Kd.cZ ?_ _)|(with_reducible refine Kd.dn ?_ _)|(with_reducible refine Kd.dm ?_)));(case a7=>exact(Kd.aY a4.out).2.1);(case cG=>repeat(first|exact(Kd.aY a5.out).2.2|(with_reducible refine Kd.cZ ?_ _)|(with_reducible refine Kd.dn ?_ _)|(with_reducible refine Kd.dm ?_)));(case cH=>exact(Kd.aY a5.out).2.1);(case fq=>repeat(first|exact(Kd.aY a9.out).2.2|(with_reducible refine Kd.cZ ?_ _)|(with_reducible refine Kd.dn ?_ _)|(with_reducible refine Kd.dm ?_)));(case ft=>exact(Kd.aY a9.out).2.1);rintro e fB ⟨fj,rfl,aU,hb⟩;refine⟨_,rfl,?_⟩;have F:=A_ (Kd.dZ (oR al) (Kd.dr aU) hb);have G:=A_ (Kd.aV (oR be) hb);have I:=A_ (Kd.aV (oR a4) hb);have O:=A_ (Kd.aV (oR a5) hb);have V:=A_ (Kd.aV (oR a9) hb);have X:=A_ (Kd.bE (Kd.fl aU (Kd.en (oR al))) (aA (oB u)));have am:=A_ (bb D hb);have bk:=A_ (aC (oB u) hb);clear al be a4 a5 a9 D u;have al:=F;have be:=G;have a4:=I;have a5:=O;have a9:=V;have bO:=X;have D:=am;have u:=bk;clear F G I O V X am bk;(try clear hb);(try clear hb2);(try clear hk);(try clear hi);(try clear aU);obtain⟨db,dC,dT⟩:=Kd.bz bO.out;subst dT)|((with_reducible refine dP (b:= .append) (xs:= #[.tmp 72,.tmp 74]) rfl ?_);(try(refine dE (by rfl) ?_;dsimp only));at_builtin;refine Kd.lH Kd.string (w0:=w) w.heap.size rfl (.tmp 72) (.tmp 74) 38 9 (.string ⟨#[]⟩) 16 rfl Tryz.underlying38 ld rfl (by decide) (by omega) u13 bu b5 _ _ _ (fun k_=>some k_≠(.slice db b5.length dC:Value).ownBlock) (fun _=>False) rfl rfl ?aO ?aR (fun _ _ h=>h) (fun _ h=>h.elim) ?aF ?aB ?aS ?aL ?_;(case aR=>repeat(first|exact(Kd.aY bO.out).2.2|(with_reducible refine Kd.cZ ?_ _)|(with_reducible refine Kd.dn ?_ _)|(with_reducible refine Kd.dm ?_)));(case aB=>exact(oB u));(case aF=>exact(fun k_ hk=>Kd.fresh' (Kd.en (oR bO)) k_ hk));(case aO=>exact(by(with_reducible repeat(first|apply Kd.bm|apply Kd.br|apply Kd.a8));exact Kd.bh al.out (fun _ hk=>hk.2)));(case aS=>exact(aA (oB u)));(case aL=>have:=dq.out;omega);intro fk fC ho hb hg hat;rw[←dv.out]at ho;have F:=A_ (Kd.eG (oR be) (Kd.eH (oR al)) (by decide) hg);have G:=A_ (Kd.eG (oR a4) (Kd.eH (oR al)) (by decide) hg);have I:=A_ (Kd.eG (oR a5) (Kd.eH (oR al)) (by decide) hg);have O:=A_ (Kd.eG (oR a9) (Kd.eH (oR al)) (by decide) hg);have V:=A_ (bg D hg (Kd.fU al.out D.out (by decide)));have X:=A_ (Kd.o9 (ok:=(fun _=>True)) (oR bO) hg hat);have am:=A_ (hb);have bk:=A_ (ho);clear be a4 a5 a9 D bO u al;have be:=F;have a4:=G;have a5:=I;have a9:=O;have D:=V;have bO:=X;have u:=am;have dk:=bk;clear F G I O V X am bk ho hb hg hat))
          go_ret2;exact⟨_,eR,by(with_reducible repeat(first|apply Kd.bm|apply Kd.br|apply Kd.a8));exact Kd.bh dk.out (fun _ hk=>trivial),oB u⟩
         ·rw[ag c53]at H;exact absurd H (by simp)
end P
namespace Q
open Go.RowKit P WW.bq
theorem rJ (b:UInt8):Go.Lib.digitVal b=if 48≤b.toNat∧b.toNat≤57 then some (b.toNat-48)else none:=rfl
theorem tQ (b:UInt8):∀(l:List UInt8) (acc:Nat),Go.Lib.decFrom acc (l++[b])=(Go.Lib.decFrom acc l).bind fun n=>(Go.Lib.digitVal b).map fun d=>n*10+d
  |[],acc=>by
   simp only[List.nil_append,Go.Lib.decFrom,aG];cases Go.Lib.digitVal b<;>rfl
  |a::r,acc=>by
   simp only[List.cons_append,Go.Lib.decFrom];cases Go.Lib.digitVal a with
   |none=>rfl
   |some d=>exact tQ b r _
theorem pC (u:Nat) (h:u<10):(UInt8.ofNat (48+u)).toNat=48+u:=by
  rw[UInt8.toNat_ofNat'];omega
theorem rG (u:Nat):Go.Lib.decFrom 0 (Go.Lib.decDigits u)=some u:=by
  induction u using Nat.strongRecOn with
  |_ u ih=>
   rw[Go.Lib.decDigits];by_cases h:u<10
   · rw[dif_pos h];simp only[Go.Lib.decFrom,rJ,pC u h];rw[af (by omega)];simp
   · rw[dif_neg h,tQ,ih (u/10) (by omega),aG,rJ,pC (u%10) (by omega),af (by omega)];simp only[Option.map_some,Option.some.injEq];omega
theorem rH (u:Nat):∀b∈Go.Lib.decDigits u,48≤b.toNat∧b.toNat≤57:=by
  induction u using Nat.strongRecOn with
  |_ u ih=>
   intro b hb;rw[Go.Lib.decDigits]at hb;by_cases h:u<10
   · rw[dif_pos h]at hb;obtain rfl:=List.mem_singleton.mp hb;rw[pC u h];omega
   · rw[dif_neg h]at hb;rcases List.mem_append.mp hb with h1|h1
     · exact ih (u/10) (by omega) b h1
     · obtain rfl:=List.mem_singleton.mp h1;rw[pC (u%10) (by omega)];omega
theorem nc (u:Nat):Go.Lib.decDigits u≠[]:=by
  rw[Go.Lib.decDigits]
  split<;>simp
theorem pX {v:Int} (h:0≤v):num v=Go.Lib.decDigits v.toNat:=by unfold num Go.Lib.itoa;rw[ag (by omega)]
theorem rX {v:Int} (h:v<0):num v=45::Go.Lib.decDigits v.natAbs:=by unfold num Go.Lib.itoa;rw[af h]
theorem rI (u:Nat) (h:u≤1000000000):(Go.Lib.decDigits u).length≤10:=by
  have key:∀(m u:Nat),u<10^(m+1)→(Go.Lib.decDigits u).length≤m+1:=by
    intro m
    induction m with
    |zero=>intro u h;rw[Go.Lib.decDigits,dif_pos (by omega)];simp
    |succ m ih=>
     intro u h;rw[Go.Lib.decDigits];by_cases h1:u<10
     · rw[dif_pos h1];simp
     · rw[dif_neg h1,List.length_append,List.length_singleton];have:=ih (u/10) (by rw[Nat.pow_succ]at h;omega);omega
  exact key 9 u (by have:(10:Nat)^(9+1)=10000000000:=by decide
                    omega)
theorem Ad {v:Int} (h1: -1000000000≤v) (h2:v≤1000000000):jV (txt (num v))=some v:=by
  unfold jV;rw[kQ];by_cases h:v<0
  · have hl:=rI v.natAbs (by omega);rw[rX h,Go.Lib.atoiAll_short _ (by simp;omega)]
    have e:Go.Lib.decNat (Go.Lib.decDigits v.natAbs)=some v.natAbs:=by
      unfold Go.Lib.decNat;rw[ag (by simp[nc]),rG]
    simp only[Go.Lib.atoi,e];simp[Go.Lib.NumEnd.ofOption];omega
  · have hl:=rI v.toNat (by omega);rw[pX (by omega),Go.Lib.atoiAll_short _ (by omega)]
    have e:Go.Lib.decNat (Go.Lib.decDigits v.toNat)=some v.toNat:=by
      unfold Go.Lib.decNat;rw[ag (by simp[nc]),rG]
    cases hd:Go.Lib.decDigits v.toNat with
    |nil=>exact absurd hd (nc _)
    |cons b r=>
     have hb:=rH v.toNat b (by rw[hd];simp);have n1:(b==45)=false:=(by rw[beq_eq_false_iff_ne];intro e;rw[e]at hb;simp at hb);have n2:(b==43)=false:=(by rw[beq_eq_false_iff_ne];intro e;rw[e]at hb;simp at hb);rw[hd]at e;simp only[Go.Lib.atoi,n1,n2,e];simp[Go.Lib.NumEnd.ofOption];omega
def lv (s:ByteArray):Option Nat→Int×Bool
  |none=>(0,false)
  |some v=>if v≤1000000000∧num (v:Int)=s.data.toList then((v:Int),true)else(0,false)
def lx (s:ByteArray):Int×Bool:=if s.size>10 then(0,false)else lv s (Go.Lib.decFrom 0 s.data.toList)
theorem AY (s:ByteArray) (o:Option Nat):0≤(lv s o).1∧(lv s o).1≤1000000000:=by
  cases o with
  |none=>simp[lv]
  |some v=>
   by_cases h:v≤1000000000∧num (v:Int)=s.data.toList
   · simp only[lv,af h];omega
   · simp only[lv,ag h];omega
theorem sf (s:ByteArray):0≤(lx s).1∧(lx s).1≤1000000000:=by
  unfold lx
  split
  · simp
  · exact AY s _
theorem vp (s:ByteArray):Ev (fun k=>gy.f k s) (lx s):=by
  unfold gy.f lx;refine er (fun h=>bC (by omega) (Ev.now _)) (fun h=>bf (by omega) ?_);have hl:s.data.toList.length=s.size:=Array.length_toList;have hsz:s.size≤10:=by omega
  have key:∀(d i acc:Nat),i+d=s.size→acc<10^i→Ev (fun k=>gy.l0 k s (acc:Int) (i:Int)) (lv s (Go.Lib.decFrom acc (s.data.toList.drop i))):=by
    intro d
    induction d with
    |zero=>
     intro i acc h ha;have hi:i=s.size:=(by omega);have hp:acc<10^10:=Nat.lt_of_lt_of_le ha (Nat.pow_le_pow_right (by decide) (by omega));have u:(10:Nat)^10=10000000000:=(by decide);refine Ev.step (fun k=>by rw[gy.l0]) (aw (by omega) ?_);rw[List.drop_eq_nil_of_le (by omega),Go.Lib.decFrom,lv];refine er (fun hb=>bf (by omega) (Ev.now _)) (fun hb=> ?_);refine Ev.bind (lO (acc:Int) (by omega) (by omega)) ?_;rw[toList_eq,toList_eq,kQ];exact er (fun hc=>bC ⟨by omega,hc⟩ (Ev.now _)) (fun hc=>bf (fun hh=>hc hh.2) (Ev.now _))
    |succ d ih=>
     intro i acc h ha;have hi:i<s.data.toList.length:=(by omega);have hp:acc<10^10:=Nat.lt_of_lt_of_le ha (Nat.pow_le_pow_right (by decide) (by omega));have u:(10:Nat)^10=10000000000:=(by decide);refine Ev.step (fun k=>by rw[gy.l0]) (ai (by omega) (ai (by omega) ?_));rw[nb s i hi,List.drop_eq_getElem_cons hi,Go.Lib.decFrom,rJ];generalize hb:s.data.toList[i]=b at*;refine er (fun h1=> ?_) (fun h1=>er (fun h2=> ?_) (fun h2=> ?_))
     · rw[ag (by omega)];exact Ev.now _
     · rw[ag (by omega)];exact Ev.now _
     · rw[af (by omega)]
       have e1:wrap64 ((wrap64 ((wrap64 (10*(acc:Int)))+(wrap64 (b.toNat:Int))))-48)=((acc*10+(b.toNat-48):Nat):Int):=by
         rw[cm (n:=10*(acc:Int)) (by omega) (by omega),cm (n:=(b.toNat:Int)) (by omega) (by omega),cm (n:=10*(acc:Int)+(b.toNat:Int)) (by omega) (by omega),cm (n:=10*(acc:Int)+(b.toNat:Int)-48) (by omega) (by omega)];omega
       rw[e1,cm (by omega) (by omega)];exact ih (i+1) (acc*10+(b.toNat-48)) (by omega) (by rw[Nat.pow_succ];omega)
  have:=key s.size 0 0 (Nat.zero_add _) (by decide);simpa using this
theorem vq (v:Nat) (h:v≤1000000000):lx (txt (Go.Lib.decDigits v))=((v:Int),true):=by
  have hl:=rI v h;unfold lx;rw[ag (by rw[eU];omega),kQ,rG,lv,kQ,af ⟨h,by rw[pX (by omega)];simp⟩]
def kC (s:ByteArray):Int:=if s.size>1∧s.data.toList.head? =some 45 then-(lx (s.extract 1 s.size)).1 else(lx s).1
theorem zr (s:ByteArray): -1000000000≤kC s∧kC s≤1000000000:=by
  unfold kC;have h1:=sf s;have h2:=sf (s.extract 1 s.size)
  split<;>omega
theorem zt (s:ByteArray):Ev (fun k=>ic.f k s) (kC s):=by
  have hl:s.data.toList.length=s.size:=Array.length_toList;have h2:=sf (s.extract 1 s.size)
  have J:∀x:Bool,(x=true↔(s.size>1∧s.data.toList.head? =some 45))→Ev (fun k=>ic.j0 k s x) (kC s):=by
    intro x hx;refine Ev.step (fun k=>by rw[ic.j0]) ?_;unfold kC;refine er (fun h=>bC (hx.mp h) (ai (by have:=(hx.mp h).1;omega) (Ev.bind (vp _) (evs (cm (by omega) (by omega)))))) (fun h=>bf (fun hh=>h (hx.mpr hh)) (Ev.bind (vp _) (Ev.now _)))
  unfold ic.f;refine er (fun h=>ai (by omega) (J _ ?_)) (fun h=>J _ ?_)
  · have hi:0<s.data.toList.length:=(by omega);have hb:=nb s 0 hi;rw[show((0:Nat):Int)=0 from rfl]at hb;rw[hb];rw[List.head?_eq_getElem?,List.getElem?_eq_getElem hi];generalize s.data.toList[0]=b;simp only[Option.some.injEq,beq_iff_eq];constructor
    · intro e;exact⟨by omega,UInt8.toNat_inj.mp (by show b.toNat=45;omega)⟩
    · rintro⟨_,rfl⟩;rfl
  · constructor
    · intro e;cases e
    · intro e;omega
theorem zu {v:Int} (h1: -1000000000≤v) (h2:v≤1000000000):kC (txt (num v))=v:=by
  unfold kC;rw[kQ,eU];by_cases h:v<0
  · rw[rX h];have hd:=nc v.natAbs;have hlen:0<(Go.Lib.decDigits v.natAbs).length:=List.length_pos_iff.mpr hd;rw[af ⟨by simp;omega,rfl⟩]
    have e:(txt (45::Go.Lib.decDigits v.natAbs)).extract 1 (45::Go.Lib.decDigits v.natAbs).length=txt (Go.Lib.decDigits v.natAbs):=by
      apply ByteArray.ext;apply Array.toList_inj.mp;simp[txt,ByteArray.data_extract]
    rw[e,vq _ (by omega)];show-((v.natAbs:Nat):Int)=v;omega
  · rw[pX (by omega)];rw[ag ?_,vq _ (by omega)]
    · show((v.toNat:Nat):Int)=v;omega
    · rintro⟨_,hh⟩;cases hd:Go.Lib.decDigits v.toNat with
      |nil=>exact nc _ hd
      |cons b r=>
       rw[hd]at hh;have hb:=rH v.toNat b (by rw[hd];simp);obtain rfl:b=45:=(by simpa using hh);simp at hb
end Q

end Go.Proofs.YtnjfiaekdcekgaaGreatDoor
