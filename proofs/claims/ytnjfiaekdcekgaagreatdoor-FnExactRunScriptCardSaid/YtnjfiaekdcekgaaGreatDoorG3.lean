/- What functions of the program come to (f), that their calls come to just this (calls), and the plain laws over lists and numbers. No condition but those of the given row. -/
import Derived.Test.YtnjfiaekdcekgaaGreatDoorG2
import Derived.Shelf.Strings.Split
import Derived.Lib.ItoaLen
import Derived.Lib.SplitLaws
import Derived.Lib.Bytealg
set_option linter.unusedVariables false
set_option linter.unusedSimpArgs false
namespace Go.Proofs.YtnjfiaekdcekgaaGreatDoor
namespace P
set_option maxHeartbeats 8000000
set_option maxRecDepth 100000
set_option synthInstance.maxHeartbeats 400000
set_option synthInstance.maxSize 100000
open Go.RowKit WW.bq WW.cg WW.cd V
attribute [local go_sem] dN dO iY kV kX lK lQ
attribute [local go_sem] cN cR cQ cU cP cT cO cS
def eL.j0:Nat→Int→Int→Bool→List (aj)→Int→List Int→List (aj)→Int→List Int→Option ((List (aj))×Int×List Int×Bool)
 |0,_,_,_,_,_,_,_,_,_=>none
 |k+1,x1,x2,I,J,K,O,D,F,u=>if I=true then(some (D,F,u,false))else(if 0≤x1 then(if x1<(u.length:Int)then((some (u.set (x1:Int).toNat (wrap64 ((rd u x1)+x2)):List Int)).bind fun G=>((gb.f D F G).bind fun H=>(if H=true then(some (D,F,G,true))else((fx.f J K O).bind fun z=>(some (z.1,z.2.1,z.2.2,false))))))else(none))else(none))
def eL.f (k:Nat) (F:List (aj)) (D:Int) (z:List Int) (a1:Int) (a2:Int):Option ((List (aj))×Int×List Int×Bool):=(fx.f F D z).bind fun u=>((gb.f F D z).bind fun G=>(if G=true then((cv.f a1 0 11).bind fun H=>(if H=true then(if 0≤a1 then(if a1<(z.length:Int)then(if(rd z a1)=0 then(eL.j0 k a1 a2 true F D z u.1 u.2.1 u.2.2)else((cv.f a2 (-100000) 100000).bind fun I=>(eL.j0 k a1 a2 (!I) F D z u.1 u.2.1 u.2.2)))else(none))else(none))else(eL.j0 k a1 a2 true F D z u.1 u.2.1 u.2.2)))else(eL.j0 k a1 a2 true F D z u.1 u.2.1 u.2.2)))
def eL.T4:Bool×List (List Nat×List Nat):=(true,[([],[]),([0],[0]),([],[]),([],[]),([3],[3]),([],[]),([4,5],[4,5]),([6],[6]),([],[]),([7,8],[7,8]),([1,2,0,1,2,3,4,5,6,7,8,9],[1,2]),([10,9,0,1,2,3,4,5,6,7,8,9],[9,10])])
def eL.B4:List Nat:=[0,1,0,0,8,0,56,120,0,504,1023,2047]
theorem eL.mP:bo .any (opsOf Tryz.f103 4)=eL.T4:=by kernel_rfl
theorem eL.l9:cp eL.T4.2 eL.B4=true:=by kernel_rfl
theorem eL.c (k:Nat) (G:Option Addr) (K:Nat) (z:List (aj)) (J:Int) (H:Option Addr) (O:Nat) (D:List Int) (a1:Int) (a2:Int) (r1:List (aj)) (r2:Int) (r3:List Int) (ai:Bool) (w:World) (Z:Kd.C aX w G z.length z) (U:z.length≤K) (ad:Kd.C (Kd.int .i64) w H D.length D) (V:D.length≤O) (h:eL.f k z J D a1 a2=some (r1,r2,r3,ai)):
  Calls Tryz.prog 103 #[.agg #[.slice G z.length K,.int .i64 J,.slice H D.length O],.int .i64 a1,.int .i64 a2] w fun e w'=>∃ak al:Value,e= .returned (.tuple #[.agg #[ak,.int .i64 r2,al],.bool ai])∧Kd.R aX 110 w' w.heap.size (fun _=>True) ak r1∧Kd.R (Kd.int .i64) 3 w' w.heap.size (fun _=>True) al r3∧Below w.heap.size w w':=by
 replace Z:=bn.mk Z;replace U:=aq.mk U;replace ad:=bn.mk ad;replace V:=aq.mk V;have aC:=cL.mk (d:=aX) (e:=110) (t:=3) (by decide);have aB:=cL.mk (d:=aX) (e:=110) (t:=27) (by decide);unfold eL.f at h;have au:=Tryz.underlying27
 all_goals go_enter Tryz.func103,Tryz.ntmps103
 all_goals go_wp2_with ((first
  |((with_reducible refine ax (N:=3) rfl ?_);refine bV #[.slice G z.length K,.int .i64 J,.slice H D.length O] 27 fun g w1 j1 j2 ae=> ?_)
  |((with_reducible refine ax (N:=6) rfl ?_);refine bV #[.slice none 0 0,.int .i64 0,.slice none 0 0] 27 fun g w1 j1 j2 ae=> ?_)
  |((with_reducible refine ax (N:=8) rfl ?_);refine bV #[.slice none 0 0,.int .i64 0,.slice none 0 0] 27 fun g w1 j1 j2 ae=> ?_)
  |(go_at_call 53;(try rw[F.out]);replace h:=bI h;obtain⟨⟨t1,t2,t3⟩,A,h⟩:=h;(try dsimp only at h);refine(fx.c _ _ _ _ _ _ _ _ _ _ _ Rd.out aq.out Rd.out aq.out A).mono ?_;rintro e w2 ⟨v0,v1,rfl,X,Y,hb⟩;obtain⟨ao,b0,rfl,j0,q0⟩:=aQ X;obtain⟨B1,b1,rfl,j1,q1⟩:=aQ Y;have am:=az.mk hb;clear A X Y hb)
  |(go_at_call 55;(try rw[F.out]);replace h:=bI h;obtain⟨t,A,h⟩:=h;(try dsimp only at h);refine(gb.c _ _ _ _ _ _ _ _ _ Rd.out aq.out Rd.out aq.out A).mono ?_;rintro e w2 ⟨rfl,hb⟩;have am:=az.mk hb;clear A hb)
  |(go_at_call 58;(try rw[F.out]);replace h:=bI h;obtain⟨t,A,h⟩:=h;(try dsimp only at h);refine(cv.c _ _ _ _ _ A).mono ?_;rintro e w2 ⟨rfl,n,rfl⟩;clear A)
  |(refine qR (id:=4) (ds:=[11]) (l:= #[false,false,false,false,false,false,false,false,false,false,false,false]) eL.mP eL.l9 ?_;intro u I w3 aA u0 aw hHeld;refine qA 0 (some 33) u ?_;refine qA 2 (some 35) u ?_;refine qA 3 (some 36) u ?_;refine qA 5 (some 38) u ?_;refine qA 8 (some 41) u ?_;refine qT 1 (some 34) u I hHeld ?_;refine qT 4 (some 37) u I hHeld ?_;refine qA 6 (some 39) u ?_;refine qT 7 (some 40) u I hHeld ?_;refine qA 9 (some 42) u ?_;refine qA 10 (some 43) u ?_;refine qL 11 u ?_;refine qD u ?_));(repeat' first|((with_reducible replace h:=bU h);rcases h with ⟨hc,h⟩|⟨hc,h⟩<;>first|exact(bL h).elim|exact absurd hc (by decide)|subst hc|(replace hc:=bA hc;subst hc)|(replace hc:=dz hc;subst hc)|(replace hc:=dA hc;subst hc)|(have hd:(_==_)=true:=hc)|(have hd:(_==_)=false:=bA hc)|(have hd:=bQ hc;have he:=bR hc;clear hc)|(have hd:=bS hc;have he:=bT hc)|(have hd:=ay hc)|(have hd:=ah hc;(try(have hn:=Int.natCast_pos.mp hc;have hm:=ah hn;replace hn:=av hn));first|(obtain⟨ar,e_,i_⟩:=dy (by assumption) (by first|assumption|decide) hc;cases e_)|(obtain⟨ap,e_,c_⟩:=dv (by assumption) (by first|assumption|decide) hc;cases e_))|(have hd:=ah hc)|skip)|((with_reducible have hj:eL.j0 k _ _ _ _ _ _ _ _ _=_:=h);clear hj;rcases k with _|k<;>rw[eL.j0]at h<;>first|exact(bL h).elim|skip)|((with_reducible replace h:=dw h);obtain⟨F,h⟩:=h;replace F:=A_ F;(try dsimp only at h))))
 all_goals simp only[Option.some.injEq,Prod.mk.injEq]at h
 all_goals obtain⟨rfl,rfl,rfl,rfl⟩:=h
 all_goals refine bodyPost_ret (di rfl _ _ _ _ _ (0,0) _ rfl aU.out Tryz.underlying27 rfl (by kernel_rfl)) rfl ?_
 all_goals exact⟨_,_,rfl,(by first|exact bl|exact Kd.bj _ _ _ _ _|exact bZ|exact dJ (by simp)),(by first|exact bl|exact Kd.bj _ _ _ _ _|exact bZ|exact dJ (by simp)),From.out⟩
def gT.f (k:Nat) (a0:Int) (l1:List (aj)):Option ((List (aj))×Int×List Int×Bool):=(cM.f k a0 l1).bind fun z=>(if z.2=true then((iB.f l1).bind fun D=>(if 12≤35184372088832 then((some (List.replicate 12 0:List Int)).bind fun u=>(if 0<(u.length:Int)then(some (D,0,(u.set (0:Int).toNat a0),true))else(none)))else(none)))else(some (([]:List (aj)),0,([]:List Int),false)))
noncomputable def gT.T4:Bool×List (List Nat×List Nat):=bo .any (opsOf Tryz.f87 4)
def gT.B4:List Nat:=[0,1,0,7,0,31]
theorem gT.mP:bo .any (opsOf Tryz.f87 4)=gT.T4:=rfl
theorem gT.l9:cp gT.T4.2 gT.B4=true:=by kernel_rfl
theorem gT.c (k:Nat) (a0:Int) (A1:Option Addr) (c1:Nat) (l1:List (aj)) (r1:List (aj)) (r2:Int) (r3:List Int) (V:Bool) (w:World) (hr1:Kd.C aX w A1 l1.length l1) (hc1:l1.length≤c1) (h:gT.f k a0 l1=some (r1,r2,r3,V)):
  Calls Tryz.prog 87 #[.int .i64 a0,.slice A1 l1.length c1] w fun e w'=>∃X Y:Value,e= .returned (.tuple #[.agg #[X,.int .i64 r2,Y],.bool V])∧Kd.R aX 110 w' w.heap.size (fun _=>True) X r1∧Kd.R (Kd.int .i64) 3 w' w.heap.size (fun _=>True) Y r3∧Below w.heap.size w w':=by
 replace hr1:=bn.mk hr1;replace hc1:=aq.mk hc1;have ap:=cL.mk (d:=aX) (e:=110) (t:=3) (by decide);have ao:=cL.mk (d:=aX) (e:=110) (t:=27) (by decide);unfold gT.f at h;have ai:=Tryz.underlying27
 all_goals go_enter Tryz.func87,Tryz.ntmps87
 all_goals go_wp2_with ((first
  |((with_reducible refine ax (N:=4) rfl ?_);refine bV #[.slice none 0 0,.int .i64 0,.slice none 0 0] 27 fun g w1 j1 j2 al=> ?_)
  |(go_at_call 127;(try rw[D.out]);replace h:=bI h;obtain⟨⟨t1,t2⟩,A,h⟩:=h;(try dsimp only at h);refine(cM.c _ _ _ _ _ _ _ _ Rd.out aq.out A).mono ?_;rintro e w2 ⟨v0,rfl,z,hb⟩;obtain⟨F,b0,rfl,j0,q0⟩:=aQ z;have G:=az.mk hb;clear A z hb)
  |(refine qR (id:=4) (ds:=[]) (l:= #[false,false,false,false,false,false]) gT.mP gT.l9 ?_;intro u ae w3 am u0 ak hHeld;replace h:=bI h;obtain⟨ar,A1,h⟩:=h;(try dsimp only at h);refine qA 0 (some 18) u ?_;refine vv 1 2 4 (some 19) (some 20) (some 8) u (fun K hK=> ?_) (fun K hK=> ?_) (fun K hK=> ?_);(focus (refine cy Tryz.func96 (by kernel_rfl) rfl _ (by rfl) rfl rfl (by(try simp only[List.map_toArray,List.map_cons,List.map_nil]);rfl) ?_;refine(iB.c _ _ _ _ _ Rd.out aq.out A1).mono ?_;rintro e u1 ⟨v0,rfl,z,hb⟩;obtain⟨F,b0,rfl,j0,q0⟩:=aQ z;have G:=az.mk hb;(try clear z hb);refine⟨_,rfl,hK.out _ _ From.out fun hHeld=> ?_⟩;clear hK K;refine qN ?_;refine kI 2 4 (some 20) (some 8) u (fun K hK=> ?_) (fun K hK=> ?_);(focus (refine kH 3 20 25 _ _ 12 8 Tryz.underlying25 info3 (by decide) (by decide) ?_;intro B2 b2 u2 j2 I;generalize List.replicate 12 (0:Int)=U at h j2 ⊢;refine hK.out _ _ From.out fun hHeld=> ?_;clear hK K;refine qN ?_;refine qA 3 (some 21) u ?_;refine gu 4 (some 8) u fun K hK=> ?_;refine iH 8 #[.slice none 0 0,.int .i64 0,.slice none 0 0] 27 ?_;intro g4 H u4 J O;refine hK.out _ _ From.out fun hHeld=> ?_;clear hK K;refine qN ?_;refine qS 5 u fun hHeld=> ?_;refine qD u ?_));rotate_left 1;(focus (refine iH 8 #[.slice none 0 0,.int .i64 0,.slice none 0 0] 27 ?_;intro g4 H u4 J O;refine hK.out _ _ From.out fun hHeld=> ?_;clear hK K;refine qN ?_;refine gu 2 (some 20) u fun K hK=> ?_;refine kH 3 20 25 _ _ 12 8 Tryz.underlying25 info3 (by decide) (by decide) ?_;intro B2 b2 u2 j2 I;generalize List.replicate 12 (0:Int)=U at h j2 ⊢;refine hK.out _ _ From.out fun hHeld=> ?_;clear hK K;refine qN ?_;refine qA 3 (some 21) u ?_;refine qS 5 u fun hHeld=> ?_;refine qD u ?_))));rotate_left 2;(focus (refine kH 3 20 25 _ _ 12 8 Tryz.underlying25 info3 (by decide) (by decide) ?_;intro B2 b2 u2 j2 I;generalize List.replicate 12 (0:Int)=U at h j2 ⊢;refine hK.out _ _ From.out fun hHeld=> ?_;clear hK K;refine qN ?_;refine kI 1 4 (some 19) (some 8) u (fun K hK=> ?_) (fun K hK=> ?_);(focus (refine cy Tryz.func96 (by kernel_rfl) rfl _ (by rfl) rfl rfl (by(try simp only[List.map_toArray,List.map_cons,List.map_nil]);rfl) ?_;refine(iB.c _ _ _ _ _ Rd.out aq.out A1).mono ?_;rintro e u1 ⟨v0,rfl,z,hb⟩;obtain⟨F,b0,rfl,j0,q0⟩:=aQ z;have G:=az.mk hb;(try clear z hb);refine⟨_,rfl,hK.out _ _ From.out fun hHeld=> ?_⟩;clear hK K;refine qN ?_;refine qA 3 (some 21) u ?_;refine gu 4 (some 8) u fun K hK=> ?_;refine iH 8 #[.slice none 0 0,.int .i64 0,.slice none 0 0] 27 ?_;intro g4 H u4 J O;refine hK.out _ _ From.out fun hHeld=> ?_;clear hK K;refine qN ?_;refine qS 5 u fun hHeld=> ?_;refine qD u ?_));rotate_left 1;(focus (refine iH 8 #[.slice none 0 0,.int .i64 0,.slice none 0 0] 27 ?_;intro g4 H u4 J O;refine hK.out _ _ From.out fun hHeld=> ?_;clear hK K;refine qN ?_;refine gu 1 (some 19) u fun K hK=> ?_;refine cy Tryz.func96 (by kernel_rfl) rfl _ (by rfl) rfl rfl (by(try simp only[List.map_toArray,List.map_cons,List.map_nil]);rfl) ?_;refine(iB.c _ _ _ _ _ Rd.out aq.out A1).mono ?_;rintro e u1 ⟨v0,rfl,z,hb⟩;obtain⟨F,b0,rfl,j0,q0⟩:=aQ z;have G:=az.mk hb;(try clear z hb);refine⟨_,rfl,hK.out _ _ From.out fun hHeld=> ?_⟩;clear hK K;refine qN ?_;refine qA 3 (some 21) u ?_;refine qS 5 u fun hHeld=> ?_;refine qD u ?_))));rotate_left 2;(focus (refine iH 8 #[.slice none 0 0,.int .i64 0,.slice none 0 0] 27 ?_;intro g4 H u4 J O;refine hK.out _ _ From.out fun hHeld=> ?_;clear hK K;refine qN ?_;refine kI 1 2 (some 19) (some 20) u (fun K hK=> ?_) (fun K hK=> ?_);(focus (refine cy Tryz.func96 (by kernel_rfl) rfl _ (by rfl) rfl rfl (by(try simp only[List.map_toArray,List.map_cons,List.map_nil]);rfl) ?_;refine(iB.c _ _ _ _ _ Rd.out aq.out A1).mono ?_;rintro e u1 ⟨v0,rfl,z,hb⟩;obtain⟨F,b0,rfl,j0,q0⟩:=aQ z;have G:=az.mk hb;(try clear z hb);refine⟨_,rfl,hK.out _ _ From.out fun hHeld=> ?_⟩;clear hK K;refine qN ?_;refine gu 2 (some 20) u fun K hK=> ?_;refine kH 3 20 25 _ _ 12 8 Tryz.underlying25 info3 (by decide) (by decide) ?_;intro B2 b2 u2 j2 I;generalize List.replicate 12 (0:Int)=U at h j2 ⊢;refine hK.out _ _ From.out fun hHeld=> ?_;clear hK K;refine qN ?_;refine qA 3 (some 21) u ?_;refine qS 5 u fun hHeld=> ?_;refine qD u ?_));rotate_left 1;(focus (refine kH 3 20 25 _ _ 12 8 Tryz.underlying25 info3 (by decide) (by decide) ?_;intro B2 b2 u2 j2 I;generalize List.replicate 12 (0:Int)=U at h j2 ⊢;refine hK.out _ _ From.out fun hHeld=> ?_;clear hK K;refine qN ?_;refine gu 1 (some 19) u fun K hK=> ?_;refine cy Tryz.func96 (by kernel_rfl) rfl _ (by rfl) rfl rfl (by(try simp only[List.map_toArray,List.map_cons,List.map_nil]);rfl) ?_;refine(iB.c _ _ _ _ _ Rd.out aq.out A1).mono ?_;rintro e u1 ⟨v0,rfl,z,hb⟩;obtain⟨F,b0,rfl,j0,q0⟩:=aQ z;have G:=az.mk hb;(try clear z hb);refine⟨_,rfl,hK.out _ _ From.out fun hHeld=> ?_⟩;clear hK K;refine qN ?_;refine qA 3 (some 21) u ?_;refine qS 5 u fun hHeld=> ?_;refine qD u ?_))));all_goals((try simp only[aG]at h);(repeat' first|((with_reducible replace h:=bU h);rcases h with ⟨hc,h⟩|⟨hc,h⟩<;>first|exact(bL h).elim|exact absurd hc (by decide)|subst hc|(replace hc:=bA hc;subst hc)|(replace hc:=dz hc;subst hc)|(replace hc:=dA hc;subst hc)|(have hd:(_==_)=true:=hc)|(have hd:(_==_)=false:=bA hc)|(have hd:=bQ hc;have he:=bR hc;clear hc)|(have hd:=bS hc;have he:=bT hc)|(have hd:=ay hc)|(have hd:=ah hc;(try(have hn:=Int.natCast_pos.mp hc;have hm:=ah hn;replace hn:=av hn));first|(obtain⟨ad,e_,i_⟩:=dy (by assumption) (by first|assumption|decide) hc;cases e_)|(obtain⟨Z,e_,c_⟩:=dv (by assumption) (by first|assumption|decide) hc;cases e_))|(have hd:=ah hc)|skip)|((with_reducible replace h:=dw h);obtain⟨D,h⟩:=h;replace D:=A_ D;(try dsimp only at h))))));(repeat' first|((with_reducible replace h:=bU h);rcases h with ⟨hc,h⟩|⟨hc,h⟩<;>first|exact(bL h).elim|exact absurd hc (by decide)|subst hc|(replace hc:=bA hc;subst hc)|(replace hc:=dz hc;subst hc)|(replace hc:=dA hc;subst hc)|(have hd:(_==_)=true:=hc)|(have hd:(_==_)=false:=bA hc)|(have hd:=bQ hc;have he:=bR hc;clear hc)|(have hd:=bS hc;have he:=bT hc)|(have hd:=ay hc)|(have hd:=ah hc;(try(have hn:=Int.natCast_pos.mp hc;have hm:=ah hn;replace hn:=av hn));first|(obtain⟨ad,e_,i_⟩:=dy (by assumption) (by first|assumption|decide) hc;cases e_)|(obtain⟨Z,e_,c_⟩:=dv (by assumption) (by first|assumption|decide) hc;cases e_))|(have hd:=ah hc)|skip)|((with_reducible replace h:=dw h);obtain⟨D,h⟩:=h;replace D:=A_ D;(try dsimp only at h))))
 all_goals simp only[Option.some.injEq,Prod.mk.injEq]at h
 all_goals obtain⟨rfl,rfl,rfl,rfl⟩:=h
 all_goals refine bodyPost_ret (di rfl _ _ _ _ _ (0,0) _ rfl aU.out Tryz.underlying27 rfl (by kernel_rfl)) rfl ?_
 all_goals exact⟨_,_,(by first|rfl|(simp_all;done)),(by first|exact bl|exact Kd.bj _ _ _ _ _|exact bZ|exact dJ (by simp)),(by first|exact bl|exact Kd.bj _ _ _ _ _|exact bZ|exact dJ (by simp)),From.out⟩
def ib.f (k:Nat) (a0:Int) (l1:List (aj)):Option ((List (aj))×Int×List Int×Bool):=(cV.f k a0 l1).bind fun z=>(if z.2=true then((jO.f l1).bind fun t142=>(if 12≤35184372088832 then((some (List.replicate 12 0:List Int)).bind fun u=>(if 0<(u.length:Int)then(some (t142,0,(u.set (0:Int).toNat a0),true))else(none)))else(none)))else(some (([]:List (aj)),0,([]:List Int),false)))
noncomputable def ib.T4:Bool×List (List Nat×List Nat):=bo .any (opsOf Tryz.f130 4)
def ib.B4:List Nat:=[0,1,0,7,0,31]
theorem ib.mP:bo .any (opsOf Tryz.f130 4)=ib.T4:=rfl
theorem ib.l9:cp ib.T4.2 ib.B4=true:=by kernel_rfl
theorem ib.c (k:Nat) (a0:Int) (A1:Option Addr) (c1:Nat) (l1:List (aj)) (r1:List (aj)) (r2:Int) (r3:List Int) (V:Bool) (w:World) (hr1:Kd.C aX w A1 l1.length l1) (hc1:l1.length≤c1) (h:ib.f k a0 l1=some (r1,r2,r3,V)):
  Calls Tryz.prog 130 #[.int .i64 a0,.slice A1 l1.length c1] w fun e w'=>∃X Y:Value,e= .returned (.tuple #[.agg #[X,.int .i64 r2,Y],.bool V])∧Kd.R aX 110 w' w.heap.size (fun _=>True) X r1∧Kd.R (Kd.int .i64) 3 w' w.heap.size (fun _=>True) Y r3∧Below w.heap.size w w':=by
 replace hr1:=bn.mk hr1;replace hc1:=aq.mk hc1;have ap:=cL.mk (d:=aX) (e:=110) (t:=3) (by decide);have ao:=cL.mk (d:=aX) (e:=110) (t:=27) (by decide);unfold ib.f at h;have ai:=Tryz.underlying27
 all_goals go_enter Tryz.func130,Tryz.ntmps130
 all_goals go_wp2_with ((first
  |((with_reducible refine ax (N:=4) rfl ?_);refine bV #[.slice none 0 0,.int .i64 0,.slice none 0 0] 27 fun g w1 j1 j2 al=> ?_)
  |(go_at_call 151;(try rw[D.out]);replace h:=bI h;obtain⟨⟨t1,t2⟩,A,h⟩:=h;(try dsimp only at h);refine(cV.c _ _ _ _ _ _ _ _ Rd.out aq.out A).mono ?_;rintro e w2 ⟨v0,rfl,z,hb⟩;obtain⟨F,b0,rfl,j0,q0⟩:=aQ z;have G:=az.mk hb;clear A z hb)
  |(refine qR (id:=4) (ds:=[]) (l:= #[false,false,false,false,false,false]) ib.mP ib.l9 ?_;intro u ae w3 am u0 ak hHeld;replace h:=bI h;obtain⟨ar,A1,h⟩:=h;(try dsimp only at h);refine qA 0 (some 18) u ?_;refine vv 1 2 4 (some 19) (some 20) (some 8) u (fun K hK=> ?_) (fun K hK=> ?_) (fun K hK=> ?_);(focus (refine cy Tryz.func107 (by kernel_rfl) rfl _ (by rfl) rfl rfl (by(try simp only[List.map_toArray,List.map_cons,List.map_nil]);rfl) ?_;refine(jO.c _ _ _ _ _ Rd.out aq.out A1).mono ?_;rintro e u1 ⟨v0,rfl,z,hb⟩;obtain⟨F,b0,rfl,j0,q0⟩:=aQ z;have G:=az.mk hb;(try clear z hb);refine⟨_,rfl,hK.out _ _ From.out fun hHeld=> ?_⟩;clear hK K;refine qN ?_;refine kI 2 4 (some 20) (some 8) u (fun K hK=> ?_) (fun K hK=> ?_);(focus (refine kH 3 20 25 _ _ 12 8 Tryz.underlying25 info3 (by decide) (by decide) ?_;intro B2 b2 u2 j2 I;generalize List.replicate 12 (0:Int)=U at h j2 ⊢;refine hK.out _ _ From.out fun hHeld=> ?_;clear hK K;refine qN ?_;refine qA 3 (some 21) u ?_;refine gu 4 (some 8) u fun K hK=> ?_;refine iH 8 #[.slice none 0 0,.int .i64 0,.slice none 0 0] 27 ?_;intro g4 H u4 J O;refine hK.out _ _ From.out fun hHeld=> ?_;clear hK K;refine qN ?_;refine qS 5 u fun hHeld=> ?_;refine qD u ?_));rotate_left 1;(focus (refine iH 8 #[.slice none 0 0,.int .i64 0,.slice none 0 0] 27 ?_;intro g4 H u4 J O;refine hK.out _ _ From.out fun hHeld=> ?_;clear hK K;refine qN ?_;refine gu 2 (some 20) u fun K hK=> ?_;refine kH 3 20 25 _ _ 12 8 Tryz.underlying25 info3 (by decide) (by decide) ?_;intro B2 b2 u2 j2 I;generalize List.replicate 12 (0:Int)=U at h j2 ⊢;refine hK.out _ _ From.out fun hHeld=> ?_;clear hK K;refine qN ?_;refine qA 3 (some 21) u ?_;refine qS 5 u fun hHeld=> ?_;refine qD u ?_))));rotate_left 2;(focus (refine kH 3 20 25 _ _ 12 8 Tryz.underlying25 info3 (by decide) (by decide) ?_;intro B2 b2 u2 j2 I;generalize List.replicate 12 (0:Int)=U at h j2 ⊢;refine hK.out _ _ From.out fun hHeld=> ?_;clear hK K;refine qN ?_;refine kI 1 4 (some 19) (some 8) u (fun K hK=> ?_) (fun K hK=> ?_);(focus (refine cy Tryz.func107 (by kernel_rfl) rfl _ (by rfl) rfl rfl (by(try simp only[List.map_toArray,List.map_cons,List.map_nil]);rfl) ?_;refine(jO.c _ _ _ _ _ Rd.out aq.out A1).mono ?_;rintro e u1 ⟨v0,rfl,z,hb⟩;obtain⟨F,b0,rfl,j0,q0⟩:=aQ z;have G:=az.mk hb;(try clear z hb);refine⟨_,rfl,hK.out _ _ From.out fun hHeld=> ?_⟩;clear hK K;refine qN ?_;refine qA 3 (some 21) u ?_;refine gu 4 (some 8) u fun K hK=> ?_;refine iH 8 #[.slice none 0 0,.int .i64 0,.slice none 0 0] 27 ?_;intro g4 H u4 J O;refine hK.out _ _ From.out fun hHeld=> ?_;clear hK K;refine qN ?_;refine qS 5 u fun hHeld=> ?_;refine qD u ?_));rotate_left 1;(focus (refine iH 8 #[.slice none 0 0,.int .i64 0,.slice none 0 0] 27 ?_;intro g4 H u4 J O;refine hK.out _ _ From.out fun hHeld=> ?_;clear hK K;refine qN ?_;refine gu 1 (some 19) u fun K hK=> ?_;refine cy Tryz.func107 (by kernel_rfl) rfl _ (by rfl) rfl rfl (by(try simp only[List.map_toArray,List.map_cons,List.map_nil]);rfl) ?_;refine(jO.c _ _ _ _ _ Rd.out aq.out A1).mono ?_;rintro e u1 ⟨v0,rfl,z,hb⟩;obtain⟨F,b0,rfl,j0,q0⟩:=aQ z;have G:=az.mk hb;(try clear z hb);refine⟨_,rfl,hK.out _ _ From.out fun hHeld=> ?_⟩;clear hK K;refine qN ?_;refine qA 3 (some 21) u ?_;refine qS 5 u fun hHeld=> ?_;refine qD u ?_))));rotate_left 2;(focus (refine iH 8 #[.slice none 0 0,.int .i64 0,.slice none 0 0] 27 ?_;intro g4 H u4 J O;refine hK.out _ _ From.out fun hHeld=> ?_;clear hK K;refine qN ?_;refine kI 1 2 (some 19) (some 20) u (fun K hK=> ?_) (fun K hK=> ?_);(focus (refine cy Tryz.func107 (by kernel_rfl) rfl _ (by rfl) rfl rfl (by(try simp only[List.map_toArray,List.map_cons,List.map_nil]);rfl) ?_;refine(jO.c _ _ _ _ _ Rd.out aq.out A1).mono ?_;rintro e u1 ⟨v0,rfl,z,hb⟩;obtain⟨F,b0,rfl,j0,q0⟩:=aQ z;have G:=az.mk hb;(try clear z hb);refine⟨_,rfl,hK.out _ _ From.out fun hHeld=> ?_⟩;clear hK K;refine qN ?_;refine gu 2 (some 20) u fun K hK=> ?_;refine kH 3 20 25 _ _ 12 8 Tryz.underlying25 info3 (by decide) (by decide) ?_;intro B2 b2 u2 j2 I;generalize List.replicate 12 (0:Int)=U at h j2 ⊢;refine hK.out _ _ From.out fun hHeld=> ?_;clear hK K;refine qN ?_;refine qA 3 (some 21) u ?_;refine qS 5 u fun hHeld=> ?_;refine qD u ?_));rotate_left 1;(focus (refine kH 3 20 25 _ _ 12 8 Tryz.underlying25 info3 (by decide) (by decide) ?_;intro B2 b2 u2 j2 I;generalize List.replicate 12 (0:Int)=U at h j2 ⊢;refine hK.out _ _ From.out fun hHeld=> ?_;clear hK K;refine qN ?_;refine gu 1 (some 19) u fun K hK=> ?_;refine cy Tryz.func107 (by kernel_rfl) rfl _ (by rfl) rfl rfl (by(try simp only[List.map_toArray,List.map_cons,List.map_nil]);rfl) ?_;refine(jO.c _ _ _ _ _ Rd.out aq.out A1).mono ?_;rintro e u1 ⟨v0,rfl,z,hb⟩;obtain⟨F,b0,rfl,j0,q0⟩:=aQ z;have G:=az.mk hb;(try clear z hb);refine⟨_,rfl,hK.out _ _ From.out fun hHeld=> ?_⟩;clear hK K;refine qN ?_;refine qA 3 (some 21) u ?_;refine qS 5 u fun hHeld=> ?_;refine qD u ?_))));all_goals((try simp only[aG]at h);(repeat' first|((with_reducible replace h:=bU h);rcases h with ⟨hc,h⟩|⟨hc,h⟩<;>first|exact(bL h).elim|exact absurd hc (by decide)|subst hc|(replace hc:=bA hc;subst hc)|(replace hc:=dz hc;subst hc)|(replace hc:=dA hc;subst hc)|(have hd:(_==_)=true:=hc)|(have hd:(_==_)=false:=bA hc)|(have hd:=bQ hc;have he:=bR hc;clear hc)|(have hd:=bS hc;have he:=bT hc)|(have hd:=ay hc)|(have hd:=ah hc;(try(have hn:=Int.natCast_pos.mp hc;have hm:=ah hn;replace hn:=av hn));first|(obtain⟨ad,e_,i_⟩:=dy (by assumption) (by first|assumption|decide) hc;cases e_)|(obtain⟨Z,e_,c_⟩:=dv (by assumption) (by first|assumption|decide) hc;cases e_))|(have hd:=ah hc)|skip)|((with_reducible replace h:=dw h);obtain⟨D,h⟩:=h;replace D:=A_ D;(try dsimp only at h))))));(repeat' first|((with_reducible replace h:=bU h);rcases h with ⟨hc,h⟩|⟨hc,h⟩<;>first|exact(bL h).elim|exact absurd hc (by decide)|subst hc|(replace hc:=bA hc;subst hc)|(replace hc:=dz hc;subst hc)|(replace hc:=dA hc;subst hc)|(have hd:(_==_)=true:=hc)|(have hd:(_==_)=false:=bA hc)|(have hd:=bQ hc;have he:=bR hc;clear hc)|(have hd:=bS hc;have he:=bT hc)|(have hd:=ay hc)|(have hd:=ah hc;(try(have hn:=Int.natCast_pos.mp hc;have hm:=ah hn;replace hn:=av hn));first|(obtain⟨ad,e_,i_⟩:=dy (by assumption) (by first|assumption|decide) hc;cases e_)|(obtain⟨Z,e_,c_⟩:=dv (by assumption) (by first|assumption|decide) hc;cases e_))|(have hd:=ah hc)|skip)|((with_reducible replace h:=dw h);obtain⟨D,h⟩:=h;replace D:=A_ D;(try dsimp only at h))))
 all_goals simp only[Option.some.injEq,Prod.mk.injEq]at h
 all_goals obtain⟨rfl,rfl,rfl,rfl⟩:=h
 all_goals refine bodyPost_ret (di rfl _ _ _ _ _ (0,0) _ rfl aU.out Tryz.underlying27 rfl (by kernel_rfl)) rfl ?_
 all_goals exact⟨_,_,(by first|rfl|(simp_all;done)),(by first|exact bl|exact Kd.bj _ _ _ _ _|exact bZ|exact dJ (by simp)),(by first|exact bl|exact Kd.bj _ _ _ _ _|exact bZ|exact dJ (by simp)),From.out⟩
def dR.l0:Nat→List Int→Int→List (aj)→Int→List Int→Option (List Int)
 |0,_,_,_,_,_=>none
 |k+1,x3,u,z,F,D=>if u<F then(if 0≤u then(if u<(z.length:Int)then(if 0≤((ak z u).f1)then(if((ak z u).f1)<(D.length:Int)then(if 0≤((ak z u).f0)then(if((ak z u).f0)<(D.length:Int)then((cD.f k (rd D ((ak z u).f0)) ((ak z u).f2) ((ak z u).f3)).bind fun G=>(if(rd D ((ak z u).f1))=G then(dR.l0 k x3 (wrap64 (u+1)) z F D)else(if x3.length<17592186044416 then(dR.l0 k (x3++[u]) (wrap64 (u+1)) z F D)else(none))))else(none))else(none))else(none))else(none))else(none))else(none))else(some x3)
def dR.f (k:Nat) (z:List (aj)) (u:Int) (D:List Int):Option (List Int):=(some (([]:List Int):List Int)).bind fun F=>((cK.f k z u D).bind fun G=>(if G=true then(dR.l0 k F 0 z u D)else(some F)))
def dR.T8:Bool×List (List Nat×List Nat):=(true,[([],[]),([0],[0]),([],[]),([2],[2]),([1,3],[1,3]),([4],[4]),([],[]),([6],[6]),([],[]),([8],[8]),([7,9],[7,9]),([10],[10]),([],[]),([12],[12]),([],[]),([14],[14]),([11,13,15],[11,13,15]),([5,16],[5,16])])
def dR.B8:List Nat:=[0,1,0,4,15,31,0,64,0,256,960,1984,0,4096,0,16384,65472,131071]
theorem dR.ju:bo .any (opsOf Tryz.f112 8)=dR.T8:=by kernel_rfl
theorem dR.iX:cp dR.T8.2 dR.B8=true:=by kernel_rfl
theorem dR.c (k:Nat) (Z:Option Addr) (ai:Nat) (J:List (aj)) (Y:Int) (ad:Option Addr) (ak:Nat) (O:List Int) (r:List Int) (w:World) (aT:Kd.C aX w Z J.length J) (aQ:J.length≤ai) (aV:Kd.C (Kd.int .i64) w ad O.length O) (aR:O.length≤ak) (h:dR.f k J Y O=some r):
  Calls Tryz.prog 112 #[.agg #[.slice Z J.length ai,.int .i64 Y,.slice ad O.length ak]] w fun e w'=>∃aY:Value,e= .returned (aY)∧Kd.R (Kd.int .i64) 3 w' w.heap.size (fun _=>True) aY r∧Below w.heap.size w w':=by
 have bh:=bn.mk aT;have bf:=aq.mk aQ;have bk:=bn.mk aV;have bg:=aq.mk aR;clear aT aQ aV aR;have bo:=mW.mk (e:=3) (t:=27) (by decide);have bm:=mW.mk (e:=3) (t:=110) (by decide);unfold dR.f at h
 (try simp only[aG]at h)
 have be:=Tryz.underlying27;have bd:=Tryz.underlying110
 (repeat' first|((with_reducible replace h:=bU h);rcases h with ⟨hc,h⟩|⟨hc,h⟩<;>first|exact(bL h).elim|exact absurd hc (by decide)|subst hc|(replace hc:=bA hc;subst hc)|(replace hc:=dz hc;subst hc)|(replace hc:=dA hc;subst hc)|(have hd:(_==_)=true:=hc)|(have hd:(_==_)=false:=bA hc)|(have hd:=bQ hc;have he:=bR hc;clear hc)|(have hd:=bS hc;have he:=bT hc)|(have hd:=ay hc)|(have hd:=ah hc;(try(have hn:=Int.natCast_pos.mp hc;have hm:=ah hn;replace hn:=av hn));first|(obtain⟨ao,e_,i_⟩:=dy (by assumption) (by first|assumption|decide) hc;cases e_)|(obtain⟨U,e_,c_⟩:=dv (by assumption) (by first|assumption|decide) hc;cases e_)|(obtain⟨U,e_,F,G,H,I⟩:=eV (bn.out (self:=by assumption)) _ (by first|assumption|decide) hc;cases e_;replace F:=bu.mk F;replace G:=bu.mk G;replace H:=bu.mk H;replace I:=bu.mk I))|(have hd:=ah hc)|skip)|((with_reducible replace h:=dw h);obtain⟨D,h⟩:=h;replace D:=A_ D;(try dsimp only at h)))
 all_goals go_enter Tryz.func112,Tryz.ntmps112
 all_goals go_wp2_with ((first
  |((with_reducible refine ax (N:=1) rfl ?_);refine bV #[.slice Z J.length ai,.int .i64 Y,.slice ad O.length ak] 27 fun g1 w1 j1 j2 au=> ?_)
  |((with_reducible refine ax (N:=5) rfl ?_);refine bV #[.int .i64 0,.int .i64 0,.int .i64 0,.int .i64 0] 110 fun g5 w1 j1 j2 au=> ?_)
  |((with_reducible refine ax (N:=6) rfl ?_);refine Kd.cx (Kd.int .i64) _ 3 ?hg (N:=6) ?hd (xs:=([]:List Int)) (inner:=[]) (ok:=fun _=>True) (bB:=fun _=>True) ?hr ?hp (fun _ hk=>hk) trivial (Below.refl _ _) (Nat.le_refl _) (by simp) ?_;(case hd=>rfl);(case hg=>rfl);(case hr=>first|(go_simp;done)|(go_simp;rfl));(case hp=>exact(aI.none _ _));intro v5 a9 ho hb ap ar;obtain⟨aZ,c5,rfl⟩:=Kd.bz ho;have aw:=dT.mk ho;have q5:=aq.mk (iJ aw);have a2:=az.mk hb;clear ap ar ho hb)
  |(go_at_call 70;(try rw[D.out]);replace h:=bI h;obtain⟨t,A,h⟩:=h;(try dsimp only at h);refine(cK.c _ _ _ _ _ _ _ _ _ _ Rd.out aq.out Rd.out aq.out A).mono ?_;rintro e w2 ⟨rfl,hb⟩;have aC:=az.mk hb;clear A hb)
  |(refine qR (id:=8) (ds:=[]) (l:= #[false,false,false,false,false,false,false,false,false,false,false,false,false,false,false,false,false,false]) dR.ju dR.iX ?_;intro u z w3 a7 u0 a1 hHeld;refine qA 0 (some 22) u ?_;refine qA 2 (some 24) u ?_;refine qA 6 (some 28) u ?_;refine qA 8 (some 30) u ?_;refine qA 12 (some 34) u ?_;refine qA 14 (some 36) u ?_;refine qT 1 (some 23) u z hHeld ?_;refine qT 3 (some 25) u z hHeld ?_;refine qA 4 (some 26) u ?_;refine qT 5 (some 27) u z hHeld ?_;refine qT 7 (some 29) u z hHeld ?_;refine qT 9 (some 31) u z hHeld ?_;refine qA 10 (some 32) u ?_;refine qT 11 (some 33) u z hHeld ?_;refine qT 13 (some 35) u z hHeld ?_;refine qT 15 (some 37) u z hHeld ?_;replace h:=bI h;obtain⟨t,A,h⟩:=h;(try dsimp only at h);refine qC 16 38 Tryz.func134 u fun K hK=> ?_;refine(cD.c _ _ _ _ _ _ A).mono ?_;rintro e w2 ⟨rfl,hb⟩;have aC:=az.mk hb;clear A hb;refine⟨_,rfl,hK _ _ From.out fun hHeld=> ?_⟩;clear hK K;refine qN ?_;refine qA 17 (some 39) u ?_;refine qD u ?_)
  |((with_reducible refine dP (b:= .append) (xs:= #[.tmp 40,.tmp 42]) rfl ?_);at_builtin;refine Kd.eF (Kd.int .i64) (w0:=w) w.heap.size rfl (.tmp 40) (.tmp 42) 25 3 (.int .i64 0) 8 rfl Tryz.underlying25 info3 rfl (by decide) (by omega) (.slice aE V.length aN) V X [.int .i64 X] (fun _=>True) (fun _=>False) rfl rfl ?aP (fun _ hk=>hk.elim) ?aF ?aO ?aB ?aS ?aL ?_;(case aP=>exact rfl);(case aO=>exact bl);(case aB=>exact From.out);(case aF=>exact(fun _ _=>trivial));(case aS=>exact(From.out (w0:=w)).size);(case aL=>omega);intro v7 w7 ho hb hg hat;have a5:=grE (bl (w:=w) (d:=(Kd.int .i64))) hg;obtain⟨a0,c7,rfl,aA⟩:=sw ho;have a8:=aq.mk (iJ aA);have a4:From w w7:=⟨hb⟩;have a6:Sz w w7:=⟨hb.size⟩;clear ho hb hg hat));(repeat' first|((with_reducible replace h:=bU h);rcases h with ⟨hc,h⟩|⟨hc,h⟩<;>first|exact(bL h).elim|exact absurd hc (by decide)|subst hc|(replace hc:=bA hc;subst hc)|(replace hc:=dz hc;subst hc)|(replace hc:=dA hc;subst hc)|(have hd:(_==_)=true:=hc)|(have hd:(_==_)=false:=bA hc)|(have hd:=bQ hc;have he:=bR hc;clear hc)|(have hd:=bS hc;have he:=bT hc)|(have hd:=ay hc)|(have hd:=ah hc;(try(have hn:=Int.natCast_pos.mp hc;have hm:=ah hn;replace hn:=av hn));first|(obtain⟨ao,e_,i_⟩:=dy (by assumption) (by first|assumption|decide) hc;cases e_)|(obtain⟨U,e_,c_⟩:=dv (by assumption) (by first|assumption|decide) hc;cases e_)|(obtain⟨U,e_,F,G,H,I⟩:=eV (bn.out (self:=by assumption)) _ (by first|assumption|decide) hc;cases e_;replace F:=bu.mk F;replace G:=bu.mk G;replace H:=bu.mk H;replace I:=bu.mk I))|(have hd:=ah hc)|skip)|((with_reducible replace h:=dw h);obtain⟨D,h⟩:=h;replace D:=A_ D;(try dsimp only at h))))
 all_goals first
  |((try obtain rfl:=aH h);go_ret;exact⟨(.slice _ _ _),rfl,(by first|exact bl|exact bW rfl|exact bW (by simp)|exact Kd.bj _ _ _ _ _|exact bZ|exact dJ (by simp)),From.out⟩)
  |skip
 go_loopg [3,4] k (fun aW v3 v4 w'=>∃(V:List Int) (X:Int),v4= .int .i64 X∧ae (dR.l0 aW V X J Y O=some r)∧ae (aW≤k)∧ae (Kd.R (Kd.int .i64) 3 w' w.heap.size (fun _=>True) v3 V)∧ae (w'.heap[g1]? =some (.cells #[(.slice Z J.length ai),.int .i64 Y,(.slice ad O.length ak)] 27 (0,0)))∧ae (Below w.heap.size w w'))
 case atStart=>exact⟨_,_,(by first|rfl|(simp;done)),⟨h⟩,⟨Nat.le_refl _⟩,⟨by first|exact bl|exact bW rfl|exact bW (by simp)|exact Kd.bj _ _ _ _ _⟩,⟨aU.out⟩,⟨From.out⟩⟩
 case round=>
  clear h;obtain⟨V,X,rfl,al,aK,aM,aJ,am⟩:=hrel;rcases gk with _|k1
  ·exact absurd al.out (by simp[dR.l0])
  have h:=al.out;clear al;simp only[dR.l0]at h;obtain⟨aE,aN,rfl,a3⟩:=sw aM.out;have bp:=aq.mk (iJ a3);clear aM;have a_:=aU.mk aJ.out;clear aJ;have bb:From w wr:=⟨am.out⟩;have bc:Sz w wr:=⟨am.out.size⟩;clear am
  (repeat' first|((with_reducible replace h:=bU h);rcases h with ⟨hc,h⟩|⟨hc,h⟩<;>first|exact(bL h).elim|exact absurd hc (by decide)|subst hc|(replace hc:=bA hc;subst hc)|(replace hc:=dz hc;subst hc)|(replace hc:=dA hc;subst hc)|(have hd:(_==_)=true:=hc)|(have hd:(_==_)=false:=bA hc)|(have hd:=bQ hc;have he:=bR hc;clear hc)|(have hd:=bS hc;have he:=bT hc)|(have hd:=ay hc)|(have hd:=ah hc;(try(have hn:=Int.natCast_pos.mp hc;have hm:=ah hn;replace hn:=av hn));first|(obtain⟨ao,e_,i_⟩:=dy (by assumption) (by first|assumption|decide) hc;cases e_)|(obtain⟨U,e_,c_⟩:=dv (by assumption) (by first|assumption|decide) hc;cases e_)|(obtain⟨U,e_,F,G,H,I⟩:=eV (bn.out (self:=by assumption)) _ (by first|assumption|decide) hc;cases e_;replace F:=bu.mk F;replace G:=bu.mk G;replace H:=bu.mk H;replace I:=bu.mk I))|(have hd:=ah hc)|skip)|((with_reducible replace h:=dw h);obtain⟨D,h⟩:=h;replace D:=A_ D;(try dsimp only at h)))
  all_goals go_wp2_with ((first
   |((with_reducible refine ax (N:=1) rfl ?_);refine bV #[.slice Z J.length ai,.int .i64 Y,.slice ad O.length ak] 27 fun g1 w1 j1 j2 au=> ?_)
   |((with_reducible refine ax (N:=5) rfl ?_);refine bV #[.int .i64 0,.int .i64 0,.int .i64 0,.int .i64 0] 110 fun g5 w1 j1 j2 au=> ?_)
   |((with_reducible refine ax (N:=6) rfl ?_);refine Kd.cx (Kd.int .i64) _ 3 ?hg (N:=6) ?hd (xs:=([]:List Int)) (inner:=[]) (ok:=fun _=>True) (bB:=fun _=>True) ?hr ?hp (fun _ hk=>hk) trivial (Below.refl _ _) (Nat.le_refl _) (by simp) ?_;(case hd=>rfl);(case hg=>rfl);(case hr=>first|(go_simp;done)|(go_simp;rfl));(case hp=>exact(aI.none _ _));intro v5 a9 ho hb ap ar;obtain⟨aZ,c5,rfl⟩:=Kd.bz ho;have aw:=dT.mk ho;have q5:=aq.mk (iJ aw);have a2:=az.mk hb;clear ap ar ho hb)
   |(go_at_call 70;(try rw[D.out]);replace h:=bI h;obtain⟨t,A,h⟩:=h;(try dsimp only at h);refine(cK.c _ _ _ _ _ _ _ _ _ _ Rd.out aq.out Rd.out aq.out A).mono ?_;rintro e w2 ⟨rfl,hb⟩;have aC:=az.mk hb;clear A hb)
   |(refine qR (id:=8) (ds:=[]) (l:= #[false,false,false,false,false,false,false,false,false,false,false,false,false,false,false,false,false,false]) dR.ju dR.iX ?_;intro u z w3 a7 u0 a1 hHeld;refine qA 0 (some 22) u ?_;refine qA 2 (some 24) u ?_;refine qA 6 (some 28) u ?_;refine qA 8 (some 30) u ?_;refine qA 12 (some 34) u ?_;refine qA 14 (some 36) u ?_;refine qT 1 (some 23) u z hHeld ?_;refine qT 3 (some 25) u z hHeld ?_;refine qA 4 (some 26) u ?_;refine qT 5 (some 27) u z hHeld ?_;refine qT 7 (some 29) u z hHeld ?_;refine qT 9 (some 31) u z hHeld ?_;refine qA 10 (some 32) u ?_;refine qT 11 (some 33) u z hHeld ?_;refine qT 13 (some 35) u z hHeld ?_;refine qT 15 (some 37) u z hHeld ?_;replace h:=bI h;obtain⟨t,A,h⟩:=h;(try dsimp only at h);refine qC 16 38 Tryz.func134 u fun K hK=> ?_;refine(cD.c _ _ _ _ _ _ A).mono ?_;rintro e w2 ⟨rfl,hb⟩;have aC:=az.mk hb;clear A hb;refine⟨_,rfl,hK _ _ From.out fun hHeld=> ?_⟩;clear hK K;refine qN ?_;refine qA 17 (some 39) u ?_;refine qD u ?_)
   |((with_reducible refine dP (b:= .append) (xs:= #[.tmp 40,.tmp 42]) rfl ?_);at_builtin;refine Kd.eF (Kd.int .i64) (w0:=w) w.heap.size rfl (.tmp 40) (.tmp 42) 25 3 (.int .i64 0) 8 rfl Tryz.underlying25 info3 rfl (by decide) (by omega) (.slice aE V.length aN) V X [.int .i64 X] (fun _=>True) (fun _=>False) rfl rfl ?aP (fun _ hk=>hk.elim) ?aF ?aO ?aB ?aS ?aL ?_;(case aP=>exact rfl);(case aO=>exact bl);(case aB=>exact From.out);(case aF=>exact(fun _ _=>trivial));(case aS=>exact(From.out (w0:=w)).size);(case aL=>omega);intro v7 w7 ho hb hg hat;have a5:=grE (bl (w:=w) (d:=(Kd.int .i64))) hg;obtain⟨a0,c7,rfl,aA⟩:=sw ho;have a8:=aq.mk (iJ aA);have a4:From w w7:=⟨hb⟩;have a6:Sz w w7:=⟨hb.size⟩;clear ho hb hg hat));(repeat' first|((with_reducible replace h:=bU h);rcases h with ⟨hc,h⟩|⟨hc,h⟩<;>first|exact(bL h).elim|exact absurd hc (by decide)|subst hc|(replace hc:=bA hc;subst hc)|(replace hc:=dz hc;subst hc)|(replace hc:=dA hc;subst hc)|(have hd:(_==_)=true:=hc)|(have hd:(_==_)=false:=bA hc)|(have hd:=bQ hc;have he:=bR hc;clear hc)|(have hd:=bS hc;have he:=bT hc)|(have hd:=ay hc)|(have hd:=ah hc;(try(have hn:=Int.natCast_pos.mp hc;have hm:=ah hn;replace hn:=av hn));first|(obtain⟨ao,e_,i_⟩:=dy (by assumption) (by first|assumption|decide) hc;cases e_)|(obtain⟨U,e_,c_⟩:=dv (by assumption) (by first|assumption|decide) hc;cases e_)|(obtain⟨U,e_,F,G,H,I⟩:=eV (bn.out (self:=by assumption)) _ (by first|assumption|decide) hc;cases e_;replace F:=bu.mk F;replace G:=bu.mk G;replace H:=bu.mk H;replace I:=bu.mk I))|(have hd:=ah hc)|skip)|((with_reducible replace h:=dw h);obtain⟨D,h⟩:=h;replace D:=A_ D;(try dsimp only at h))))
  all_goals first
   |(go_roundg k1;(case measure=>have:=aK.out;omega);(case rel=>exact⟨_,_,(by first|rfl|(simp;done)),⟨h⟩,⟨by have:=aK.out;omega⟩,⟨by first|exact bl|exact bW rfl|exact bW (by simp)|exact Kd.bj _ _ _ _ _⟩,⟨aU.out⟩,⟨From.out⟩⟩))
   |((try obtain rfl:=aH h);go_ret;exact⟨(.slice _ _ _),rfl,(by first|exact bl|exact bW rfl|exact bW (by simp)|exact Kd.bj _ _ _ _ _|exact bZ|exact dJ (by simp)),From.out⟩)
def e7.f (k:Nat) (z:List (aj)) (G:Int) (F:List Int):Option ((List (aj))×Int×List Int×Bool):=(iM.f z G F).bind fun D=>((dR.f k z G F).bind fun u=>(if(u.length:Int)=0 then(some (D.1,D.2.1,D.2.2,false))else(if 0<(u.length:Int)then(if 0≤(rd u 0)then(if(rd u 0)<(z.length:Int)then(if 0≤((ak z (rd u 0)).f0)then(if((ak z (rd u 0)).f0)<(F.length:Int)then((cD.f k (rd F ((ak z (rd u 0)).f0)) ((ak z (rd u 0)).f2) ((ak z (rd u 0)).f3)).bind fun H=>(if H=0 then(some (D.1,D.2.1,D.2.2,false))else(if 0≤((ak z (rd u 0)).f1)then(if((ak z (rd u 0)).f1)<(D.2.2.length:Int)then(some (D.1,D.2.1,(D.2.2.set (((ak z (rd u 0)).f1):Int).toNat H),true))else(none))else(none))))else(none))else(none))else(none))else(none))else(none))))
def e7.T5:Bool×List (List Nat×List Nat):=(true,[([],[]),([0],[0]),([],[]),([2],[2]),([3],[3]),([1,4],[1,4]),([5],[5]),([],[]),([7,6,0,1,2,3,4,5,6,7],[6,7])])
def e7.B5:List Nat:=[0,1,0,4,12,31,63,0,255]
theorem e7.oW:bo .any (opsOf Tryz.f113 5)=e7.T5:=by kernel_rfl
theorem e7.nY:cp e7.T5.2 e7.B5=true:=by kernel_rfl
def e7.T6:Bool×List (List Nat×List Nat):=(true,[([],[]),([0],[0]),([],[]),([2],[2]),([1,3],[1,3]),([4],[4]),([],[]),([6],[6]),([],[]),([8],[8]),([5,7,9],[5,7,9]),([10,10,0,1,2,3,4,5,6,7,8,9,10],[10])])
def e7.B6:List Nat:=[0,1,0,4,15,31,0,64,0,256,1023,2047]
theorem e7.sO:bo .any (opsOf Tryz.f113 6)=e7.T6:=by kernel_rfl
theorem e7.rA:cp e7.T6.2 e7.B6=true:=by kernel_rfl
theorem e7.c (k:Nat) (I:Option Addr) (U:Nat) (D:List (aj)) (O:Int) (J:Option Addr) (V:Nat) (F:List Int) (r1:List (aj)) (r2:Int) (r3:List Int) (ar:Bool) (w:World) (al:Kd.C aX w I D.length D) (ae:D.length≤U) (am:Kd.C (Kd.int .i64) w J F.length F) (ai:F.length≤V) (h:e7.f k D O F=some (r1,r2,r3,ar)):
  Calls Tryz.prog 113 #[.agg #[.slice I D.length U,.int .i64 O,.slice J F.length V]] w fun e w'=>∃au aw:Value,e= .returned (.tuple #[.agg #[au,.int .i64 r2,aw],.bool ar])∧Kd.R aX 110 w' w.heap.size (fun _=>True) au r1∧Kd.R (Kd.int .i64) 3 w' w.heap.size (fun _=>True) aw r3∧Below w.heap.size w w':=by
 replace al:=bn.mk al;replace ae:=aq.mk ae;replace am:=bn.mk am;replace ai:=aq.mk ai;have aO:=cL.mk (d:=aX) (e:=110) (t:=3) (by decide);have aN:=cL.mk (d:=aX) (e:=110) (t:=27) (by decide);unfold e7.f at h;have aJ:=Tryz.underlying27;have aI:=Tryz.underlying110
 all_goals go_enter Tryz.func113,Tryz.ntmps113
 all_goals go_wp2_with ((first
  |((with_reducible refine ax (N:=1) rfl ?_);refine bV #[.slice I D.length U,.int .i64 O,.slice J F.length V] 27 fun g w1 j1 j2 ao=> ?_)
  |((with_reducible refine ax (N:=2) rfl ?_);refine bV #[.slice none 0 0,.int .i64 0,.slice none 0 0] 27 fun g w1 j1 j2 ao=> ?_)
  |((with_reducible refine ax (N:=4) rfl ?_);refine bV #[.slice none 0 0,.int .i64 0,.slice none 0 0] 27 fun g w1 j1 j2 ao=> ?_)
  |(go_at_call 68;(try rw[H.out]);replace h:=bI h;obtain⟨⟨t1,t2,t3⟩,A,h⟩:=h;(try dsimp only at h);refine(iM.c _ _ _ _ _ _ _ _ _ _ _ Rd.out aq.out Rd.out aq.out A).mono ?_;rintro e w2 ⟨v0,v1,rfl,G,ak,hb⟩;obtain⟨aA,b0,rfl,j0,q0⟩:=aQ G;obtain⟨B1,b1,rfl,j1,q1⟩:=aQ ak;have ap:=az.mk hb;clear A G ak hb)
  |(go_at_call 112;(try rw[H.out]);replace h:=bI h;obtain⟨t,A,h⟩:=h;(try dsimp only at h);refine(dR.c _ _ _ _ _ _ _ _ _ _ Rd.out aq.out Rd.out aq.out A).mono ?_;rintro e w2 ⟨v0,rfl,G,hb⟩;obtain⟨aA,b0,rfl,j0,q0⟩:=aQ G;have ap:=az.mk hb;clear A G hb)
  |(refine qR (id:=5) (ds:=[]) (l:= #[false,false,false,false,false,false,false,false,false]) e7.oW e7.nY ?_;intro u z w3 aE u0 aC hHeld;refine qA 0 (some 16) u ?_;refine qA 2 (some 18) u ?_;refine qA 3 (some 19) u ?_;refine qT 1 (some 17) u z hHeld ?_;refine qT 4 (some 20) u z hHeld ?_;refine qA 5 (some 21) u ?_;refine qT 6 (some 22) u z hHeld ?_;refine qB 7 6 #[.int .i64 0,.int .i64 0,.int .i64 0,.int .i64 0] 110 u hHeld fun gx aK wx aL aM hHeld=> ?_;refine qS 8 u fun hHeld=> ?_;refine qD u ?_)
  |(refine qR (id:=6) (ds:=[]) (l:= #[false,false,false,false,false,false,false,false,false,false,false,false]) e7.sO e7.rA ?_;intro u z w3 aE u0 aC hHeld;refine qA 0 (some 23) u ?_;refine qA 2 (some 25) u ?_;refine qA 6 (some 29) u ?_;refine qA 8 (some 31) u ?_;refine qT 1 (some 24) u z hHeld ?_;refine qT 3 (some 26) u z hHeld ?_;refine qA 4 (some 27) u ?_;refine qT 5 (some 28) u z hHeld ?_;refine qT 7 (some 30) u z hHeld ?_;refine qT 9 (some 32) u z hHeld ?_;replace h:=bI h;obtain⟨t,A,h⟩:=h;(try dsimp only at h);refine qC 10 33 Tryz.func134 u fun K hK=> ?_;refine(cD.c _ _ _ _ _ _ A).mono ?_;rintro e w2 ⟨rfl,hb⟩;have ap:=az.mk hb;clear A hb;refine⟨_,rfl,hK _ _ From.out fun hHeld=> ?_⟩;clear hK K;refine qN ?_;refine qA 11 (some 7) u ?_;refine qD u ?_));(repeat' first|((with_reducible replace h:=bU h);rcases h with ⟨hc,h⟩|⟨hc,h⟩<;>first|exact(bL h).elim|exact absurd hc (by decide)|subst hc|(replace hc:=bA hc;subst hc)|(replace hc:=dz hc;subst hc)|(replace hc:=dA hc;subst hc)|(have hd:(_==_)=true:=hc)|(have hd:(_==_)=false:=bA hc)|(have hd:=bQ hc;have he:=bR hc;clear hc)|(have hd:=bS hc;have he:=bT hc)|(have hd:=ay hc)|(have hd:=ah hc;(try(have hn:=Int.natCast_pos.mp hc;have hm:=ah hn;replace hn:=av hn));first|(obtain⟨aF,e_,i_⟩:=dy (by assumption) (by first|assumption|decide) hc;cases e_)|(obtain⟨aB,e_,c_⟩:=dv (by assumption) (by first|assumption|decide) hc;cases e_)|(obtain⟨aB,e_,X,Y,Z,ad⟩:=eV (bn.out (self:=by assumption)) _ (by first|assumption|decide) hc;cases e_;replace X:=bu.mk X;replace Y:=bu.mk Y;replace Z:=bu.mk Z;replace ad:=bu.mk ad))|(have hd:=ah hc)|skip)|((with_reducible replace h:=dw h);obtain⟨H,h⟩:=h;replace H:=A_ H;(try dsimp only at h)));all_goals(try have hn:decide (0<t.length)=true:=ah (by omega));all_goals(try have hn:decide (0<t.length)=false:=ay (by omega)))
 all_goals simp only[Option.some.injEq,Prod.mk.injEq]at h
 all_goals obtain⟨rfl,rfl,rfl,rfl⟩:=h
 all_goals refine bodyPost_ret (di rfl _ _ _ _ _ (0,0) _ rfl aU.out Tryz.underlying27 rfl (by kernel_rfl)) rfl ?_
 all_goals exact⟨_,_,rfl,(by first|exact bl|exact Kd.bj _ _ _ _ _|exact bZ|exact dJ (by simp)),(by first|exact bl|exact Kd.bj _ _ _ _ _|exact bZ|exact dJ (by simp)),From.out⟩
def fh.j0:Nat→Bool→List (aj)→Int→List Int→List (aj)→Int→List Int→Option ((List (aj))×Int×List Int×Bool)
 |0,_,_,_,_,_,_,_=>none
 |k+1,J,z,u,H,F,I,D=>if J=true then(some (F,I,D,false))else(if 0≤u then(if u<(z.length:Int)then(if 0≤((ak z u).f0)then(if((ak z u).f0)<(H.length:Int)then((cD.f k (rd H ((ak z u).f0)) ((ak z u).f2) ((ak z u).f3)).bind fun G=>(if G=0 then(some (F,I,D,false))else(if 0≤((ak z u).f1)then(if((ak z u).f1)<(D.length:Int)then(some (F,wrap64 (u+1),(D.set (((ak z u).f1):Int).toNat G),true))else(none))else(none))))else(none))else(none))else(none))else(none))
def fh.f (k:Nat) (D:List (aj)) (z:Int) (F:List Int):Option ((List (aj))×Int×List Int×Bool):=(iM.f D z F).bind fun u=>((cK.f k D z F).bind fun G=>(if G=true then(fh.j0 k (z==(D.length:Int)) D z F u.1 u.2.1 u.2.2)else(fh.j0 k true D z F u.1 u.2.1 u.2.2)))
def fh.T5:Bool×List (List Nat×List Nat):=(true,[([],[]),([0],[0]),([],[]),([2],[2]),([1,3],[1,3]),([4],[4]),([],[]),([6],[6]),([],[]),([8],[8]),([5,7,9],[5,7,9]),([10,10,0,1,2,3,4,5,6,7,8,9,10],[10])])
def fh.B5:List Nat:=[0,1,0,4,15,31,0,64,0,256,1023,2047]
theorem fh.oW:bo .any (opsOf Tryz.f114 5)=fh.T5:=by kernel_rfl
theorem fh.nY:cp fh.T5.2 fh.B5=true:=by kernel_rfl
theorem fh.c (k:Nat) (H:Option Addr) (O:Nat) (z:List (aj)) (J:Int) (I:Option Addr) (U:Nat) (D:List Int) (r1:List (aj)) (r2:Int) (r3:List Int) (ar:Bool) (w:World) (am:Kd.C aX w H z.length z) (ae:z.length≤O) (ao:Kd.C (Kd.int .i64) w I D.length D) (ai:D.length≤U) (h:fh.f k z J D=some (r1,r2,r3,ar)):
  Calls Tryz.prog 114 #[.agg #[.slice H z.length O,.int .i64 J,.slice I D.length U]] w fun e w'=>∃au aw:Value,e= .returned (.tuple #[.agg #[au,.int .i64 r2,aw],.bool ar])∧Kd.R aX 110 w' w.heap.size (fun _=>True) au r1∧Kd.R (Kd.int .i64) 3 w' w.heap.size (fun _=>True) aw r3∧Below w.heap.size w w':=by
 replace am:=bn.mk am;replace ae:=aq.mk ae;replace ao:=bn.mk ao;replace ai:=aq.mk ai;have aL:=cL.mk (d:=aX) (e:=110) (t:=3) (by decide);have aK:=cL.mk (d:=aX) (e:=110) (t:=27) (by decide);unfold fh.f at h;have aF:=Tryz.underlying27;have aE:=Tryz.underlying110
 all_goals go_enter Tryz.func114,Tryz.ntmps114
 all_goals go_wp2_with ((first
  |((with_reducible refine ax (N:=1) rfl ?_);refine bV #[.slice H z.length O,.int .i64 J,.slice I D.length U] 27 fun g w1 j1 j2 V=> ?_)
  |((with_reducible refine ax (N:=2) rfl ?_);refine bV #[.slice none 0 0,.int .i64 0,.slice none 0 0] 27 fun g w1 j1 j2 V=> ?_)
  |((with_reducible refine ax (N:=4) rfl ?_);refine bV #[.slice none 0 0,.int .i64 0,.slice none 0 0] 27 fun g w1 j1 j2 V=> ?_)
  |((with_reducible refine ax (N:=5) rfl ?_);refine bV #[.int .i64 0,.int .i64 0,.int .i64 0,.int .i64 0] 110 fun g w1 j1 j2 V=> ?_)
  |(go_at_call 68;(try rw[G.out]);replace h:=bI h;obtain⟨⟨t1,t2,t3⟩,A,h⟩:=h;(try dsimp only at h);refine(iM.c _ _ _ _ _ _ _ _ _ _ _ Rd.out aq.out Rd.out aq.out A).mono ?_;rintro e w2 ⟨v0,v1,rfl,ak,al,hb⟩;obtain⟨aB,b0,rfl,j0,q0⟩:=aQ ak;obtain⟨B1,b1,rfl,j1,q1⟩:=aQ al;have ap:=az.mk hb;clear A ak al hb)
  |(go_at_call 70;(try rw[G.out]);replace h:=bI h;obtain⟨t,A,h⟩:=h;(try dsimp only at h);refine(cK.c _ _ _ _ _ _ _ _ _ _ Rd.out aq.out Rd.out aq.out A).mono ?_;rintro e w2 ⟨rfl,hb⟩;have ap:=az.mk hb;clear A hb)
  |(refine qR (id:=5) (ds:=[]) (l:= #[false,false,false,false,false,false,false,false,false,false,false,false]) fh.oW fh.nY ?_;intro u F w3 aJ u0 aI hHeld;refine qA 0 (some 27) u ?_;refine qA 2 (some 29) u ?_;refine qA 6 (some 33) u ?_;refine qA 8 (some 35) u ?_;refine qT 1 (some 28) u F hHeld ?_;refine qT 3 (some 30) u F hHeld ?_;refine qA 4 (some 31) u ?_;refine qT 5 (some 32) u F hHeld ?_;refine qT 7 (some 34) u F hHeld ?_;refine qT 9 (some 36) u F hHeld ?_;replace h:=bI h;obtain⟨t,A,h⟩:=h;(try dsimp only at h);refine qC 10 37 Tryz.func134 u fun K hK=> ?_;refine(cD.c _ _ _ _ _ _ A).mono ?_;rintro e w2 ⟨rfl,hb⟩;have ap:=az.mk hb;clear A hb;refine⟨_,rfl,hK _ _ From.out fun hHeld=> ?_⟩;clear hK K;refine qN ?_;refine qA 11 (some 6) u ?_;refine qD u ?_));(repeat' first|((with_reducible replace h:=bU h);rcases h with ⟨hc,h⟩|⟨hc,h⟩<;>first|exact(bL h).elim|exact absurd hc (by decide)|subst hc|(replace hc:=bA hc;subst hc)|(replace hc:=dz hc;subst hc)|(replace hc:=dA hc;subst hc)|(have hd:(_==_)=true:=hc)|(have hd:(_==_)=false:=bA hc)|(have hd:=bQ hc;have he:=bR hc;clear hc)|(have hd:=bS hc;have he:=bT hc)|(have hd:=ay hc)|(have hd:=ah hc;(try(have hn:=Int.natCast_pos.mp hc;have hm:=ah hn;replace hn:=av hn));first|(obtain⟨aC,e_,i_⟩:=dy (by assumption) (by first|assumption|decide) hc;cases e_)|(obtain⟨aA,e_,c_⟩:=dv (by assumption) (by first|assumption|decide) hc;cases e_)|(obtain⟨aA,e_,X,Y,Z,ad⟩:=eV (bn.out (self:=by assumption)) _ (by first|assumption|decide) hc;cases e_;replace X:=bu.mk X;replace Y:=bu.mk Y;replace Z:=bu.mk Z;replace ad:=bu.mk ad))|(have hd:=ah hc)|skip)|((with_reducible have hj:fh.j0 k _ _ _ _ _ _ _=_:=h);clear hj;rcases k with _|k<;>rw[fh.j0]at h<;>first|exact(bL h).elim|skip)|((with_reducible replace h:=dw h);obtain⟨G,h⟩:=h;replace G:=A_ G;(try dsimp only at h))))
 all_goals simp only[Option.some.injEq,Prod.mk.injEq]at h
 all_goals obtain⟨rfl,rfl,rfl,rfl⟩:=h
 all_goals refine bodyPost_ret (di rfl _ _ _ _ _ (0,0) _ rfl aU.out Tryz.underlying27 rfl (by kernel_rfl)) rfl ?_
 all_goals exact⟨_,_,rfl,(by first|exact bl|exact Kd.bj _ _ _ _ _|exact bZ|exact dJ (by simp)),(by first|exact bl|exact Kd.bj _ _ _ _ _|exact bZ|exact dJ (by simp)),From.out⟩
def eT.j0:Nat→Int→Int→Bool→List (aj)→Int→List Int→List (aj)→Int→List Int→Option ((List (aj))×Int×List Int×Bool)
 |0,_,_,_,_,_,_,_,_,_=>none
 |k+1,x1,x2,I,J,K,O,D,F,u=>if I=true then(some (D,F,u,false))else(if 0≤x1 then(if x1<(u.length:Int)then((some (u.set (x1:Int).toNat (wrap64 ((rd u x1)+x2)):List Int)).bind fun G=>((cK.f k D F G).bind fun H=>(if H=true then(some (D,F,G,true))else((iM.f J K O).bind fun z=>(some (z.1,z.2.1,z.2.2,false))))))else(none))else(none))
def eT.f (k:Nat) (F:List (aj)) (D:Int) (z:List Int) (a1:Int) (a2:Int):Option ((List (aj))×Int×List Int×Bool):=(iM.f F D z).bind fun u=>((cK.f k F D z).bind fun G=>(if G=true then((cu.f a1 0 11).bind fun H=>(if H=true then((cu.f a2 (-100000) 100000).bind fun I=>(if I=true then(if 0≤a1 then(if a1<(z.length:Int)then(eT.j0 k a1 a2 ((rd z a1)==0) F D z u.1 u.2.1 u.2.2)else(none))else(none))else(eT.j0 k a1 a2 true F D z u.1 u.2.1 u.2.2)))else(eT.j0 k a1 a2 true F D z u.1 u.2.1 u.2.2)))else(eT.j0 k a1 a2 true F D z u.1 u.2.1 u.2.2)))
def eT.T4:Bool×List (List Nat×List Nat):=(true,[([],[]),([0],[0]),([],[]),([],[]),([3],[3]),([],[]),([4,5],[4,5]),([6],[6]),([],[]),([7,8],[7,8]),([1,2,0,1,2,3,4,5,6,7,8,9],[1,2]),([10,9,0,1,2,3,4,5,6,7,8,9],[9,10])])
def eT.B4:List Nat:=[0,1,0,0,8,0,56,120,0,504,1023,2047]
theorem eT.mP:bo .any (opsOf Tryz.f116 4)=eT.T4:=by kernel_rfl
theorem eT.l9:cp eT.T4.2 eT.B4=true:=by kernel_rfl
theorem eT.c (k:Nat) (G:Option Addr) (K:Nat) (z:List (aj)) (J:Int) (H:Option Addr) (O:Nat) (D:List Int) (a1:Int) (a2:Int) (r1:List (aj)) (r2:Int) (r3:List Int) (ai:Bool) (w:World) (Z:Kd.C aX w G z.length z) (U:z.length≤K) (ad:Kd.C (Kd.int .i64) w H D.length D) (V:D.length≤O) (h:eT.f k z J D a1 a2=some (r1,r2,r3,ai)):
  Calls Tryz.prog 116 #[.agg #[.slice G z.length K,.int .i64 J,.slice H D.length O],.int .i64 a1,.int .i64 a2] w fun e w'=>∃ak al:Value,e= .returned (.tuple #[.agg #[ak,.int .i64 r2,al],.bool ai])∧Kd.R aX 110 w' w.heap.size (fun _=>True) ak r1∧Kd.R (Kd.int .i64) 3 w' w.heap.size (fun _=>True) al r3∧Below w.heap.size w w':=by
 replace Z:=bn.mk Z;replace U:=aq.mk U;replace ad:=bn.mk ad;replace V:=aq.mk V;have aC:=cL.mk (d:=aX) (e:=110) (t:=3) (by decide);have aB:=cL.mk (d:=aX) (e:=110) (t:=27) (by decide);unfold eT.f at h;have au:=Tryz.underlying27
 all_goals go_enter Tryz.func116,Tryz.ntmps116
 all_goals go_wp2_with ((first
  |((with_reducible refine ax (N:=3) rfl ?_);refine bV #[.slice G z.length K,.int .i64 J,.slice H D.length O] 27 fun g w1 j1 j2 ae=> ?_)
  |((with_reducible refine ax (N:=6) rfl ?_);refine bV #[.slice none 0 0,.int .i64 0,.slice none 0 0] 27 fun g w1 j1 j2 ae=> ?_)
  |((with_reducible refine ax (N:=8) rfl ?_);refine bV #[.slice none 0 0,.int .i64 0,.slice none 0 0] 27 fun g w1 j1 j2 ae=> ?_)
  |(go_at_call 68;(try rw[F.out]);replace h:=bI h;obtain⟨⟨t1,t2,t3⟩,A,h⟩:=h;(try dsimp only at h);refine(iM.c _ _ _ _ _ _ _ _ _ _ _ Rd.out aq.out Rd.out aq.out A).mono ?_;rintro e w2 ⟨v0,v1,rfl,X,Y,hb⟩;obtain⟨ao,b0,rfl,j0,q0⟩:=aQ X;obtain⟨B1,b1,rfl,j1,q1⟩:=aQ Y;have am:=az.mk hb;clear A X Y hb)
  |(go_at_call 70;(try rw[F.out]);replace h:=bI h;obtain⟨t,A,h⟩:=h;(try dsimp only at h);refine(cK.c _ _ _ _ _ _ _ _ _ _ Rd.out aq.out Rd.out aq.out A).mono ?_;rintro e w2 ⟨rfl,hb⟩;have am:=az.mk hb;clear A hb)
  |(go_at_call 72;(try rw[F.out]);replace h:=bI h;obtain⟨t,A,h⟩:=h;(try dsimp only at h);refine(cu.c _ _ _ _ _ A).mono ?_;rintro e w2 ⟨rfl,n,rfl⟩;clear A)
  |(refine qR (id:=4) (ds:=[11]) (l:= #[false,false,false,false,false,false,false,false,false,false,false,false]) eT.mP eT.l9 ?_;intro u I w3 aA u0 aw hHeld;refine qA 0 (some 33) u ?_;refine qA 2 (some 35) u ?_;refine qA 3 (some 36) u ?_;refine qA 5 (some 38) u ?_;refine qA 8 (some 41) u ?_;refine qT 1 (some 34) u I hHeld ?_;refine qT 4 (some 37) u I hHeld ?_;refine qA 6 (some 39) u ?_;refine qT 7 (some 40) u I hHeld ?_;refine qA 9 (some 42) u ?_;refine qA 10 (some 43) u ?_;refine qL 11 u ?_;refine qD u ?_));(repeat' first|((with_reducible replace h:=bU h);rcases h with ⟨hc,h⟩|⟨hc,h⟩<;>first|exact(bL h).elim|exact absurd hc (by decide)|subst hc|(replace hc:=bA hc;subst hc)|(replace hc:=dz hc;subst hc)|(replace hc:=dA hc;subst hc)|(have hd:(_==_)=true:=hc)|(have hd:(_==_)=false:=bA hc)|(have hd:=bQ hc;have he:=bR hc;clear hc)|(have hd:=bS hc;have he:=bT hc)|(have hd:=ay hc)|(have hd:=ah hc;(try(have hn:=Int.natCast_pos.mp hc;have hm:=ah hn;replace hn:=av hn));first|(obtain⟨ar,e_,i_⟩:=dy (by assumption) (by first|assumption|decide) hc;cases e_)|(obtain⟨ap,e_,c_⟩:=dv (by assumption) (by first|assumption|decide) hc;cases e_))|(have hd:=ah hc)|skip)|((with_reducible have hj:eT.j0 k _ _ _ _ _ _ _ _ _=_:=h);clear hj;rcases k with _|k<;>rw[eT.j0]at h<;>first|exact(bL h).elim|skip)|((with_reducible replace h:=dw h);obtain⟨F,h⟩:=h;replace F:=A_ F;(try dsimp only at h))))
 all_goals simp only[Option.some.injEq,Prod.mk.injEq]at h
 all_goals obtain⟨rfl,rfl,rfl,rfl⟩:=h
 all_goals refine bodyPost_ret (di rfl _ _ _ _ _ (0,0) _ rfl aU.out Tryz.underlying27 rfl (by kernel_rfl)) rfl ?_
 all_goals exact⟨_,_,rfl,(by first|exact bl|exact Kd.bj _ _ _ _ _|exact bZ|exact dJ (by simp)),(by first|exact bl|exact Kd.bj _ _ _ _ _|exact bZ|exact dJ (by simp)),From.out⟩
def fL.j0:Nat→Int→Bool→Int→Int→Int→Int→Option (Bool)
 |0,_,_,_,_,_,_=>none
 |k+1,F,V,X,u,z,D=>if V=true then(if u=0 then(if z=0 then(some (D==0))else(some false))else(some false))else(if F=2 then((cu.f u (-10) 40).bind fun G=>(if G=true then(if z=0 then(some (D==0))else(some false))else(some false)))else(if F=3 then((cu.f u 0 3).bind fun H=>(if H=true then((cu.f z 0 39).bind fun I=>(if I=true then((cu.f D 0 2).bind fun J=>(some J))else(some false)))else(some false)))else(if F=4 then((cu.f u 0 11).bind fun K=>(if K=true then((cu.f z (-100000) 100000).bind fun O=>(if O=true then(some (D==0))else(some false)))else(some false)))else(if F=7 then((cu.f u 0 11).bind fun U=>(if U=true then(if z=0 then(some (D==0))else(some false))else(some false)))else(some false)))))
def fL.f (k:Nat) (u:Int) (z:Int) (D:Int) (F:Int):Option (Bool):=if u=1 then(fL.j0 k u (u==1) u z D F)else(if u=5 then(fL.j0 k u (u==5) u z D F)else(fL.j0 k u (u==6) u z D F))
theorem fL.c (k:Nat) (z:Int) (D:Int) (F:Int) (G:Int) (r:Bool) (w:World) (h:fL.f k z D F G=some r):
  Calls Tryz.prog 73 #[.agg #[.int .i64 z,.int .i64 D,.int .i64 F,.int .i64 G]] w fun e w'=>e= .returned (.bool r)∧Below w.heap.size w w':=by
 unfold fL.f at h;have J:=Tryz.underlying57
 (repeat' first|((with_reducible replace h:=bU h);rcases h with ⟨hc,h⟩|⟨hc,h⟩<;>first|exact(bL h).elim|exact absurd hc (by decide)|subst hc|(replace hc:=bA hc;subst hc)|(replace hc:=dz hc;subst hc)|(replace hc:=dA hc;subst hc)|(have hd:(_==_)=true:=hc)|(have hd:(_==_)=false:=bA hc)|(have hd:=bQ hc;have he:=bR hc;clear hc)|(have hd:=bS hc;have he:=bT hc)|(have hd:=ay hc)|(have hd:=ah hc;(try(have hn:=Int.natCast_pos.mp hc;have hm:=ah hn;replace hn:=av hn));first|(obtain⟨I,e_,i_⟩:=dy (by assumption) (by first|assumption|decide) hc;cases e_)|(obtain⟨H,e_,c_⟩:=dv (by assumption) (by first|assumption|decide) hc;cases e_))|(have hd:=ah hc)|skip)|((with_reducible have hj:fL.j0 k _ _ _ _ _ _=_:=h);clear hj;rcases k with _|k<;>rw[fL.j0]at h<;>first|exact(bL h).elim|skip)|((with_reducible replace h:=dw h);obtain⟨u,h⟩:=h;replace u:=A_ u;(try dsimp only at h)))
 all_goals go_enter Tryz.func73,Tryz.ntmps73
 all_goals go_wp2_with ((first
  |((with_reducible refine ax (N:=1) rfl ?_);refine bV #[.int .i64 z,.int .i64 D,.int .i64 F,.int .i64 G] 57 fun g w1 j1 j2 K=> ?_)
  |(go_at_call 72;(try rw[u.out]);replace h:=bI h;obtain⟨t,A,h⟩:=h;(try dsimp only at h);refine(cu.c _ _ _ _ _ A).mono ?_;rintro e w2 ⟨rfl,n,rfl⟩;clear A));(repeat' first|((with_reducible replace h:=bU h);rcases h with ⟨hc,h⟩|⟨hc,h⟩<;>first|exact(bL h).elim|exact absurd hc (by decide)|subst hc|(replace hc:=bA hc;subst hc)|(replace hc:=dz hc;subst hc)|(replace hc:=dA hc;subst hc)|(have hd:(_==_)=true:=hc)|(have hd:(_==_)=false:=bA hc)|(have hd:=bQ hc;have he:=bR hc;clear hc)|(have hd:=bS hc;have he:=bT hc)|(have hd:=ay hc)|(have hd:=ah hc;(try(have hn:=Int.natCast_pos.mp hc;have hm:=ah hn;replace hn:=av hn));first|(obtain⟨I,e_,i_⟩:=dy (by assumption) (by first|assumption|decide) hc;cases e_)|(obtain⟨H,e_,c_⟩:=dv (by assumption) (by first|assumption|decide) hc;cases e_))|(have hd:=ah hc)|skip)|((with_reducible have hj:fL.j0 k _ _ _ _ _ _=_:=h);clear hj;rcases k with _|k<;>rw[fL.j0]at h<;>first|exact(bL h).elim|skip)|((with_reducible replace h:=dw h);obtain⟨u,h⟩:=h;replace u:=A_ u;(try dsimp only at h))))
 all_goals obtain rfl:=aH h
 all_goals go_ret
 all_goals exact⟨(by first|rfl|(simp_all;done)),From.out⟩
end P
namespace P
set_option maxHeartbeats 8000000
set_option maxRecDepth 100000
set_option synthInstance.maxHeartbeats 400000
set_option synthInstance.maxSize 100000
open Go.RowKit WW.bq WW.cg WW.cd V
attribute [local go_sem] dN dO
attribute [local go_sem] cN cR cQ cU cP cT cO cS
def mi.f (k:Nat) (a0:Int) (l1:List (aj)):Option ((List (aj))×Int×List Int×Int×Int×(List (S64))×Bool):=(gT.f k a0 l1).bind fun u=>(if u.2.2.2=true then(some (u.1,u.2.1,u.2.2.1,15,0,([]:List (S64)),true))else(some (([]:List (aj)),0,([]:List Int),0,0,([]:List (S64)),false)))
theorem mi.c (k:Nat) (a0:Int) (A1:Option Addr) (c1:Nat) (l1:List (aj)) (r1:List (aj)) (r2:Int) (r3:List Int) (D:Int) (F:Int) (G:List (S64)) (H:Bool) (w:World) (hr1:Kd.C aX w A1 l1.length l1) (hc1:l1.length≤c1) (h:mi.f k a0 l1=some (r1,r2,r3,D,F,G,H)):
  Calls Tryz.prog 42 #[.int .i64 a0,.slice A1 l1.length c1] w fun e w'=>∃I J K:Value,e= .returned (.tuple #[.agg #[I,.int .i64 r2,J,.int .i64 D,.int .i64 F,K],.bool H])∧Kd.R aX 110 w' w.heap.size (fun _=>True) I r1∧Kd.R (Kd.int .i64) 3 w' w.heap.size (fun _=>True) J r3∧Kd.R aW 64 w' w.heap.size (fun _=>True) K G∧Below w.heap.size w w':=by
 replace hr1:=bn.mk hr1;replace hc1:=aq.mk hc1;unfold mi.f at h;have V:=Tryz.underlying27;have X:=Tryz.underlying30
 all_goals go_enter Tryz.func42,Tryz.ntmps42
 all_goals go_wp2_with ((first
  |((with_reducible refine ax (N:=4) rfl ?_);refine bV #[.slice none 0 0,.int .i64 0,.slice none 0 0,.int .i64 0,.int .i64 0,.slice none 0 0] 30 fun g w1 j1 j2 O=> ?_)
  |((with_reducible refine ax (N:=6) rfl ?_);refine bV #[.slice none 0 0,.int .i64 0,.slice none 0 0] 27 fun g w1 j1 j2 O=> ?_)
  |(go_at_call 87;replace h:=bI h;obtain⟨⟨t1,t2,t3,t4⟩,A,h⟩:=h;(try dsimp only at h);refine(gT.c _ _ _ _ _ _ _ _ _ _ Rd.out aq.out A).mono ?_;rintro e w2 ⟨v0,v1,rfl,u,z,hb⟩;obtain⟨U,b0,rfl,j0,q0⟩:=aQ u;obtain⟨B1,b1,rfl,j1,q1⟩:=aQ z;have Y:=az.mk hb;clear A u z hb));(repeat' first|((with_reducible replace h:=bU h);rcases h with ⟨hc,h⟩|⟨hc,h⟩<;>first|exact(bL h).elim|exact absurd hc (by decide)|subst hc|(replace hc:=bA hc;subst hc)|(have hd:=bQ hc;have he:=bR hc;clear hc)|(have hd:=bS hc;have he:=bT hc)|(have hd:=ay hc)|(have hd:=ah hc)|skip)))
 all_goals simp only[Option.some.injEq,Prod.mk.injEq]at h
 all_goals obtain⟨rfl,rfl,rfl,rfl,rfl,rfl,rfl⟩:=h
 all_goals refine bodyPost_ret (di rfl _ _ _ _ _ (0,0) _ rfl aU.out Tryz.underlying30 rfl (by kernel_rfl)) rfl ?_
 all_goals exact⟨_,_,_,rfl,(by first|exact bl|exact Kd.bj _ _ _ _ _),(by first|exact bl|exact Kd.bj _ _ _ _ _),(by first|exact bl|exact Kd.bj _ _ _ _ _),From.out⟩
def ml.f (k:Nat):Option ((List (aj))×Int×List Int×Int×Int×(List (S64))):=(eA.f k 700).bind fun z=>((mi.f k 264000 z).bind fun u=>(some (u.1,u.2.1,u.2.2.1,u.2.2.2.1,u.2.2.2.2.1,u.2.2.2.2.2.1)))
theorem ml.c (k:Nat)  (r1:List (aj)) (r2:Int) (r3:List Int) (F:Int) (G:Int) (H:List (S64)) (w:World) (h:ml.f k=some (r1,r2,r3,F,G,H)):
  Calls Tryz.prog 17 #[] w fun e w'=>∃I J K:Value,e= .returned (.agg #[I,.int .i64 r2,J,.int .i64 F,.int .i64 G,K])∧Kd.R aX 110 w' w.heap.size (fun _=>True) I r1∧Kd.R (Kd.int .i64) 3 w' w.heap.size (fun _=>True) J r3∧Kd.R aW 64 w' w.heap.size (fun _=>True) K H∧Below w.heap.size w w':=by
 unfold ml.f at h;have X:=Tryz.underlying30
 all_goals go_enter Tryz.func17,Tryz.ntmps17
 all_goals go_wp2_with ((first
  |((with_reducible refine ax (N:=0) rfl ?_);refine bV #[.slice none 0 0,.int .i64 0,.slice none 0 0,.int .i64 0,.int .i64 0,.slice none 0 0] 30 fun g w1 j1 j2 U=> ?_)
  |((with_reducible refine ax (N:=1) rfl ?_);refine bV #[.slice none 0 0,.int .i64 0,.slice none 0 0,.int .i64 0,.int .i64 0,.slice none 0 0] 30 fun g w1 j1 j2 U=> ?_)
  |(go_at_call 43;replace h:=bI h;obtain⟨t,A,h⟩:=h;(try dsimp only at h);refine(eA.c _ _ _ _ A).mono ?_;rintro e w2 ⟨v0,rfl,u,hb⟩;obtain⟨O,b0,rfl,j0,q0⟩:=aQ u;have V:=az.mk hb;clear A u hb)
  |(go_at_call 42;replace h:=bI h;obtain⟨⟨t1,t2,t3,t4,t5,t6,t7⟩,A,h⟩:=h;(try dsimp only at h);refine(mi.c _ _ _ _ _ _ _ _ _ _ _ _ _ Rd.out aq.out A).mono ?_;rintro e w2 ⟨v0,v1,v2,rfl,u,z,D,hb⟩;obtain⟨O,b0,rfl,j0,q0⟩:=aQ u;obtain⟨B1,b1,rfl,j1,q1⟩:=aQ z;obtain⟨B2,b2,rfl,j2,q2⟩:=aQ D;have V:=az.mk hb;clear A u z D hb));(repeat' first|((with_reducible replace h:=bU h);rcases h with ⟨hc,h⟩|⟨hc,h⟩<;>first|exact(bL h).elim|exact absurd hc (by decide)|subst hc|(replace hc:=bA hc;subst hc)|(have hd:=bQ hc;have he:=bR hc;clear hc)|(have hd:=bS hc;have he:=bT hc)|(have hd:=ay hc)|(have hd:=ah hc)|skip));all_goals(try have hn:decide (0<t.length)=true:=ah (by omega));all_goals(try have hn:decide (0<t.length)=false:=ay (by omega)))
 all_goals simp only[Option.some.injEq,Prod.mk.injEq]at h
 all_goals obtain⟨rfl,rfl,rfl,rfl,rfl,rfl⟩:=h
 all_goals refine bodyPost_ret (results_cell_row rfl _ _ _ _ _ (0,0) _ rfl aU.out Tryz.underlying30 rfl (by kernel_rfl)) rfl ?_
 all_goals exact⟨_,_,_,rfl,(by first|exact bl|exact Kd.bj _ _ _ _ _),(by first|exact bl|exact Kd.bj _ _ _ _ _),(by first|exact bl|exact Kd.bj _ _ _ _ _),From.out⟩
def mG.f (k:Nat) (a0:Int) (l1:List (aj)):Option ((List (aj))×Int×List Int×Int×Int×(List (S64))×Bool):=(ib.f k a0 l1).bind fun u=>(if u.2.2.2=true then(some (u.1,u.2.1,u.2.2.1,15,0,([]:List (S64)),true))else(some (([]:List (aj)),0,([]:List Int),0,0,([]:List (S64)),false)))
theorem mG.c (k:Nat) (a0:Int) (A1:Option Addr) (c1:Nat) (l1:List (aj)) (r1:List (aj)) (r2:Int) (r3:List Int) (D:Int) (F:Int) (G:List (S64)) (H:Bool) (w:World) (hr1:Kd.C aX w A1 l1.length l1) (hc1:l1.length≤c1) (h:mG.f k a0 l1=some (r1,r2,r3,D,F,G,H)):
  Calls Tryz.prog 91 #[.int .i64 a0,.slice A1 l1.length c1] w fun e w'=>∃I J K:Value,e= .returned (.tuple #[.agg #[I,.int .i64 r2,J,.int .i64 D,.int .i64 F,K],.bool H])∧Kd.R aX 110 w' w.heap.size (fun _=>True) I r1∧Kd.R (Kd.int .i64) 3 w' w.heap.size (fun _=>True) J r3∧Kd.R aW 64 w' w.heap.size (fun _=>True) K G∧Below w.heap.size w w':=by
 replace hr1:=bn.mk hr1;replace hc1:=aq.mk hc1;unfold mG.f at h;have V:=Tryz.underlying27;have X:=Tryz.underlying30
 all_goals go_enter Tryz.func91,Tryz.ntmps91
 all_goals go_wp2_with ((first
  |((with_reducible refine ax (N:=4) rfl ?_);refine bV #[.slice none 0 0,.int .i64 0,.slice none 0 0,.int .i64 0,.int .i64 0,.slice none 0 0] 30 fun g w1 j1 j2 O=> ?_)
  |((with_reducible refine ax (N:=6) rfl ?_);refine bV #[.slice none 0 0,.int .i64 0,.slice none 0 0] 27 fun g w1 j1 j2 O=> ?_)
  |(go_at_call 130;replace h:=bI h;obtain⟨⟨t1,t2,t3,t4⟩,A,h⟩:=h;(try dsimp only at h);refine(ib.c _ _ _ _ _ _ _ _ _ _ Rd.out aq.out A).mono ?_;rintro e w2 ⟨v0,v1,rfl,u,z,hb⟩;obtain⟨U,b0,rfl,j0,q0⟩:=aQ u;obtain⟨B1,b1,rfl,j1,q1⟩:=aQ z;have Y:=az.mk hb;clear A u z hb));(repeat' first|((with_reducible replace h:=bU h);rcases h with ⟨hc,h⟩|⟨hc,h⟩<;>first|exact(bL h).elim|exact absurd hc (by decide)|subst hc|(replace hc:=bA hc;subst hc)|(have hd:=bQ hc;have he:=bR hc;clear hc)|(have hd:=bS hc;have he:=bT hc)|(have hd:=ay hc)|(have hd:=ah hc)|skip)))
 all_goals simp only[Option.some.injEq,Prod.mk.injEq]at h
 all_goals obtain⟨rfl,rfl,rfl,rfl,rfl,rfl,rfl⟩:=h
 all_goals refine bodyPost_ret (di rfl _ _ _ _ _ (0,0) _ rfl aU.out Tryz.underlying30 rfl (by kernel_rfl)) rfl ?_
 all_goals exact⟨_,_,_,rfl,(by first|exact bl|exact Kd.bj _ _ _ _ _),(by first|exact bl|exact Kd.bj _ _ _ _ _),(by first|exact bl|exact Kd.bj _ _ _ _ _),From.out⟩
def mI.f (k:Nat):Option ((List (aj))×Int×List Int×Int×Int×(List (S64))):=(f_.f k 700).bind fun t172=>((mG.f k 264000 t172).bind fun u=>(some (u.1,u.2.1,u.2.2.1,u.2.2.2.1,u.2.2.2.2.1,u.2.2.2.2.2.1)))
theorem mI.c (k:Nat)  (r1:List (aj)) (r2:Int) (r3:List Int) (F:Int) (G:Int) (H:List (S64)) (w:World) (h:mI.f k=some (r1,r2,r3,F,G,H)):
  Calls Tryz.prog 47 #[] w fun e w'=>∃I J K:Value,e= .returned (.agg #[I,.int .i64 r2,J,.int .i64 F,.int .i64 G,K])∧Kd.R aX 110 w' w.heap.size (fun _=>True) I r1∧Kd.R (Kd.int .i64) 3 w' w.heap.size (fun _=>True) J r3∧Kd.R aW 64 w' w.heap.size (fun _=>True) K H∧Below w.heap.size w w':=by
 unfold mI.f at h;have X:=Tryz.underlying30
 all_goals go_enter Tryz.func47,Tryz.ntmps47
 all_goals go_wp2_with ((first
  |((with_reducible refine ax (N:=0) rfl ?_);refine bV #[.slice none 0 0,.int .i64 0,.slice none 0 0,.int .i64 0,.int .i64 0,.slice none 0 0] 30 fun g w1 j1 j2 U=> ?_)
  |((with_reducible refine ax (N:=1) rfl ?_);refine bV #[.slice none 0 0,.int .i64 0,.slice none 0 0,.int .i64 0,.int .i64 0,.slice none 0 0] 30 fun g w1 j1 j2 U=> ?_)
  |(go_at_call 92;replace h:=bI h;obtain⟨t,A,h⟩:=h;(try dsimp only at h);refine(f_.c _ _ _ _ A).mono ?_;rintro e w2 ⟨v0,rfl,u,hb⟩;obtain⟨O,b0,rfl,j0,q0⟩:=aQ u;have V:=az.mk hb;clear A u hb)
  |(go_at_call 91;replace h:=bI h;obtain⟨⟨t1,t2,t3,t4,t5,t6,t7⟩,A,h⟩:=h;(try dsimp only at h);refine(mG.c _ _ _ _ _ _ _ _ _ _ _ _ _ Rd.out aq.out A).mono ?_;rintro e w2 ⟨v0,v1,v2,rfl,u,z,D,hb⟩;obtain⟨O,b0,rfl,j0,q0⟩:=aQ u;obtain⟨B1,b1,rfl,j1,q1⟩:=aQ z;obtain⟨B2,b2,rfl,j2,q2⟩:=aQ D;have V:=az.mk hb;clear A u z D hb));(repeat' first|((with_reducible replace h:=bU h);rcases h with ⟨hc,h⟩|⟨hc,h⟩<;>first|exact(bL h).elim|exact absurd hc (by decide)|subst hc|(replace hc:=bA hc;subst hc)|(have hd:=bQ hc;have he:=bR hc;clear hc)|(have hd:=bS hc;have he:=bT hc)|(have hd:=ay hc)|(have hd:=ah hc)|skip));all_goals(try have hn:decide (0<t.length)=true:=ah (by omega));all_goals(try have hn:decide (0<t.length)=false:=ay (by omega)))
 all_goals simp only[Option.some.injEq,Prod.mk.injEq]at h
 all_goals obtain⟨rfl,rfl,rfl,rfl,rfl,rfl⟩:=h
 all_goals refine bodyPost_ret (results_cell_row rfl _ _ _ _ _ (0,0) _ rfl aU.out Tryz.underlying30 rfl (by kernel_rfl)) rfl ?_
 all_goals exact⟨_,_,_,rfl,(by first|exact bl|exact Kd.bj _ _ _ _ _),(by first|exact bl|exact Kd.bj _ _ _ _ _),(by first|exact bl|exact Kd.bj _ _ _ _ _),From.out⟩
end P
namespace Q
open Go.RowKit P WW.bq WW.cd
theorem tP (p:List aj) (hp:p.length≤4000000):iB.f p=some p:=by
  unfold iB.f;simp only[aG];rw[af (by simp;omega)];simp
theorem uv (p:List aj) (hp:p.length≤4000000):jO.f p=some p:=by
  unfold jO.f;simp only[aG];rw[af (by simp;omega)];simp
theorem zq (p:List Int) (hp:p.length≤4000000):nE.f p=some p:=by
  unfold nE.f;simp only[aG];rw[af (by simp;omega)];simp
theorem oh (p:List aj) (d:Int) (q:List Int) (hp:p.length≤4000000) (hq:q.length≤4000000):fx.f p d q=some (p,d,q):=by
  unfold fx.f;rw[tP p hp];simp only[aG];rw[af (by simp;omega)];simp
theorem ow (p:List aj) (d:Int) (q:List Int) (hp:p.length≤4000000) (hq:q.length≤4000000):iM.f p d q=some (p,d,q):=by
  unfold iM.f;rw[uv p hp];simp only[aG];rw[zq q hq];rfl
theorem lL (p:List aj) (d:Int) (q:List Int) (a m:Int) (l:List S64) (hp:p.length≤4000000) (hq:q.length≤4000000) (hl:l.length≤4000000):e5.f p d q a m l=some (p,d,q,a,m,l):=by
  unfold e5.f;rw[oh p d q hp hq,aG,og l hl];rfl
theorem lg (p:List aj) (d:Int) (q:List Int) (a m:Int) (l:List S64) (hp:p.length≤4000000) (hq:q.length≤4000000) (hl:l.length≤4000000):fM.f p d q a m l=some (p,d,q,a,m,l):=by
  unfold fM.f;rw[ow p d q hp hq,aG,ov l hl];rfl
def ou (q:List Int) (c x:Int):List Int:=q.set c.toNat (wrap64 (q.getD c.toNat 0+x))
def iE (p:List aj) (d:Int) (q:List Int) (c x:Int):List aj×Int×List Int×Bool:=
  if dS p d q=true∧(0≤c∧c≤11)∧(-100000≤x∧x≤100000)∧q.getD c.toNat 0≠0 then
    if dS p d (ou q c x)=true then(p,d,ou q c x,true)else(p,d,q,false)
  else(p,d,q,false)
theorem zn (p:List aj) (d:Int) (q:List Int) (c x:Int) (hp:p.length≤4000000) (hq:q.length≤4000000):Ev (fun n=>eL.f n p d q c x) (iE p d q c x):=by
  have u:Ev (fun n=>eL.j0 n c x true p d q p d q) (p,d,q,false):=Ev.step (fun n=>by rw[eL.j0]) (ai rfl (Ev.now _));unfold eL.f iE;refine bc (oh p d q hp hq) (bc (qG p d q) ?_);by_cases h:dS p d q=true;rotate_left
  · exact bf (fun h2=>h h2.1)<|aw h u
  have hl:=lZ h;refine ai h (bc (iP _ _ _) ?_);by_cases hc:0≤c∧c≤11;rotate_left
  · exact bf (fun h2=>hc h2.2.1)<|aw (nV hc) u
  refine ai (oa hc) (ai hc.1 (ai (by omega) ?_));rw[kg];by_cases hz:q.getD c.toNat 0=0
  · exact bf (fun h2=>h2.2.2.2 hz)<|ai hz u
  refine aw hz (bc (iP _ _ _) ?_);by_cases hx: -100000≤x∧x≤100000;rotate_left
  · rw[ay hx];exact bf (fun h2=>hx h2.2.2.1) u
  rw[ah hx];refine bC ⟨h,hc,hx,hz⟩ ?_;refine Ev.step (fun n=>by rw[eL.j0]) ?_;refine aw (by decide) (ai hc.1 (ai (by show c<(q.length:Int);omega) ?_));simp only[aG,kg];refine bc (qG p d _) ?_;by_cases h3:dS p d (ou q c x)=true
  · exact bC h3<|ai h3 (Ev.now _)
  · exact bf h3<|aw h3 (bc (oh p d q hp hq) (Ev.now _))
theorem zo (p:List aj) (d:Int) (q:List Int) (c x:Int) (hp:p.length≤4000000) (hq:q.length≤4000000):Ev (fun n=>eT.f n p d q c x) (iE p d q c x):=by
  have u:Ev (fun n=>eT.j0 n c x true p d q p d q) (p,d,q,false):=Ev.step (fun n=>by rw[eT.j0]) (ai rfl (Ev.now _));unfold eT.f iE;refine bc (ow p d q hp hq) (Ev.bind (o0 p d q) ?_);by_cases h:dS p d q=true;rotate_left
  · exact bf (fun h2=>h h2.1)<|aw h u
  have hl:=lZ h;refine ai h (bc (gU _ _ _) ?_);by_cases hc:0≤c∧c≤11;rotate_left
  · exact bf (fun h2=>hc h2.2.1)<|aw (nV hc) u
  refine ai (oa hc) (bc (gU _ _ _) ?_);by_cases hx: -100000≤x∧x≤100000;rotate_left
  · exact bf (fun h2=>hx h2.2.2.1)<|aw (nV hx) u
  refine ai (oa hx) (ai hc.1 (ai (by omega) ?_));rw[kg];by_cases hz:q.getD c.toNat 0=0
  · rw[show(q.getD c.toNat 0==0)=true by rw[hz];rfl];exact bf (fun h2=>h2.2.2.2 hz) u
  rw[show(q.getD c.toNat 0==0)=false from beq_eq_false_iff_ne.mpr hz];refine bC ⟨h,hc,hx,hz⟩ ?_;refine Ev.step (fun n=>by rw[eT.j0]) ?_;refine aw (by decide) (ai hc.1 (ai (by show c<(q.length:Int);omega) ?_));simp only[aG,kg];refine Ev.bind (o0 p d _) ?_;by_cases h3:dS p d (ou q c x)=true
  · exact bC h3<|ai h3 (Ev.now _)
  · exact bf h3<|aw h3 (bc (ow p d q hp hq) (Ev.now _))
theorem uu (p:List aj) (d:Int) (q:List Int) (c x:Int):(iE p d q c x).1=p∧(iE p d q c x).2.2.1.length=q.length:=by
  unfold iE;split
  · split
    · exact⟨rfl,by simp[ou]⟩
    · exact⟨rfl,rfl⟩
  · exact⟨rfl,rfl⟩
def nk (p:List aj) (q:List Int) (i:Nat):Bool:=decide (q.getD (p.getD i lD).f1.toNat 0≠fO p q i)
def gj (p:List aj) (q:List Int) (l:List Nat):List Int:=(l.filter (nk p q)).map (fun(i:Nat)=>(i:Int))
def jA (p:List aj) (d:Int) (q:List Int):List Int:=if dS p d q=true then gj p q (List.range d.toNat)else[]
theorem qK (p:List aj) (q:List Int) (i:Nat) (l:List Nat):gj p q (i::l)=if nk p q i=true then(i:Int)::gj p q l else gj p q l:=by
  unfold gj;rw[List.filter_cons];split<;>rfl
theorem sV (p:List aj) (d:Int) (q:List Int):Ev (fun n=>dB.f n p d q) (jA p d q):=by
  unfold dB.f jA;refine bc (qG p d q) ?_;by_cases h:dS p d q=true;rotate_left
  · exact bf h<|aw h (Ev.now _)
  have hp:=mS h;have hd:=nK h;have hq:=lZ h;have hl:=kf hp;obtain⟨m,rfl⟩:=Int.eq_ofNat_of_zero_le hd.1;refine bC h<|ai h (ai hd.1 (ai hd.2 ?_));simp only[aG,Int.toNat_natCast]
  have key:∀i,i≤m→∀acc:List Int,acc.length≤i→Ev (fun n=>dB.l0 n acc (p.take m) ((p.take m).length:Int) (i:Int) p m q) (acc++gj p q ((List.range m).drop i)):=by
    refine down (n:=m) ?_ ?_
    · intro acc ha;refine Ev.step (fun n=>by rw[dB.l0]) (aw (by rw[List.length_take];omega) (evs ?_));rw[List.drop_eq_nil_of_le (by simp)];simp[gj]
    · intro i hi ih acc ha;obtain⟨k0,k1,k2,k3,k4⟩:=kG hp p[i] (List.getElem_mem (by omega));have e:(p.take m)[i]'(by rw[List.length_take];omega)=p[i]:=(by simp);refine Ev.step (fun n=>by rw[dB.l0]) ?_;refine ai (by rw[List.length_take];omega) (ai (by omega) (ai (by rw[List.length_take];omega) ?_));rw[kJ (p.take m) i (by rw[List.length_take];omega),e];refine ai k2 (ai (by omega) (Ev.bind (sS p _ q i hp hq (by omega)) ?_));rw[drop_cons _ i (by simpa using hi),List.getElem_range,kg,cm (n:=(i:Int)+1) (by omega) (by omega)];have g:=kY p i (by omega);have eb:nk p q i=decide (q.getD p[i].f1.toNat 0≠fO p q i):=(by unfold nk;rw[g]);by_cases hb:q.getD p[i].f1.toNat 0=fO p q i
      · rw[show gj p q (i::(List.range m).drop (i+1))=gj p q ((List.range m).drop (i+1))by rw[qK,eb,ag (by simp only[decide_eq_true_eq];exact fun h=>h hb)]];refine ai hb ?_;exact ih acc (by omega)
      · rw[show gj p q (i::(List.range m).drop (i+1))=(i:Int)::gj p q ((List.range m).drop (i+1))by rw[qK,eb,af (by simp only[decide_eq_true_eq];exact hb)]];refine aw hb (ai (by omega) ?_);have:=ih (acc++[(i:Int)]) (by simp;omega);rw[List.append_assoc]at this;exact this
  have:=key 0 (Nat.zero_le _) [] (Nat.le_refl _);simpa using this
theorem sW (p:List aj) (d:Int) (q:List Int):Ev (fun n=>dR.f n p d q) (jA p d q):=by
  unfold dR.f jA;simp only[aG];refine Ev.bind (o0 p d q) ?_;by_cases h:dS p d q=true;rotate_left
  · exact bf h<|aw h (Ev.now _)
  have hp:=mS h;have hd:=nK h;have hq:=lZ h;have hl:=kf hp;obtain⟨m,rfl⟩:=Int.eq_ofNat_of_zero_le hd.1;refine bC h<|ai h ?_;simp only[Int.toNat_natCast]
  have key:∀i,i≤m→∀acc:List Int,acc.length≤i→Ev (fun n=>dR.l0 n acc (i:Int) p m q) (acc++gj p q ((List.range m).drop i)):=by
    refine down (n:=m) ?_ ?_
    · intro acc ha;refine Ev.step (fun n=>by rw[dR.l0]) (aw (by omega) (evs ?_));rw[List.drop_eq_nil_of_le (by simp)];simp[gj]
    · intro i hi ih acc ha;obtain⟨k0,k1,k2,k3,k4⟩:=kG hp p[i] (List.getElem_mem (by omega));refine Ev.step (fun n=>by rw[dR.l0]) ?_;refine ai (by omega) (ai (by omega) (ai (by omega) ?_));rw[kJ p i (by omega)];refine ai k2 (ai (by omega) (ai k0 (ai (by omega) (Ev.bind (qz _ _ _) ?_))));rw[drop_cons _ i (by simpa using hi),List.getElem_range,kg,kg,cm (n:=(i:Int)+1) (by omega) (by omega)];have g:=kY p i (by omega);have eb:nk p q i=decide (q.getD p[i].f1.toNat 0≠fO p q i):=(by unfold nk;rw[g]);by_cases hb:q.getD p[i].f1.toNat 0=fO p q i
      · rw[show gj p q (i::(List.range m).drop (i+1))=gj p q ((List.range m).drop (i+1))by rw[qK,eb,ag (by simp only[decide_eq_true_eq];exact fun h=>h hb)]];refine ai (by rw[hb];unfold fO;rw[g]) ?_;exact ih acc (by omega)
      · rw[show gj p q (i::(List.range m).drop (i+1))=(i:Int)::gj p q ((List.range m).drop (i+1))by rw[qK,eb,af (by simp only[decide_eq_true_eq];exact hb)]];refine aw (by unfold fO at hb;rw[g]at hb;exact hb) (ai (by omega) ?_);have:=ih (acc++[(i:Int)]) (by simp;omega);rw[List.append_assoc]at this;exact this
  have:=key 0 (Nat.zero_le _) [] (Nat.le_refl _);simpa using this
def gW (p:List aj) (d:Int) (q:List Int):List aj×Int×List Int×Bool:=
  match jA p d q with
  |[]=>(p,d,q,false)
  |i::_=>if fO p q i.toNat=0 then(p,d,q,false)else(p,d,q.set (p.getD i.toNat lD).f1.toNat (fO p q i.toNat),true)
theorem wG {p:List aj} {d:Int} {q:List Int} {i:Int} {r:List Int} (h:jA p d q=i::r):dS p d q=true∧∃j:Nat,i=j∧(j:Int)<d∧j<p.length:=by
  unfold jA at h;by_cases hw:dS p d q=true;rotate_left
  · rw[ag hw]at h;exact absurd h (by simp)
  rw[af hw]at h;refine⟨hw,?_⟩;have hi:i∈gj p q (List.range d.toNat):=by rw[h];exact List.mem_cons_self
  unfold gj at hi;obtain⟨j,hj,rfl⟩:=List.mem_map.1 hi;have hd:=nK hw;have:=List.mem_range.1 (List.mem_filter.1 hj).1;exact⟨j,rfl,by omega,by omega⟩
theorem zS (p:List aj) (d:Int) (q:List Int) (hp:p.length≤4000000) (hq:q.length≤4000000):Ev (fun n=>eZ.f n p d q) (gW p d q):=by
  unfold eZ.f gW;refine bc (oh p d q hp hq) (Ev.bind (sV p d q) ?_);cases h:jA p d q with
  |nil=>exact ai rfl (Ev.now _)
  |cons i r=>
   obtain⟨hw,j,rfl,hj,hj2⟩:=wG h;have hp:=mS hw;have hq:=lZ hw;obtain⟨k0,k1,k2,k3,k4⟩:=kG hp p[j] (List.getElem_mem hj2);refine aw (by simp;omega) (ai (by simp) ?_);rw[show rd ((j:Int)::r) 0=(j:Int)from rfl];refine Ev.bind (sS p d q j hp hq hj2) ?_;simp only[Int.toNat_natCast];by_cases hz:fO p q j=0
   · exact bC hz<|ai hz (Ev.now _)
   refine bf hz<|aw hz (ai (by omega) (ai (by omega) ?_));rw[kJ p j hj2,kY p j hj2];exact ai k2 (ai (by omega) (Ev.now _))
theorem zT (p:List aj) (d:Int) (q:List Int) (hp:p.length≤4000000) (hq:q.length≤4000000):Ev (fun n=>e7.f n p d q) (gW p d q):=by
  unfold e7.f gW;refine bc (ow p d q hp hq) (Ev.bind (sW p d q) ?_);cases h:jA p d q with
  |nil=>exact ai rfl (Ev.now _)
  |cons i r=>
   obtain⟨hw,j,rfl,hj,hj2⟩:=wG h;have hp:=mS hw;have hq:=lZ hw;obtain⟨k0,k1,k2,k3,k4⟩:=kG hp p[j] (List.getElem_mem hj2);refine aw (by simp;omega) (ai (by simp) ?_);rw[show rd ((j:Int)::r) 0=(j:Int)from rfl];refine ai (by omega) (ai (by omega) ?_);rw[kJ p j hj2];refine ai k0 (ai (by omega) (Ev.bind (qz _ _ _) ?_));rw[kg];have et:jz (q.getD p[j].f0.toNat 0) p[j].f2 p[j].f3=fO p q j:=(by unfold fO;rw[kY p j hj2]);simp only[Int.toNat_natCast];rw[et,kY p j hj2];by_cases hz:fO p q j=0
   · exact bC hz<|ai hz (Ev.now _)
   exact bf hz<|aw hz (ai k2 (ai (by omega) (Ev.now _)))
theorem uF (p:List aj) (d:Int) (q:List Int):(gW p d q).1=p∧(gW p d q).2.1=d∧(gW p d q).2.2.1.length=q.length:=by
  unfold gW;split
  · exact⟨rfl,rfl,rfl⟩
  · split
    · exact⟨rfl,rfl,rfl⟩
    · exact⟨rfl,rfl,by simp⟩
def ix (p:List aj) (d:Int) (q:List Int):List aj×Int×List Int×Bool:=
  if dS p d q=true then
    if d=(p.length:Int)then(p,d,q,false)
    else if fO p q d.toNat=0 then(p,d,q,false)
    else(p,d+1,q.set (p.getD d.toNat lD).f1.toNat (fO p q d.toNat),true)
  else(p,d,q,false)
theorem Cu (p:List aj) (d:Int) (q:List Int) (hp:p.length≤4000000) (hq:q.length≤4000000):Ev (fun n=>fe.f n p d q) (ix p d q):=by
  have u:Ev (fun n=>fe.j0 n true p d q p d q) (p,d,q,false):=Ev.step (fun n=>by rw[fe.j0]) (ai rfl (Ev.now _));unfold fe.f ix;refine bc (oh p d q hp hq) (bc (qG p d q) ?_);by_cases h:dS p d q=true;rotate_left
  · exact bf h<|aw h u
  refine bC h<|ai h ?_;have hp:=mS h;have hd:=nK h;have hq:=lZ h;have hl:=kf hp;obtain⟨m,rfl⟩:=Int.eq_ofNat_of_zero_le hd.1;by_cases he:(m:Int)=(p.length:Int)
  · rw[show((m:Int)==(p.length:Int))=true by simpa using he];exact bC he u
  rw[show((m:Int)==(p.length:Int))=false by simpa using he];refine bf he ?_;have hm:m<p.length:=by omega
  obtain⟨k0,k1,k2,k3,k4⟩:=kG hp p[m] (List.getElem_mem hm);refine Ev.step (fun n=>by rw[fe.j0]) ?_;refine aw (by decide) (Ev.bind (sS p m q m hp hq hm) ?_);simp only[Int.toNat_natCast];by_cases hz:fO p q m=0
  · exact bC hz<|ai hz (Ev.now _)
  refine bf hz<|aw hz (ai (by omega) (ai (by omega) ?_));rw[kJ p m hm,kY p m hm,cm (n:=(m:Int)+1) (by omega) (by omega)];exact ai k2 (ai (by omega) (Ev.now _))
theorem Cv (p:List aj) (d:Int) (q:List Int) (hp:p.length≤4000000) (hq:q.length≤4000000):Ev (fun n=>fh.f n p d q) (ix p d q):=by
  have u:Ev (fun n=>fh.j0 n true p d q p d q) (p,d,q,false):=Ev.step (fun n=>by rw[fh.j0]) (ai rfl (Ev.now _));unfold fh.f ix;refine bc (ow p d q hp hq) (Ev.bind (o0 p d q) ?_);by_cases h:dS p d q=true;rotate_left
  · exact bf h<|aw h u
  refine bC h<|ai h ?_;have hp:=mS h;have hd:=nK h;have hq:=lZ h;have hl:=kf hp;obtain⟨m,rfl⟩:=Int.eq_ofNat_of_zero_le hd.1;by_cases he:(m:Int)=(p.length:Int)
  · rw[show((m:Int)==(p.length:Int))=true by simpa using he];exact bC he u
  rw[show((m:Int)==(p.length:Int))=false by simpa using he];refine bf he ?_;have hm:m<p.length:=by omega
  obtain⟨k0,k1,k2,k3,k4⟩:=kG hp p[m] (List.getElem_mem hm);refine Ev.step (fun n=>by rw[fh.j0]) ?_;refine aw (by decide) (ai (by omega) (ai (by omega) ?_));rw[kJ p m hm];refine ai k0 (ai (by omega) (Ev.bind (qz _ _ _) ?_));rw[kg];have et:jz (q.getD p[m].f0.toNat 0) p[m].f2 p[m].f3=fO p q m:=by unfold fO;rw[kY p m hm]
  rw[et,kY p ((m:Int).toNat) hm];simp only[Int.toNat_natCast];by_cases hz:fO p q m=0
  · exact bC hz<|ai hz (Ev.now _)
  refine bf hz<|aw hz ?_;rw[cm (n:=(m:Int)+1) (by omega) (by omega)];exact ai k2 (ai (by omega) (Ev.now _))
theorem wE (p:List aj) (d:Int) (q:List Int):(ix p d q).1=p∧(ix p d q).2.2.1.length=q.length:=by
  unfold ix;split
  · split
    · exact⟨rfl,rfl⟩
    · split
      · exact⟨rfl,rfl⟩
      · exact⟨rfl,by simp⟩
  · exact⟨rfl,rfl⟩
def iF (a:Int) (p:List aj):List aj×Int×List Int×Bool:=if(kM a p).2=true then(p,0,begun a,true)else([],0,[],false)
theorem sx {a:Int} {p:List aj} (h:(kM a p).2=true):fg p=true∧fine a=true:=by
  unfold kM at h;by_cases h2:fg p=true∧fine a=true
  · exact h2
  · rw[ag h2]at h;exact absurd h (by simp)
theorem z_ (a:Int) (p:List aj):Ev (fun n=>gT.f n a p) (iF a p):=by
  unfold gT.f iF;refine Ev.bind (BA a p) ?_;by_cases h:(kM a p).2=true;rotate_left
  · exact bf h<|aw h (Ev.now _)
  refine bC h<|ai h (bc (tP p (by have:=kf (sx h).1;omega)) (ai (by decide) ?_));simp only[aG];exact ai (by simp) (Ev.now _)
theorem Aa (a:Int) (p:List aj):Ev (fun n=>ib.f n a p) (iF a p):=by
  unfold ib.f iF;refine Ev.bind (BB a p) ?_;by_cases h:(kM a p).2=true;rotate_left
  · exact bf h<|aw h (Ev.now _)
  refine bC h<|ai h (bc (uv p (by have:=kf (sx h).1;omega)) (ai (by decide) ?_));simp only[aG];exact ai (by simp) (Ev.now _)
theorem uL (a:Int) (p:List aj):(iF a p).1.length≤11∧(iF a p).2.2.1.length≤12:=by
  unfold iF;by_cases h:(kM a p).2=true
  · rw[af h];exact⟨kf (sx h).1,by simp[begun]⟩
  · rw[ag h];simp
def im (x:Int) (p:List aj):List aj×Int×List Int×Int×Int×List S64×Bool:=
  if(iF x p).2.2.2=true then((iF x p).1,(iF x p).2.1,(iF x p).2.2.1,15,0,[],true)else([],0,[],0,0,[],false)
theorem zX (x:Int) (p:List aj):Ev (fun k=>mi.f k x p) (im x p):=by
  unfold mi.f im;refine Ev.bind (z_ x p) ?_;by_cases h:(iF x p).2.2.2=true
  · exact bC h<|ai h (Ev.now _)
  · exact bf h<|aw h (Ev.now _)
theorem zZ (x:Int) (p:List aj):Ev (fun k=>mG.f k x p) (im x p):=by
  unfold mG.f im;refine Ev.bind (Aa x p) ?_;by_cases h:(iF x p).2.2.2=true
  · exact bC h<|ai h (Ev.now _)
  · exact bf h<|aw h (Ev.now _)
theorem zY (x:Int) (p:List aj):(im x p).1.length≤11∧(im x p).2.2.1.length≤12∧(im x p).2.2.2.2.2.1.length=0:=by
  unfold im;split
  · exact⟨(uL x p).1,(uL x p).2,rfl⟩
  · exact⟨by simp,by simp,rfl⟩
theorem CR (b:Int):Ev (fun k=>eA.f k b) (kp b):=by
  unfold eA.f kp;refine bc (iP _ _ _) ?_;by_cases hb:0≤b∧b≤5000;rotate_left
  · exact bf hb (aw (nV hb) (Ev.now _))
  refine bC hb (ai (oa hb) ?_)
  have key:∀i:Nat,i≤11→Ev (fun k=>eA.l0 k b ((List.range i).map (fun(i:Nat)=>(⟨(i:Int),(i:Int)+1,lB i,b⟩:aj))) (i:Int)) ((List.range 11).map (fun(i:Nat)=>⟨(i:Int),(i:Int)+1,lB i,b⟩)):=by
    refine down (n:=11) ?_ ?_
    · exact Ev.step (fun k=>by rw[eA.l0]) (aw (by decide) (Ev.now _))
    · intro i hi ih;refine Ev.step (fun k=>by rw[eA.l0]) (ai (by omega) ?_);rw[cm (n:=(i:Int)+1) (by omega) (by omega)];rw[List.range_succ,List.map_append]at ih;have hlen:((List.range i).map (fun(i:Nat)=>(⟨(i:Int),(i:Int)+1,lB i,b⟩:aj))).length<4398046511104:=(by simp;omega);by_cases h0:i=0
      · exact ai (by omega) (ai hlen (by subst h0;exact ih))
      refine aw (by omega) ?_;by_cases h2:i=2
      · exact ai (by omega) (ai hlen (by subst h2;exact ih))
      refine aw (by omega) ?_;by_cases h4:i=4
      · exact ai (by omega) (ai hlen (by subst h4;exact ih))
      refine aw (by omega) ?_;by_cases h7:i=7
      · exact ai (by omega) (ai hlen (by subst h7;exact ih))
      refine aw (by omega) ?_;by_cases h9:i=9
      · exact ai (by omega) (ai hlen (by subst h9;exact ih))
      refine aw (by omega) (ai hlen ?_);have hk:lB i=2:=(by unfold lB;rw[ag (by omega)]);simp only[List.map_cons,List.map_nil,hk]at ih;exact ih
  exact key 0 (by omega)
def dF:List aj×Int×List Int×Int×Int×List S64:=((im 264000 (kp 700)).1,(im 264000 (kp 700)).2.1,(im 264000 (kp 700)).2.2.1,(im 264000 (kp 700)).2.2.2.1,(im 264000 (kp 700)).2.2.2.2.1,(im 264000 (kp 700)).2.2.2.2.2.1)
theorem BF:Ev (fun k=>ml.f k) dF:=by
  unfold ml.f;exact Ev.bind (CR 700) (Ev.bind (zX 264000 _) (Ev.now _))
theorem BH:Ev (fun k=>mI.f k) dF:=by
  unfold mI.f;exact Ev.bind (CT 700) (Ev.bind (zZ 264000 _) (Ev.now _))
theorem sA:dF.1.length≤11∧dF.2.2.1.length≤12∧dF.2.2.2.2.2.length=0:=zY 264000 (kp 700)
end Q
namespace P
set_option maxHeartbeats 8000000
set_option maxRecDepth 100000
set_option synthInstance.maxHeartbeats 400000
set_option synthInstance.maxSize 100000
open Go.RowKit WW.bq WW.cg WW.cd V
attribute [local go_sem] dN dO iY kV kX lK lQ
attribute [local go_sem] cN cR cQ cU cP cT cO cS
attribute [local go_sem high] yl
def eC.j0:Nat→Int→Bool→Int→Int→Int→Int→Option (Bool)
 |0,_,_,_,_,_,_=>none
 |k+1,F,V,X,u,z,D=>if V=true then(some (u==0&&(z==0&&(D==0))))else(if F=2 then(if(z==0&&(D==0))=true then((fX.f u).bind fun G=>(some G))else(some false))else(if F=3 then((cv.f u 0 3).bind fun H=>(if H=true then((cv.f z 0 39).bind fun I=>(if I=true then((cv.f D 0 2).bind fun J=>(some J))else(some false)))else(some false)))else(if F=4 then(if(D==0)=true then((cv.f u 0 11).bind fun K=>(if K=true then((cv.f z (-100000) 100000).bind fun O=>(some O))else(some false)))else(some false))else(if F=7 then(if(z==0&&(D==0))=true then((cv.f u 0 11).bind fun U=>(some U))else(some false))else(some false)))))
def eC.f (k:Nat) (u:Int) (z:Int) (D:Int) (F:Int):Option (Bool):=if u=1 then(eC.j0 k u (u==1) u z D F)else(if u=5 then(eC.j0 k u (u==5) u z D F)else(eC.j0 k u (u==6) u z D F))
theorem eC.c (k:Nat) (z:Int) (D:Int) (F:Int) (G:Int) (r:Bool) (w:World) (h:eC.f k z D F G=some r):
  Calls Tryz.prog 59 #[.agg #[.int .i64 z,.int .i64 D,.int .i64 F,.int .i64 G]] w fun e w'=>e= .returned (.bool r)∧Below w.heap.size w w':=by
 unfold eC.f at h;have J:=Tryz.underlying57
 (repeat' first|((with_reducible replace h:=bU h);rcases h with ⟨hc,h⟩|⟨hc,h⟩<;>first|exact(bL h).elim|exact absurd hc (by decide)|subst hc|(replace hc:=bA hc;subst hc)|(replace hc:=dz hc;subst hc)|(replace hc:=dA hc;subst hc)|(have hd:(_==_)=true:=hc)|(have hd:(_==_)=false:=bA hc)|(have hd:=bQ hc;have he:=bR hc;clear hc)|(have hd:=bS hc;have he:=bT hc)|(have hd:=ay hc)|(have hd:=ah hc;(try(have hn:=Int.natCast_pos.mp hc;have hm:=ah hn;replace hn:=av hn));first|(obtain⟨I,e_,i_⟩:=dy (by assumption) (by first|assumption|decide) hc;cases e_)|(obtain⟨H,e_,c_⟩:=dv (by assumption) (by first|assumption|decide) hc;cases e_))|(have hd:=ah hc)|skip)|((with_reducible have hj:eC.j0 k _ _ _ _ _ _=_:=h);clear hj;rcases k with _|k<;>rw[eC.j0]at h<;>first|exact(bL h).elim|skip)|((with_reducible replace h:=dw h);obtain⟨u,h⟩:=h;replace u:=A_ u;(try dsimp only at h)))
 all_goals go_enter Tryz.func59,Tryz.ntmps59
 all_goals go_wp2_with ((first
  |((with_reducible refine ax (N:=1) rfl ?_);refine bV #[.int .i64 z,.int .i64 D,.int .i64 F,.int .i64 G] 57 fun g w1 j1 j2 K=> ?_)
  |(go_at_call 57;(try rw[u.out]);replace h:=bI h;obtain⟨t,A,h⟩:=h;(try dsimp only at h);refine(fX.c _ _ _ A).mono ?_;rintro e w2 ⟨rfl,n,rfl⟩;clear A)
  |(go_at_call 58;(try rw[u.out]);replace h:=bI h;obtain⟨t,A,h⟩:=h;(try dsimp only at h);refine(cv.c _ _ _ _ _ A).mono ?_;rintro e w2 ⟨rfl,n,rfl⟩;clear A));(repeat' first|((with_reducible replace h:=bU h);rcases h with ⟨hc,h⟩|⟨hc,h⟩<;>first|exact(bL h).elim|exact absurd hc (by decide)|subst hc|(replace hc:=bA hc;subst hc)|(replace hc:=dz hc;subst hc)|(replace hc:=dA hc;subst hc)|(have hd:(_==_)=true:=hc)|(have hd:(_==_)=false:=bA hc)|(have hd:=bQ hc;have he:=bR hc;clear hc)|(have hd:=bS hc;have he:=bT hc)|(have hd:=ay hc)|(have hd:=ah hc;(try(have hn:=Int.natCast_pos.mp hc;have hm:=ah hn;replace hn:=av hn));first|(obtain⟨I,e_,i_⟩:=dy (by assumption) (by first|assumption|decide) hc;cases e_)|(obtain⟨H,e_,c_⟩:=dv (by assumption) (by first|assumption|decide) hc;cases e_))|(have hd:=ah hc)|skip)|((with_reducible have hj:eC.j0 k _ _ _ _ _ _=_:=h);clear hj;rcases k with _|k<;>rw[eC.j0]at h<;>first|exact(bL h).elim|skip)|((with_reducible replace h:=dw h);obtain⟨u,h⟩:=h;replace u:=A_ u;(try dsimp only at h))))
 all_goals obtain rfl:=aH h
 all_goals go_ret
 all_goals exact⟨(by first|rfl|(simp_all;done)),From.out⟩
end P
namespace P
set_option maxRecDepth 100000
open Go.RowKit WW.bq WW.cg WW.cd V
attribute [local go_sem] dN dO
attribute [local go_sem] cN cR cQ cU cP cT cO cS
def k8.f (a0:Int):Option (ByteArray):=if-9223372036854775808≤a0∧a0≤9223372036854775807 then some ⟨(Go.Lib.itoa a0).toArray⟩else none
theorem k8.c (a0:Int) (r:ByteArray) (w:World) (h:k8.f a0=some r) (u:ae (kr w)):
  Calls Tryz.prog 18 #[.int .i64 a0] w fun e w'=>e= .returned (.string r)∧Below w.heap.size w w':=by
 unfold k8.f at h;by_cases hc: -9223372036854775808≤a0∧a0≤9223372036854775807
 ·rw[af hc]at h;obtain rfl:=aH h;go_enter Tryz.func18,Tryz.ntmps18
  go_wp2_with (go_at_call 44;refine(Any.strconv_Itoa Co a0 hc.1 hc.2 _ u.out).mono ?_;rintro e w' ⟨rfl,k,os,rfl⟩)
  go_ret;exact⟨rfl,Go.Lib.below_grow _ _ (Nat.le_refl _) _ _⟩
 ·rw[ag hc]at h;cases h
end P
namespace P
open Go.RowKit WW.bq WW.cg WW.cd V
attribute [local go_sem] dN dO
attribute [local go_sem] cN cR cQ cU cP cT cO cS
def strings_Join.f (l0:List ByteArray) (a1:ByteArray):Option (ByteArray):=if l0.length≤140737488355328∧(Go.Lib.join (l0.map (·.data.toList)) a1.data.toList).length≤140737488355328 then some ⟨(Go.Lib.join (l0.map (·.data.toList)) a1.data.toList).toArray⟩else none
theorem strings_Join.c (A0:Option Addr) (c0:Nat) (l0:List ByteArray) (a1:ByteArray) (r:ByteArray) (w:World) (u:Kd.C Kd.string w A0 l0.length l0) (hc0:l0.length≤c0) (h:strings_Join.f l0 a1=some r):
  Calls Tryz.prog 82 #[.slice A0 l0.length c0,.string a1] w fun e w'=>e= .returned (.string r)∧Below w.heap.size w w':=by
 unfold strings_Join.f at h;by_cases hc:l0.length≤140737488355328∧(Go.Lib.join (l0.map (·.data.toList)) a1.data.toList).length≤140737488355328;rotate_left
 ·rw[ag hc]at h;cases h
 rw[af hc]at h;obtain rfl:=aH h;by_cases hz:l0.length=0
 ·obtain rfl:l0=[]:=List.eq_nil_of_length_eq_zero hz;exact(Any.strings_Join_none vW wh A0 c0 a1 w).mono fun e w' ⟨he,hw⟩=>⟨he,hw▸Below.refl _ _⟩
 ·obtain⟨ad,rfl,hcell⟩:=(Kd.sq (d:=ByteArray.empty) u).2.2 (by omega);have h0:=hcell 0 (by omega);obtain⟨bk,o,sp⟩:=ad
  obtain rfl:sp=none:=by
   cases sp with
   |none=>rfl
   |some x=>unfold World.cell? at h0;simp only[Addr.add]at h0;split at h0<;>simp at h0
  refine Any.strings_Join vW wh bk o c0 l0 a1 w (fun j x hx=> ?_) (World.block_lt_of_cell? w _ h0) hc.1 hc0 hc.2
  have hj:j<l0.length:=by
   rcases Nat.lt_or_ge j l0.length with h'|h'
   ·exact h'
   ·rw[List.getElem?_eq_none h']at hx;cases hx
  have h1:=hcell j hj;rw[List.getD_eq_getElem?_getD,hx]at h1;by_cases hj0:j=0
  ·subst hj0;simpa[Addr.add]using h1
  ·simpa[Addr.add,hj0]using h1
end P
namespace P
set_option maxHeartbeats 8000000
set_option maxRecDepth 100000
open Go.RowKit WW.bq WW.cg WW.cd V
attribute [local go_sem] dN dO
attribute [local go_sem] cN cR cQ cU cP cT cO cS
def b_.l0:Nat→List ByteArray→List Int→Int→Int→Option (ByteArray)
 |0,_,_,_,_=>none
 |k+1,x3,z,D,u=>if u<D then(if 0≤u then(if u<(z.length:Int)then((k8.f (rd z u)).bind fun F=>(if x3.length<8796093022208 then(b_.l0 k (x3++[F]) z D (wrap64 (u+1)))else(none)))else(none))else(none))else((strings_Join.f x3 (⟨#[32]⟩:ByteArray)).bind fun G=>(some G))
def b_.f (k:Nat) (l0:List Int):Option (ByteArray):=b_.l0 k (([]:List ByteArray)) l0 (l0.length:Int) 0
theorem b_.c (k:Nat) (A0:Option Addr) (c0:Nat) (l0:List Int) (r:ByteArray) (w:World) (am:Kd.C (Kd.int .i64) w A0 l0.length l0) (hc0:l0.length≤c0) (h:b_.f k l0=some r) (a0:ae (kr w)):
  Calls Tryz.prog 33 #[.slice A0 l0.length c0] w fun e w'=>e= .returned (.string r)∧Below w.heap.size w w':=by
 have aK:=A_ am;have a2:=A_ hc0;clear am hc0;have u:=A_ (Below.refl w.heap.size w);have H:(b_.l0 k (([]:List ByteArray)) l0 (l0.length:Int) 0)=some r:=h;clear h;obtain⟨aq,O⟩:∃ad:List ByteArray,ad=(([]:List ByteArray)):=⟨_,rfl⟩;replace H:(b_.l0 k aq l0 (l0.length:Int) 0)=some r:=by first|(rw[O];with_reducible exact H)|(have J:=(aG _ _).symm.trans H;rw[O];with_reducible exact J)|(have J:=(aG _ _).symm.trans H;with_reducible exact J)|with_reducible exact H|(rw[O];exact H)|exact H
 have al:=A_ O;clear O;have H':=A_ H;clear H;go_enter Tryz.func33,Tryz.ntmps33
 go_wp2_with (first|((with_reducible refine ax (N:=6) rfl ?_);refine Kd.cx Kd.string _ 9 ?hg (N:=6) ?hd (xs:=([]:List ByteArray)) (inner:=[]) (ok:=fun _=>True) (bB:=fun _=>True) ?hr ?hp (fun _ hk=>hk) trivial (Below.refl _ _) (Nat.le_refl _) (by simp) ?_;(case hd=>rfl);(case hg=>rfl);(case hr=>first|(go_simp;done)|(go_simp;rfl));(case hp=>exact(aI.none _ _));intro a8 w2 K hb aW aX;clear aW aX;(first|rw[←al.out]at K|(simp only[Int.reduceToNat]at K;rw[←al.out]at K));have F:=A_ (Kd.bE K (aA (oB u)));have G:=A_ (aC (oB u) hb);clear u;have aE:=F;have u:=G;clear F G hb K))
 go_loopg [3,9] k (fun ap v3 v9 w'=>∃(I:List ByteArray) (z:Int),v9= .int .i64 z∧ae (b_.l0 ap I l0 (l0.length:Int) z=some r)∧ae (ap≤k)∧ae (Kd.R Kd.string 9 w' w.heap.size (fun _=>True) v3 I)∧ae (Below w.heap.size w w'))
 case atStart=>exact⟨(aq),(0),eS,H',⟨Nat.le_refl _⟩,⟨oR aE⟩,⟨oB u⟩⟩
 case round=>
  clear H'
  try clear p2
  try clear c3
  obtain⟨I,z,rfl,X,ak,D,u⟩:=hrel;cases gk with
  |zero=>exact absurd X.out (by simp[b_.l0])
  |succ k1=>
   have H:=X.out;clear X;simp only[b_.l0]at H;by_cases c4:z<(l0.length:Int)
   ·rw[af c4]at H;have aQ:decide (z<(l0.length:Int))=true:=ah c4;clear c4;by_cases c5:0≤z
    ·rw[af c5]at H;have a4:decide (0≤z)=true:=ah c5;clear c5;by_cases c6:z<(l0.length:Int)
     ·rw[af c6]at H;have a5:decide (z<(l0.length:Int))=true:=ah c6;clear c6;replace H:=aD H;obtain⟨V,aj,H⟩:=H
      (try dsimp only at H)
      have aw:=A_ aj;clear aj;by_cases c8:I.length<8796093022208
      ·rw[af c8]at H;have aM:=A_ c8;clear c8;obtain⟨ar,U⟩:∃ad:List ByteArray,ad=(I++[V]):=⟨_,rfl⟩;replace H:(b_.l0 k1 ar l0 (l0.length:Int) (wrap64 (z+1)))=some r:=by first|(rw[U];with_reducible exact H)|(have J:=(aG _ _).symm.trans H;rw[U];with_reducible exact J)|(have J:=(aG _ _).symm.trans H;with_reducible exact J)|with_reducible exact H|(rw[U];exact H)|exact H
       have aN:=A_ U;clear U;have H':=A_ H;clear H;have Y:0≤(z:Int):=oD;have Z:z<(l0.length:Int):=oD;obtain⟨a3,aT,ao⟩:=Kd.dG aK.out z Y Z;cases aT;replace ao:=hW u ao;replace Y:=av Y;replace Z:=av Z
       go_wp2_with (first|((with_reducible refine aZ (f:=18) rfl ?_);refine gL (some 15) Tryz.func18 #[.int .i64 (rd l0 z)] ?_;(with_reducible refine(k8.c (rd l0 z) V _ aw.out ?ek).mono ?_);(case ek=>exact⟨iN a0.out (oB u)⟩);rintro e bc ⟨rfl,hb⟩;refine⟨_,rfl,?_⟩;have F:=A_ (Kd.aV (oR D) hb);have G:=A_ (aC (oB u) hb);clear D u;have D:=F;have u:=G;clear F G;(try clear hb);(try clear hb2);(try clear hk);(try clear hi))|((with_reducible refine dP (b:= .append) (xs:= #[.tmp 13,.tmp 16]) rfl ?_);at_builtin;refine Kd.eF Kd.string (w0:=w) w.heap.size rfl (.tmp 13) (.tmp 16) 38 9 (.string ⟨#[]⟩) 16 rfl Tryz.underlying38 ld rfl (by decide) (by omega) u3 I V [.string V] (fun _=>True) (fun _=>False) rfl rfl ?aP (fun _ hk=>hk.elim) ?aF ?aO ?aB ?aS ?aL ?_;(case aP=>exact rfl);(case aB=>exact(oB u));(case aF=>exact(fun _ _=>trivial));(case aO=>exact(oR D));(case aS=>exact(aA (oB u)));(case aL=>have:=aM.out;omega);intro a9 a_ ho hb hg hat;rw[←aN.out]at ho;have F:=A_ (hb);have G:=A_ (ho);clear u D;have u:=F;have aJ:=G;clear F G ho hb hg hat))
       go_roundg k1
       case measure=>have:=ak.out;omega
       case rel=>exact⟨(ar),(wrap64 (z+1)),eS,H',⟨by have:=ak.out;omega⟩,⟨oR aJ⟩,⟨oB u⟩⟩
      ·rw[ag c8]at H;exact absurd H (by simp)
     ·rw[ag c6]at H;exact absurd H (by simp)
    ·rw[ag c5]at H;exact absurd H (by simp)
   ·rw[ag c4]at H;have aQ:decide (z<(l0.length:Int))=false:=ay c4;clear c4;replace H:=aD H;obtain⟨a1,ai,H⟩:=H
    (try dsimp only at H)
    have au:=A_ ai;clear ai;obtain rfl:=aH H;obtain⟨az,aR,aU⟩:=Kd.bz D.out;subst aU
    go_wp2_with (first|((with_reducible refine aZ (f:=82) rfl ?_);refine gL (some 20) Tryz.func82 #[.slice az I.length aR,.string (⟨#[32]⟩:ByteArray)] ?_;(with_reducible refine(strings_Join.c _ _ I (⟨#[32]⟩:ByteArray) a1 _ ?a6 ?a7 au.out).mono ?_);(case a6=>repeat(first|exact(Kd.aY D.out).2.2|(with_reducible refine Kd.cZ ?_ _)|(with_reducible refine Kd.dn ?_ _)|(with_reducible refine Kd.dm ?_)));(case a7=>exact(Kd.aY D.out).2.1);rintro e bb ⟨rfl,hb⟩;refine⟨_,rfl,?_⟩;have F:=A_ (Kd.aV (oR D) hb);have G:=A_ (aC (oB u) hb);clear D u;have D:=F;have u:=G;clear F G;(try clear hb);(try clear hb2);(try clear hk);(try clear hi)))
    go_ret;exact⟨eR,oB u⟩
def kZ.f (k:Nat) (u:Int) (z:Int) (D:Int) (F:Int):Option (ByteArray×Bool):=(eC.f k u z D F).bind fun K=>(if K=true then(if u=1 then(some ((⟨#[116,117,110,101]⟩:ByteArray),true))else(if u=2 then((b_.f k (([z]:List Int))).bind fun G=>(if 5+G.size≤9223372036854775807 then(some ((⟨#[119,97,114,109,32]⟩:ByteArray)++G,true))else(none)))else(if u=3 then((b_.f k (([z,D,F]:List Int))).bind fun H=>(if 6+H.size≤9223372036854775807 then(some ((⟨#[102,97,117,108,116,32]⟩:ByteArray)++H,true))else(none)))else(if u=4 then((b_.f k (([z,D]:List Int))).bind fun I=>(if 6+I.size≤9223372036854775807 then(some ((⟨#[107,110,111,99,107,32]⟩:ByteArray)++I,true))else(none)))else(if u=5 then(some ((⟨#[114,101,112,97,105,114]⟩:ByteArray),true))else(if u=6 then(some ((⟨#[108,101,102,116]⟩:ByteArray),true))else((b_.f k (([z]:List Int))).bind fun J=>(if 6+J.size≤9223372036854775807 then(some ((⟨#[104,101,97,114,100,32]⟩:ByteArray)++J,true))else(none)))))))))else(some ((⟨#[]⟩:ByteArray),false)))
theorem kZ.c (k:Nat) (G:Int) (I:Int) (K:Int) (O:Int) (r1:ByteArray) (r2:Bool) (w:World) (h:kZ.f k G I K O=some (r1,r2)) (aS:ae (kr w)):
  Calls Tryz.prog 36 #[.agg #[.int .i64 G,.int .i64 I,.int .i64 K,.int .i64 O]] w fun e w'=>e= .returned (.tuple #[.string r1,.bool r2])∧Below w.heap.size w w':=by
 have d6:=Tryz.underlying57;have z:=A_ (Below.refl w.heap.size w);have H:((eC.f k G I K O).bind fun aT=>(if aT=true then(if G=1 then(some ((⟨#[116,117,110,101]⟩:ByteArray),true))else(if G=2 then((b_.f k (([I]:List Int))).bind fun Z=>(if 5+Z.size≤9223372036854775807 then(some ((⟨#[119,97,114,109,32]⟩:ByteArray)++Z,true))else(none)))else(if G=3 then((b_.f k (([I,K,O]:List Int))).bind fun ad=>(if 6+ad.size≤9223372036854775807 then(some ((⟨#[102,97,117,108,116,32]⟩:ByteArray)++ad,true))else(none)))else(if G=4 then((b_.f k (([I,K]:List Int))).bind fun ai=>(if 6+ai.size≤9223372036854775807 then(some ((⟨#[107,110,111,99,107,32]⟩:ByteArray)++ai,true))else(none)))else(if G=5 then(some ((⟨#[114,101,112,97,105,114]⟩:ByteArray),true))else(if G=6 then(some ((⟨#[108,101,102,116]⟩:ByteArray),true))else((b_.f k (([I]:List Int))).bind fun aj=>(if 6+aj.size≤9223372036854775807 then(some ((⟨#[104,101,97,114,100,32]⟩:ByteArray)++aj,true))else(none)))))))))else(some ((⟨#[]⟩:ByteArray),false))))=some (r1,r2):=h;clear h;replace H:=aD H;obtain⟨aT,a2,H⟩:=H
 (try dsimp only at H)
 have A2:=A_ a2;clear a2;by_cases c3:aT=true
 ·subst c3;rw[af rfl]at H;by_cases c4:G=1
  ·rw[af c4]at H;have bv:(G==1)=true:=beq_iff_eq.mpr c4;have bw:(G != 1)=false:=bne_eq_false_iff_eq.mpr c4;clear c4;simp only[Option.some.injEq,Prod.mk.injEq]at H;obtain⟨rfl,rfl⟩:=H;go_enter Tryz.func36,Tryz.ntmps36
   go_wp2_with (first|((with_reducible refine ax (N:=1) rfl ?_);refine bX (N:=1) (cs:= #[.int .i64 G,.int .i64 I,.int .i64 K,.int .i64 O]) (t:=57) ?_;intro U hg et V hb;have D:=A_ (aC (oB z) hb);have F:=A_ (V);have J:=A_ ((by rw[hg];exact(aA (oB z)):w.heap.size≤U));have X:=A_ ((by rw[hg];exact(aA (oB z)):w.heap.size≤U));clear z;have z:=D;have u:=F;have al:=J;have ak:=X;clear D F J X hb V hg;have cT:=cz u 0;have cU:=cz u 1;have cV:=cz u 2;have cW:=cz u 3;have dY:=ar u.out 0;have dZ:=ar u.out 1;have d0:=ar u.out 2;have d1:=ar u.out 3)|((with_reducible refine aZ (f:=59) rfl ?_);refine gL (some 5) Tryz.func59 #[.agg #[.int .i64 G,.int .i64 I,.int .i64 K,.int .i64 O]] ?_;(with_reducible refine(eC.c k G I K O true _ A2.out).mono ?_);rintro e w7 ⟨rfl,hb⟩;refine⟨_,rfl,?_⟩;have D:=A_ (bb u hb);have F:=A_ (aC (oB z) hb);clear u z;have u:=D;have z:=F;clear D F;(try clear hb);(try clear hb2);(try clear hk);(try clear hi);have cX:=cz u 0;have cY:=cz u 1;have c0:=cz u 2;have c1:=cz u 3;have d2:=ar u.out 0;have d3:=ar u.out 1;have d4:=ar u.out 2;have d5:=ar u.out 3))
   go_ret2;exact⟨eR,oB z⟩
  ·rw[ag c4]at H;have bv:(G==1)=false:=beq_eq_false_iff_ne.mpr c4;have bw:(G != 1)=true:=bne_iff_ne.mpr c4;by_cases c9:G=2
   ·rw[af c9]at H;have bx:(G==2)=true:=beq_iff_eq.mpr c9;have bA:(G != 2)=false:=bne_eq_false_iff_eq.mpr c9;clear c9;obtain⟨aU,aO⟩:∃au:List Int,au=(([I]:List Int)):=⟨_,rfl⟩;replace H:((b_.f k aU).bind fun Z=>(if 5+Z.size≤9223372036854775807 then(some ((⟨#[119,97,114,109,32]⟩:ByteArray)++Z,true))else(none)))=some (r1,r2):=by first|(rw[aO];with_reducible exact H)|(have Y:=(aG _ _).symm.trans H;rw[aO];with_reducible exact Y)|(have Y:=(aG _ _).symm.trans H;with_reducible exact Y)|with_reducible exact H|(rw[aO];exact H)|exact H
    have a8:=A_ aO;clear aO;replace H:=aD H;obtain⟨Z,a1,H⟩:=H
    (try dsimp only at H)
    have bd:=A_ a1;clear a1;by_cases c11:5+Z.size≤9223372036854775807
    ·rw[af c11]at H;have bM:=av c11;have bO:decide (5+Z.size≤9223372036854775807)=true:=ah c11
     try have bP:(9223372036854775807<5+Z.size)=False:=d_ (Nat.not_lt.2 c11)
     simp only[Option.some.injEq,Prod.mk.injEq]at H;obtain⟨rfl,rfl⟩:=H;go_enter Tryz.func36,Tryz.ntmps36
     go_wp2_with (first|((with_reducible refine ax (N:=1) rfl ?_);refine bX (N:=1) (cs:= #[.int .i64 G,.int .i64 I,.int .i64 K,.int .i64 O]) (t:=57) ?_;intro U hg ea V hb;have D:=A_ (aC (oB z) hb);have F:=A_ (V);have J:=A_ ((by rw[hg];exact(aA (oB z)):w.heap.size≤U));have X:=A_ ((by rw[hg];exact(aA (oB z)):w.heap.size≤U));clear z;have z:=D;have u:=F;have al:=J;have ak:=X;clear D F J X hb V hg;have b0:=cz u 0;have b1:=cz u 1;have b2:=cz u 2;have b3:=cz u 3;have c5:=ar u.out 0;have c6:=ar u.out 1;have c7:=ar u.out 2;have c8:=ar u.out 3)|((with_reducible refine aZ (f:=59) rfl ?_);refine gL (some 5) Tryz.func59 #[.agg #[.int .i64 G,.int .i64 I,.int .i64 K,.int .i64 O]] ?_;(with_reducible refine(eC.c k G I K O true _ A2.out).mono ?_);rintro e eb ⟨rfl,hb⟩;refine⟨_,rfl,?_⟩;have D:=A_ (bb u hb);have F:=A_ (aC (oB z) hb);clear u z;have u:=D;have z:=F;clear D F;(try clear hb);(try clear hb2);(try clear hk);(try clear hi);have b4:=cz u 0;have b5:=cz u 1;have b6:=cz u 2;have b7:=cz u 3;have c_:=ar u.out 0;have c':=ar u.out 1;have da:=ar u.out 2;have db:=ar u.out 3)|((with_reducible refine ax (N:=15) rfl ?_);refine Kd.cx (Kd.int .i64) _ 3 ?hg (N:=15) ?hd (xs:=([I]:List Int)) (inner:=[.int .i64 I]) (ok:=fun _=>True) (bB:=fun _=>True) ?hr ?hp (fun _ hk=>hk) trivial (Below.refl _ _) (Nat.le_refl _) (by simp) ?_;(case hd=>rfl);(case hg=>rfl);(case hr=>first|(go_simp;done)|(go_simp;rfl));(case hp=>exact(aI.one (show Kd.M (Kd.int .i64) _ _ _ I [.int .i64 I]from rfl) (aI.none _ _)));intro d7 ec aK hb ap aq;clear ap aq;(first|rw[←a8.out]at aK|(simp only[Int.reduceToNat]at aK;rw[←a8.out]at aK));have D:=A_ (Kd.bE aK (aA (oB z)));have F:=A_ (bb u hb);have J:=A_ (aC (oB z) hb);clear u z;have aw:=D;have u:=F;have z:=J;clear D F J hb aK;obtain⟨bh,bC,bI⟩:=Kd.bz aw.out;subst bI)|((with_reducible refine aZ (f:=33) rfl ?_);refine gL (some 16) Tryz.func33 #[.slice bh aU.length bC] ?_;(with_reducible refine(b_.c k _ _ aU Z _ ?a6 ?a7 bd.out ?ek).mono ?_);(case ek=>exact⟨iN aS.out (oB z)⟩);(case a6=>repeat(first|exact(Kd.aY aw.out).2.2|(with_reducible refine Kd.cZ ?_ _)|(with_reducible refine Kd.dn ?_ _)|(with_reducible refine Kd.dm ?_)));(case a7=>exact(Kd.aY aw.out).2.1);rintro e ef ⟨rfl,hb⟩;refine⟨_,rfl,?_⟩;have D:=A_ (Kd.aV (oR aw) hb);have F:=A_ (bb u hb);have J:=A_ (aC (oB z) hb);clear aw u z;have aw:=D;have u:=F;have z:=J;clear D F J;(try clear hb);(try clear hb2);(try clear hk);(try clear hi)))
     go_ret2;exact⟨eR,oB z⟩
    ·rw[ag c11]at H;exact absurd H (by simp)
   ·rw[ag c9]at H;have bx:(G==2)=false:=beq_eq_false_iff_ne.mpr c9;have bA:(G != 2)=true:=bne_iff_ne.mpr c9;by_cases c20:G=3
    ·rw[af c20]at H;have bn:(G==3)=true:=beq_iff_eq.mpr c20;have bo:(G != 3)=false:=bne_eq_false_iff_eq.mpr c20;clear c20;obtain⟨aW,aP⟩:∃au:List Int,au=(([I,K,O]:List Int)):=⟨_,rfl⟩;replace H:((b_.f k aW).bind fun ad=>(if 6+ad.size≤9223372036854775807 then(some ((⟨#[102,97,117,108,116,32]⟩:ByteArray)++ad,true))else(none)))=some (r1,r2):=by first|(rw[aP];with_reducible exact H)|(have Y:=(aG _ _).symm.trans H;rw[aP];with_reducible exact Y)|(have Y:=(aG _ _).symm.trans H;with_reducible exact Y)|with_reducible exact H|(rw[aP];exact H)|exact H
     have a9:=A_ aP;clear aP;replace H:=aD H;obtain⟨ad,a3,H⟩:=H
     (try dsimp only at H)
     have be:=A_ a3;clear a3;by_cases aF:6+ad.size≤9223372036854775807
     ·rw[af aF]at H;have bQ:=av aF;have bR:decide (6+ad.size≤9223372036854775807)=true:=ah aF
      try have bS:(9223372036854775807<6+ad.size)=False:=d_ (Nat.not_lt.2 aF)
      simp only[Option.some.injEq,Prod.mk.injEq]at H;obtain⟨rfl,rfl⟩:=H;go_enter Tryz.func36,Tryz.ntmps36
      go_wp2_with (first|((with_reducible refine ax (N:=1) rfl ?_);refine bX (N:=1) (cs:= #[.int .i64 G,.int .i64 I,.int .i64 K,.int .i64 O]) (t:=57) ?_;intro U hg eg V hb;have D:=A_ (aC (oB z) hb);have F:=A_ (V);have J:=A_ ((by rw[hg];exact(aA (oB z)):w.heap.size≤U));have X:=A_ ((by rw[hg];exact(aA (oB z)):w.heap.size≤U));clear z;have z:=D;have u:=F;have al:=J;have ak:=X;clear D F J X hb V hg;have b8:=cz u 0;have b9:=cz u 1;have b':=cz u 2;have ca:=cz u 3;have dc:=ar u.out 0;have dd:=ar u.out 1;have de:=ar u.out 2;have df:=ar u.out 3)|((with_reducible refine aZ (f:=59) rfl ?_);refine gL (some 5) Tryz.func59 #[.agg #[.int .i64 G,.int .i64 I,.int .i64 K,.int .i64 O]] ?_;(with_reducible refine(eC.c k G I K O true _ A2.out).mono ?_);rintro e eh ⟨rfl,hb⟩;refine⟨_,rfl,?_⟩;have D:=A_ (bb u hb);have F:=A_ (aC (oB z) hb);clear u z;have u:=D;have z:=F;clear D F;(try clear hb);(try clear hb2);(try clear hk);(try clear hi);have cb:=cz u 0;have cc:=cz u 1;have cd:=cz u 2;have ce:=cz u 3;have dg:=ar u.out 0;have dh:=ar u.out 1;have di:=ar u.out 2;have dj:=ar u.out 3)|((with_reducible refine ax (N:=26) rfl ?_);refine Kd.cx (Kd.int .i64) _ 3 ?hg (N:=26) ?hd (xs:=([I,K,O]:List Int)) (inner:=[.int .i64 I,.int .i64 K,.int .i64 O]) (ok:=fun _=>True) (bB:=fun _=>True) ?hr ?hp (fun _ hk=>hk) trivial (Below.refl _ _) (Nat.le_refl _) (by simp) ?_;(case hd=>rfl);(case hg=>rfl);(case hr=>first|(go_simp;done)|(go_simp;rfl));(case hp=>exact(aI.one (show Kd.M (Kd.int .i64) _ _ _ I [.int .i64 I]from rfl) (aI.one (show Kd.M (Kd.int .i64) _ _ _ K [.int .i64 K]from rfl) (aI.one (show Kd.M (Kd.int .i64) _ _ _ O [.int .i64 O]from rfl) (aI.none _ _)))));intro d8 ei aL hb ap aq;clear ap aq;(first|rw[←a9.out]at aL|(simp only[Int.reduceToNat]at aL;rw[←a9.out]at aL));have D:=A_ (Kd.bE aL (aA (oB z)));have F:=A_ (bb u hb);have J:=A_ (aC (oB z) hb);clear u z;have az:=D;have u:=F;have z:=J;clear D F J hb aL;obtain⟨bj,bD,bJ⟩:=Kd.bz az.out;subst bJ)|((with_reducible refine aZ (f:=33) rfl ?_);refine gL (some 27) Tryz.func33 #[.slice bj aW.length bD] ?_;(with_reducible refine(b_.c k _ _ aW ad _ ?a6 ?a7 be.out ?ek).mono ?_);(case ek=>exact⟨iN aS.out (oB z)⟩);(case a6=>repeat(first|exact(Kd.aY az.out).2.2|(with_reducible refine Kd.cZ ?_ _)|(with_reducible refine Kd.dn ?_ _)|(with_reducible refine Kd.dm ?_)));(case a7=>exact(Kd.aY az.out).2.1);rintro e ej ⟨rfl,hb⟩;refine⟨_,rfl,?_⟩;have D:=A_ (Kd.aV (oR az) hb);have F:=A_ (bb u hb);have J:=A_ (aC (oB z) hb);clear az u z;have az:=D;have u:=F;have z:=J;clear D F J;(try clear hb);(try clear hb2);(try clear hk);(try clear hi)))
      go_ret2;exact⟨eR,oB z⟩
     ·rw[ag aF]at H;exact absurd H (by simp)
    ·rw[ag c20]at H;have bn:(G==3)=false:=beq_eq_false_iff_ne.mpr c20;have bo:(G != 3)=true:=bne_iff_ne.mpr c20;by_cases c31:G=4
     ·rw[af c31]at H;have bp:(G==4)=true:=beq_iff_eq.mpr c31;have bq:(G != 4)=false:=bne_eq_false_iff_eq.mpr c31;clear c31;obtain⟨aX,aQ⟩:∃au:List Int,au=(([I,K]:List Int)):=⟨_,rfl⟩;replace H:((b_.f k aX).bind fun ai=>(if 6+ai.size≤9223372036854775807 then(some ((⟨#[107,110,111,99,107,32]⟩:ByteArray)++ai,true))else(none)))=some (r1,r2):=by first|(rw[aQ];with_reducible exact H)|(have Y:=(aG _ _).symm.trans H;rw[aQ];with_reducible exact Y)|(have Y:=(aG _ _).symm.trans H;with_reducible exact Y)|with_reducible exact H|(rw[aQ];exact H)|exact H
      have a_:=A_ aQ;clear aQ;replace H:=aD H;obtain⟨ai,a4,H⟩:=H
      (try dsimp only at H)
      have bf:=A_ a4;clear a4;by_cases aJ:6+ai.size≤9223372036854775807
      ·rw[af aJ]at H;have bT:=av aJ;have bU:decide (6+ai.size≤9223372036854775807)=true:=ah aJ
       try have bV:(9223372036854775807<6+ai.size)=False:=d_ (Nat.not_lt.2 aJ)
       simp only[Option.some.injEq,Prod.mk.injEq]at H;obtain⟨rfl,rfl⟩:=H;go_enter Tryz.func36,Tryz.ntmps36
       go_wp2_with (first|((with_reducible refine ax (N:=1) rfl ?_);refine bX (N:=1) (cs:= #[.int .i64 G,.int .i64 I,.int .i64 K,.int .i64 O]) (t:=57) ?_;intro U hg el V hb;have D:=A_ (aC (oB z) hb);have F:=A_ (V);have J:=A_ ((by rw[hg];exact(aA (oB z)):w.heap.size≤U));have X:=A_ ((by rw[hg];exact(aA (oB z)):w.heap.size≤U));clear z;have z:=D;have u:=F;have al:=J;have ak:=X;clear D F J X hb V hg;have cf:=cz u 0;have cg:=cz u 1;have ch:=cz u 2;have ci:=cz u 3;have dk:=ar u.out 0;have dl:=ar u.out 1;have dp:=ar u.out 2;have dq:=ar u.out 3)|((with_reducible refine aZ (f:=59) rfl ?_);refine gL (some 5) Tryz.func59 #[.agg #[.int .i64 G,.int .i64 I,.int .i64 K,.int .i64 O]] ?_;(with_reducible refine(eC.c k G I K O true _ A2.out).mono ?_);rintro e em ⟨rfl,hb⟩;refine⟨_,rfl,?_⟩;have D:=A_ (bb u hb);have F:=A_ (aC (oB z) hb);clear u z;have u:=D;have z:=F;clear D F;(try clear hb);(try clear hb2);(try clear hk);(try clear hi);have cj:=cz u 0;have ck:=cz u 1;have cl:=cz u 2;have cn:=cz u 3;have dr:=ar u.out 0;have dt:=ar u.out 1;have du:=ar u.out 2;have dv:=ar u.out 3)|((with_reducible refine ax (N:=35) rfl ?_);refine Kd.cx (Kd.int .i64) _ 3 ?hg (N:=35) ?hd (xs:=([I,K]:List Int)) (inner:=[.int .i64 I,.int .i64 K]) (ok:=fun _=>True) (bB:=fun _=>True) ?hr ?hp (fun _ hk=>hk) trivial (Below.refl _ _) (Nat.le_refl _) (by simp) ?_;(case hd=>rfl);(case hg=>rfl);(case hr=>first|(go_simp;done)|(go_simp;rfl));(case hp=>exact(aI.one (show Kd.M (Kd.int .i64) _ _ _ I [.int .i64 I]from rfl) (aI.one (show Kd.M (Kd.int .i64) _ _ _ K [.int .i64 K]from rfl) (aI.none _ _))));intro d9 en aM hb ap aq;clear ap aq;(first|rw[←a_.out]at aM|(simp only[Int.reduceToNat]at aM;rw[←a_.out]at aM));have D:=A_ (Kd.bE aM (aA (oB z)));have F:=A_ (bb u hb);have J:=A_ (aC (oB z) hb);clear u z;have aB:=D;have u:=F;have z:=J;clear D F J hb aM;obtain⟨bk,bF,bK⟩:=Kd.bz aB.out;subst bK)|((with_reducible refine aZ (f:=33) rfl ?_);refine gL (some 36) Tryz.func33 #[.slice bk aX.length bF] ?_;(with_reducible refine(b_.c k _ _ aX ai _ ?a6 ?a7 bf.out ?ek).mono ?_);(case ek=>exact⟨iN aS.out (oB z)⟩);(case a6=>repeat(first|exact(Kd.aY aB.out).2.2|(with_reducible refine Kd.cZ ?_ _)|(with_reducible refine Kd.dn ?_ _)|(with_reducible refine Kd.dm ?_)));(case a7=>exact(Kd.aY aB.out).2.1);rintro e eo ⟨rfl,hb⟩;refine⟨_,rfl,?_⟩;have D:=A_ (Kd.aV (oR aB) hb);have F:=A_ (bb u hb);have J:=A_ (aC (oB z) hb);clear aB u z;have aB:=D;have u:=F;have z:=J;clear D F J;(try clear hb);(try clear hb2);(try clear hk);(try clear hi)))
       go_ret2;exact⟨eR,oB z⟩
      ·rw[ag aJ]at H;exact absurd H (by simp)
     ·rw[ag c31]at H;have bp:(G==4)=false:=beq_eq_false_iff_ne.mpr c31;have bq:(G != 4)=true:=bne_iff_ne.mpr c31;by_cases am:G=5
      ·rw[af am]at H;have br:(G==5)=true:=beq_iff_eq.mpr am;have bs:(G != 5)=false:=bne_eq_false_iff_eq.mpr am;clear am;simp only[Option.some.injEq,Prod.mk.injEq]at H;obtain⟨rfl,rfl⟩:=H;go_enter Tryz.func36,Tryz.ntmps36
       go_wp2_with (first|((with_reducible refine ax (N:=1) rfl ?_);refine bX (N:=1) (cs:= #[.int .i64 G,.int .i64 I,.int .i64 K,.int .i64 O]) (t:=57) ?_;intro U hg ep V hb;have D:=A_ (aC (oB z) hb);have F:=A_ (V);have J:=A_ ((by rw[hg];exact(aA (oB z)):w.heap.size≤U));have X:=A_ ((by rw[hg];exact(aA (oB z)):w.heap.size≤U));clear z;have z:=D;have u:=F;have al:=J;have ak:=X;clear D F J X hb V hg;have co:=cz u 0;have cp:=cz u 1;have cq:=cz u 2;have cr:=cz u 3;have dw:=ar u.out 0;have dx:=ar u.out 1;have dy:=ar u.out 2;have dz:=ar u.out 3)|((with_reducible refine aZ (f:=59) rfl ?_);refine gL (some 5) Tryz.func59 #[.agg #[.int .i64 G,.int .i64 I,.int .i64 K,.int .i64 O]] ?_;(with_reducible refine(eC.c k G I K O true _ A2.out).mono ?_);rintro e er ⟨rfl,hb⟩;refine⟨_,rfl,?_⟩;have D:=A_ (bb u hb);have F:=A_ (aC (oB z) hb);clear u z;have u:=D;have z:=F;clear D F;(try clear hb);(try clear hb2);(try clear hk);(try clear hi);have ct:=cz u 0;have cu:=cz u 1;have cv:=cz u 2;have cw:=cz u 3;have dA:=ar u.out 0;have dB:=ar u.out 1;have dC:=ar u.out 2;have dD:=ar u.out 3))
       go_ret2;exact⟨eR,oB z⟩
      ·rw[ag am]at H;have br:(G==5)=false:=beq_eq_false_iff_ne.mpr am;have bs:(G != 5)=true:=bne_iff_ne.mpr am;by_cases ao:G=6
       ·rw[af ao]at H;have bt:(G==6)=true:=beq_iff_eq.mpr ao;have bu:(G != 6)=false:=bne_eq_false_iff_eq.mpr ao;clear ao;simp only[Option.some.injEq,Prod.mk.injEq]at H;obtain⟨rfl,rfl⟩:=H;go_enter Tryz.func36,Tryz.ntmps36
        go_wp2_with (first|((with_reducible refine ax (N:=1) rfl ?_);refine bX (N:=1) (cs:= #[.int .i64 G,.int .i64 I,.int .i64 K,.int .i64 O]) (t:=57) ?_;intro U hg es V hb;have D:=A_ (aC (oB z) hb);have F:=A_ (V);have J:=A_ ((by rw[hg];exact(aA (oB z)):w.heap.size≤U));have X:=A_ ((by rw[hg];exact(aA (oB z)):w.heap.size≤U));clear z;have z:=D;have u:=F;have al:=J;have ak:=X;clear D F J X hb V hg;have cy:=cz u 0;have cA:=cz u 1;have cB:=cz u 2;have cC:=cz u 3;have dE:=ar u.out 0;have dF:=ar u.out 1;have dG:=ar u.out 2;have dH:=ar u.out 3)|((with_reducible refine aZ (f:=59) rfl ?_);refine gL (some 5) Tryz.func59 #[.agg #[.int .i64 G,.int .i64 I,.int .i64 K,.int .i64 O]] ?_;(with_reducible refine(eC.c k G I K O true _ A2.out).mono ?_);rintro e eu ⟨rfl,hb⟩;refine⟨_,rfl,?_⟩;have D:=A_ (bb u hb);have F:=A_ (aC (oB z) hb);clear u z;have u:=D;have z:=F;clear D F;(try clear hb);(try clear hb2);(try clear hk);(try clear hi);have cD:=cz u 0;have cE:=cz u 1;have cF:=cz u 2;have cG:=cz u 3;have dI:=ar u.out 0;have dJ:=ar u.out 1;have dK:=ar u.out 2;have dL:=ar u.out 3))
        go_ret2;exact⟨eR,oB z⟩
       ·rw[ag ao]at H;have bt:(G==6)=false:=beq_eq_false_iff_ne.mpr ao;have bu:(G != 6)=true:=bne_iff_ne.mpr ao;obtain⟨a0,aR⟩:∃au:List Int,au=(([I]:List Int)):=⟨_,rfl⟩;replace H:((b_.f k a0).bind fun aj=>(if 6+aj.size≤9223372036854775807 then(some ((⟨#[104,101,97,114,100,32]⟩:ByteArray)++aj,true))else(none)))=some (r1,r2):=by first|(rw[aR];with_reducible exact H)|(have Y:=(aG _ _).symm.trans H;rw[aR];with_reducible exact Y)|(have Y:=(aG _ _).symm.trans H;with_reducible exact Y)|with_reducible exact H|(rw[aR];exact H)|exact H
        have bc:=A_ aR;clear aR;replace H:=aD H;obtain⟨aj,a5,H⟩:=H
        (try dsimp only at H)
        have bg:=A_ a5;clear a5;by_cases c53:6+aj.size≤9223372036854775807
        ·rw[af c53]at H;have bW:=av c53;have bY:decide (6+aj.size≤9223372036854775807)=true:=ah c53
         try have bZ:(9223372036854775807<6+aj.size)=False:=d_ (Nat.not_lt.2 c53)
         simp only[Option.some.injEq,Prod.mk.injEq]at H;obtain⟨rfl,rfl⟩:=H;go_enter Tryz.func36,Tryz.ntmps36
         go_wp2_with (first|((with_reducible refine ax (N:=1) rfl ?_);refine bX (N:=1) (cs:= #[.int .i64 G,.int .i64 I,.int .i64 K,.int .i64 O]) (t:=57) ?_;intro U hg ev V hb;have D:=A_ (aC (oB z) hb);have F:=A_ (V);have J:=A_ ((by rw[hg];exact(aA (oB z)):w.heap.size≤U));have X:=A_ ((by rw[hg];exact(aA (oB z)):w.heap.size≤U));clear z;have z:=D;have u:=F;have al:=J;have ak:=X;clear D F J X hb V hg;have cH:=cz u 0;have cI:=cz u 1;have cJ:=cz u 2;have cK:=cz u 3;have dM:=ar u.out 0;have dN:=ar u.out 1;have dO:=ar u.out 2;have dP:=ar u.out 3)|((with_reducible refine aZ (f:=59) rfl ?_);refine gL (some 5) Tryz.func59 #[.agg #[.int .i64 G,.int .i64 I,.int .i64 K,.int .i64 O]] ?_;(with_reducible refine(eC.c k G I K O true _ A2.out).mono ?_);rintro e ew ⟨rfl,hb⟩;refine⟨_,rfl,?_⟩;have D:=A_ (bb u hb);have F:=A_ (aC (oB z) hb);clear u z;have u:=D;have z:=F;clear D F;(try clear hb);(try clear hb2);(try clear hk);(try clear hi);have cL:=cz u 0;have cM:=cz u 1;have cN:=cz u 2;have cO:=cz u 3;have dQ:=ar u.out 0;have dR:=ar u.out 1;have dS:=ar u.out 2;have dT:=ar u.out 3)|((with_reducible refine ax (N:=44) rfl ?_);refine Kd.cx (Kd.int .i64) _ 3 ?hg (N:=44) ?hd (xs:=([I]:List Int)) (inner:=[.int .i64 I]) (ok:=fun _=>True) (bB:=fun _=>True) ?hr ?hp (fun _ hk=>hk) trivial (Below.refl _ _) (Nat.le_refl _) (by simp) ?_;(case hd=>rfl);(case hg=>rfl);(case hr=>first|(go_simp;done)|(go_simp;rfl));(case hp=>exact(aI.one (show Kd.M (Kd.int .i64) _ _ _ I [.int .i64 I]from rfl) (aI.none _ _)));intro d' ex aN hb ap aq;clear ap aq;(first|rw[←bc.out]at aN|(simp only[Int.reduceToNat]at aN;rw[←bc.out]at aN));have D:=A_ (Kd.bE aN (aA (oB z)));have F:=A_ (bb u hb);have J:=A_ (aC (oB z) hb);clear u z;have aE:=D;have u:=F;have z:=J;clear D F J hb aN;obtain⟨bm,bH,bL⟩:=Kd.bz aE.out;subst bL)|((with_reducible refine aZ (f:=33) rfl ?_);refine gL (some 45) Tryz.func33 #[.slice bm a0.length bH] ?_;(with_reducible refine(b_.c k _ _ a0 aj _ ?a6 ?a7 bg.out ?ek).mono ?_);(case ek=>exact⟨iN aS.out (oB z)⟩);(case a6=>repeat(first|exact(Kd.aY aE.out).2.2|(with_reducible refine Kd.cZ ?_ _)|(with_reducible refine Kd.dn ?_ _)|(with_reducible refine Kd.dm ?_)));(case a7=>exact(Kd.aY aE.out).2.1);rintro e ey ⟨rfl,hb⟩;refine⟨_,rfl,?_⟩;have D:=A_ (Kd.aV (oR aE) hb);have F:=A_ (bb u hb);have J:=A_ (aC (oB z) hb);clear aE u z;have aE:=D;have u:=F;have z:=J;clear D F J;(try clear hb);(try clear hb2);(try clear hk);(try clear hi)))
         go_ret2;exact⟨eR,oB z⟩
        ·rw[ag c53]at H;exact absurd H (by simp)
 ·replace c3:=Bool.eq_false_iff.mpr c3;subst c3;rw[ag (show¬(false=true)by decide)]at H;simp only[Option.some.injEq,Prod.mk.injEq]at H;obtain⟨rfl,rfl⟩:=H;go_enter Tryz.func36,Tryz.ntmps36
  go_wp2_with (first|((with_reducible refine ax (N:=1) rfl ?_);refine bX (N:=1) (cs:= #[.int .i64 G,.int .i64 I,.int .i64 K,.int .i64 O]) (t:=57) ?_;intro U hg ez V hb;have D:=A_ (aC (oB z) hb);have F:=A_ (V);have J:=A_ ((by rw[hg];exact(aA (oB z)):w.heap.size≤U));have X:=A_ ((by rw[hg];exact(aA (oB z)):w.heap.size≤U));clear z;have z:=D;have u:=F;have al:=J;have ak:=X;clear D F J X hb V hg;have cP:=cz u 0;have cQ:=cz u 1;have cR:=cz u 2;have cS:=cz u 3;have dU:=ar u.out 0;have dV:=ar u.out 1;have dW:=ar u.out 2;have dX:=ar u.out 3)|((with_reducible refine aZ (f:=59) rfl ?_);refine gL (some 5) Tryz.func59 #[.agg #[.int .i64 G,.int .i64 I,.int .i64 K,.int .i64 O]] ?_;(with_reducible refine(eC.c k G I K O false _ A2.out).mono ?_);rintro e cm ⟨rfl,hb⟩;refine⟨_,rfl,?_⟩;have D:=A_ (bb u hb);have F:=A_ (aC (oB z) hb);clear u z;have u:=D;have z:=F;clear D F;(try clear hb);(try clear hb2);(try clear hk);(try clear hi)))
  go_ret2;exact⟨eR,oB z⟩
end P
namespace P
open Go.Shelf Go.RowKit Go.Lib WW.bq
theorem ky (c:UInt8):∀l:List UInt8,Go.Lib.index l [c]=Go.Lib.indexByte l c
  |[]=>rfl
  |b::l=>by
   rw[Go.Lib.index,Go.Lib.indexByte,ky c l]
   have e:[c].isPrefixOf (b::l)=(b==c):=by
     show(c==b&&true)=_;rw[Bool.and_true,Bool.eq_iff_iff,beq_iff_eq,beq_iff_eq];exact eq_comm
   rw[e]
set_option maxHeartbeats 1000000 in
theorem Ck {P:Program} {ρ:Ren} (L:Lays.n146 P ρ) (hi9:(P.info? (ρ.t 9)).map (fun i=>(i.zero,i.size,i.bytes))=some (some (.string ByteArray.empty),1,16)) (s:ByteArray) (b:UInt8) (w:World) (hs:s.size<4294967281):
    Calls P (ρ.f 146) #[.string s,.string ⟨#[b]⟩] w fun e w'=>
      e= .returned (.slice (some ⟨w.heap.size,0,none⟩) (Go.Lib.countB s ⟨#[b]⟩+1) (Go.Lib.countB s ⟨#[b]⟩+1))∧w'=w.alloc (.cells ((Go.Lib.splitB ⟨#[b]⟩ 0 (Go.Lib.countB s ⟨#[b]⟩) s).map Value.string).toArray (ρ.t 9)):=by
  have h1:1≤(⟨#[b]⟩:ByteArray).size:=Nat.le_refl 1;have hle:=Go.Lib.countB_le ⟨#[b]⟩ h1 s.size s (Nat.le_refl _);have hlen:=Go.Lib.splitB_all ⟨#[b]⟩ h1 0 _ s rfl
  have z:∀(x:ByteArray) (c:Array Value),x.size≤s.size→Calls P (ρ.f 143) #[.string x,.string ⟨#[b]⟩] (w.alloc (.cells c (ρ.t 9))) fun e w'=>e= .returned (.int .i64 (Go.Lib.indexB x ⟨#[b]⟩))∧w'=w.alloc (.cells c (ρ.t 9)):=fun x c _=>
    (Any.strings_Index_one {L with} x b _).mono fun e w' ⟨he,hw⟩=>⟨by rw[he,←ky],hw⟩
  have u:Calls P (ρ.f 138) #[.string s,.string ⟨#[b]⟩] w fun e w'=>e= .returned (.int .i64 (Go.Lib.countB s ⟨#[b]⟩))∧w'=w:=by
    refine(Any.strings_Count_one {L with} s b w).mono fun e w' ⟨he,hw⟩=>⟨?_,hw⟩;rw[he];show _=Ending.returned (Value.int .i64 ((Go.Lib.count s.data.toList [b]:Nat):Int));rw[Go.Lib.count_one];rfl
  have c:=Any.strings_genSplit_core {L with} hi9 s ⟨#[b]⟩ 0 (-1) (Go.Lib.countB s ⟨#[b]⟩+1) w hs h1 (Nat.zero_le _) z u (by decide) (by decide) (by rw[af (by decide)];omega);rw[Nat.add_sub_cancel,hlen]at c;have e2:Go.Lib.cellsOf (Go.Lib.splitB ⟨#[b]⟩ 0 (Go.Lib.countB s ⟨#[b]⟩) s) (Go.Lib.countB s ⟨#[b]⟩+1)=((Go.Lib.splitB ⟨#[b]⟩ 0 (Go.Lib.countB s ⟨#[b]⟩) s).map Value.string).toArray:=by rw[←hlen];exact Go.Lib.cellsOf_full _
  rw[e2]at c;have t3:=L.t3;have t9:=L.t9;have t31:=L.t31;have a3:=L.a3;have a9:=L.a9;have a31:=L.a31;have z3:=L.z3;have v3:=L.v3;have z9:=L.z9;have v9:=L.v9;have z31:=L.z31;have v31:=L.v31;have D:∀args w,(callFunc (ρ.f 221) args).run P w= .ok (.enter (ρ.f 221) args) w:=enters_of L.f221 (by kernel_rfl) rfl;go_enter L.f146,Body.n146_ntmps ρ
  go_wp2_with (go_at_fn (ρ.f 221);refine c.mono ?_;rintro e w' ⟨rfl,hw⟩;rw[hw])
  go_ret;exact⟨rfl,rfl⟩
theorem Cn:Lays.n146 Tryz.prog vV:={vU with}
theorem Cj (s:ByteArray) (b:UInt8) (w:World) (hs:s.size<4294967281):
    Calls Tryz.prog 39 #[.string s,.string ⟨#[b]⟩] w fun e w'=>∃u:Value,e= .returned u∧Kd.R Kd.string 9 w' w.heap.size (fun _=>True) u (Go.Lib.splitB ⟨#[b]⟩ 0 (Go.Lib.countB s ⟨#[b]⟩) s)∧Below w.heap.size w w':=by
  refine(Ck Cn vU.i9 s b w hs).mono ?_;rintro e w' ⟨rfl,rfl⟩;have hlen:=Go.Lib.splitB_all ⟨#[b]⟩ (Nat.le_refl 1) 0 _ s rfl;have hle:=Go.Lib.countB_le ⟨#[b]⟩ (Nat.le_refl 1) s.size s (Nat.le_refl _);refine⟨_,rfl,Kd.ri ⟨by simp[encs],.inr ⟨w.heap.size,_,_,by rw[hlen],Nat.le_refl _,heap_alloc_new _ _,by omega,?_,?_,?_⟩⟩ (fun _ _=>trivial),cj (Below.refl _ _) _⟩
  · have:maxLen=9223372036854775807:=(by decide);omega
  · simp[hlen]
  · rw[Nat.mul_one,List.take_of_length_le (by simp[hlen])];rfl
end P
namespace P
open Go.RowKit WW.bq WW.cg WW.cd V
attribute [local go_sem] dN dO
attribute [local go_sem] cN cR cQ cU cP cT cO cS
def strings_Split.f (a0:ByteArray) (a1:ByteArray):Option ((List ByteArray)):=if a1.size=1∧a0.size<4294967281 then some (Go.Lib.splitB a1 0 (Go.Lib.countB a0 a1) a0)else none
theorem strings_Split.c (a0:ByteArray) (a1:ByteArray) (r:List ByteArray) (w:World) (h:strings_Split.f a0 a1=some r):
  Calls Tryz.prog 39 #[.string a0,.string a1] w fun e w'=>∃u:Value,e= .returned (u)∧Kd.R Kd.string 9 w' w.heap.size (fun _=>True) u r∧Below w.heap.size w w':=by
 unfold strings_Split.f at h;by_cases hc:a1.size=1∧a0.size<4294967281;rotate_left
 ·rw[ag hc]at h;cases h
 rw[af hc]at h;obtain rfl:=aH h;obtain⟨b,rfl⟩:=Go.Lib.one_byte a1 hc.1;exact Cj a0 b w hc.2
end P
namespace P
set_option maxHeartbeats 8000000
set_option maxRecDepth 100000
open Go.RowKit WW.bq WW.cg WW.cd
attribute [local go_sem] cN cR cQ cU cP cT cO cS
mutual
def dV.l0:Nat→ByteArray→Int→Option (List ByteArray×Bool)
 |0,_,_=>none
 |k+1,x0,u=>if u<(x0.size:Int)then(if 0≤u then(if(bt x0 u)<32 then(some (([]:List ByteArray),false))else(if(bt x0 u)>126 then(some (([]:List ByteArray),false))else(dV.l0 k x0 (wrap64 (u+1)))))else(none))else((strings_Split.f x0 (⟨#[32]⟩:ByteArray)).bind fun z=>(dV.l1 k (([]:List ByteArray)) z (z.length:Int) 0))
def dV.l1:Nat→List ByteArray→List ByteArray→Int→Int→Option (List ByteArray×Bool)
 |0,_,_,_,_=>none
 |k+1,D,z,F,u=>if u<F then(if 0≤u then(if u<(z.length:Int)then(if(bF ByteArray.empty z u).toList=([]:List UInt8)then(dV.l1 k D z F (wrap64 (u+1)))else(if D.length<8796093022208 then(dV.l1 k (D++[bF ByteArray.empty z u]) z F (wrap64 (u+1)))else(none)))else(none))else(none))else(if(D.length:Int)>24 then(some (([]:List ByteArray),false))else(some (D,true)))
end
def dV.f (k:Nat) (a0:ByteArray):Option (List ByteArray×Bool):=if(a0.size:Int)>600 then(some (([]:List ByteArray),false))else(dV.l0 k a0 0)
theorem dV.c (k:Nat) (a0:ByteArray) (r1:List ByteArray) (r2:Bool) (w:World) (h:dV.f k a0=some (r1,r2)):
  Calls Tryz.prog 40 #[.string a0] w fun e w'=>∃a2:Value,e= .returned (.tuple #[a2,.bool r2])∧Kd.R Kd.string 9 w' w.heap.size (fun _=>True) a2 r1∧Below w.heap.size w w':=by
 have F:=A_ (Below.refl w.heap.size w);have H:(if(a0.size:Int)>600 then(some (([]:List ByteArray),false))else(dV.l0 k a0 0))=some (r1,r2):=h;clear h;by_cases c2:(a0.size:Int)>600
 ·rw[af c2]at H;have au:decide (600<(a0.size:Int))=true:=ah c2;have aw:decide (600<a0.size)=true:=ah (by omega);clear c2;simp only[Option.some.injEq,Prod.mk.injEq]at H;obtain⟨rfl,rfl⟩:=H;go_enter Tryz.func40,Tryz.ntmps40;go_wp2;go_ret2;exact⟨_,eR,by first|exact Kd.bj _ _ _ _ _|exact Kd.jF _ _ _ _ _|exact Kd.jI _ _ _ _ _|exact Kd.jG _ _ _ _ _|exact Kd.jH _ _ _ _ _,oB F⟩
 ·rw[ag c2]at H;have au:decide (600<(a0.size:Int))=false:=ay c2;have aw:decide (600<a0.size)=false:=ay (by omega);clear c2;have H':=A_ H;clear H;go_enter Tryz.func40,Tryz.ntmps40;go_wp2
  go_loopg [4] k (fun ap v4 w'=>∃(u:Int),v4= .int .i64 u∧ae (dV.l0 ap a0 u=some (r1,r2))∧ae (ap≤k)∧ae (Below w.heap.size w w'))
  case atStart=>exact⟨(0),eS,H',⟨Nat.le_refl _⟩,⟨oB F⟩⟩
  case round=>
   clear H'
   try clear c2
   try clear au
   try clear aw
   try clear p2
   obtain⟨u,rfl,V,ai,F⟩:=hrel;cases gk with
   |zero=>exact absurd V.out (by simp[dV.l0])
   |succ k1=>
    have H:=V.out;clear V;simp only[dV.l0]at H;by_cases c3:u<(a0.size:Int)
    ·rw[af c3]at H;have aV:decide (u<(a0.size:Int))=true:=ah c3;clear c3;by_cases c4:0≤u
     ·rw[af c4]at H;have bf:decide (0≤u)=true:=ah c4;clear c4;by_cases c6:(bt a0 u)<32
      ·rw[af c6]at H;have aW:decide ((bt a0 u)<32)=true:=ah c6;clear c6;simp only[Option.some.injEq,Prod.mk.injEq]at H;obtain⟨rfl,rfl⟩:=H;have I:0≤(u:Int):=oD;have q5:u<(a0.size:Int):=oD;have aK:=gm a0 u;replace I:=av I;replace q5:=av q5;go_wp2;go_ret2;exact⟨_,eR,by first|exact Kd.bj _ _ _ _ _|exact Kd.jF _ _ _ _ _|exact Kd.jI _ _ _ _ _|exact Kd.jG _ _ _ _ _|exact Kd.jH _ _ _ _ _,oB F⟩
      ·rw[ag c6]at H;have aW:decide ((bt a0 u)<32)=false:=ay c6;clear c6;by_cases c8:(bt a0 u)>126
       ·rw[af c8]at H;have aX:decide (126<(bt a0 u))=true:=ah c8;clear c8;simp only[Option.some.injEq,Prod.mk.injEq]at H;obtain⟨rfl,rfl⟩:=H;have I:0≤(u:Int):=oD;have q5:u<(a0.size:Int):=oD;have aK:=gm a0 u;replace I:=av I;replace q5:=av q5;have Y:0≤(u:Int):=oD;have ad:u<(a0.size:Int):=oD;have a1:=gm a0 u;replace Y:=av Y;replace ad:=av ad;go_wp2;go_ret2;exact⟨_,eR,by first|exact Kd.bj _ _ _ _ _|exact Kd.jF _ _ _ _ _|exact Kd.jI _ _ _ _ _|exact Kd.jG _ _ _ _ _|exact Kd.jH _ _ _ _ _,oB F⟩
       ·rw[ag c8]at H;have aX:decide (126<(bt a0 u))=false:=ay c8;clear c8;have H':=A_ H;clear H;have I:0≤(u:Int):=oD;have q5:u<(a0.size:Int):=oD;have aK:=gm a0 u;replace I:=av I;replace q5:=av q5;have Y:0≤(u:Int):=oD;have ad:u<(a0.size:Int):=oD;have a1:=gm a0 u;replace Y:=av Y;replace ad:=av ad;go_wp2
        go_roundg k1
        case measure=>have:=ai.out;omega
        case rel=>exact⟨(wrap64 (u+1)),eS,H',⟨by have:=ai.out;omega⟩,⟨oB F⟩⟩
     ·rw[ag c4]at H;exact absurd H (by simp)
    ·rw[ag c3]at H;have aV:decide (u<(a0.size:Int))=false:=ay c3;clear c3;obtain⟨a3,am⟩:∃aM:List ByteArray,aM=(([]:List ByteArray)):=⟨_,rfl⟩;replace H:((strings_Split.f a0 (⟨#[32]⟩:ByteArray)).bind fun z=>(dV.l1 k1 a3 z (z.length:Int) 0))=some (r1,r2):=by first|(rw[am];with_reducible exact H)|(have U:=(aG _ _).symm.trans H;rw[am];with_reducible exact U)|(have U:=(aG _ _).symm.trans H;with_reducible exact U)|with_reducible exact H|(rw[am];exact H)|exact H
     have aT:=A_ am;clear am;replace H:=aD H;obtain⟨z,aN,H⟩:=H
     (try dsimp only at H)
     have a5:=A_ aN;clear aN;have H':=A_ H;clear H
     go_wp2_with (first|((with_reducible refine ax (N:=27) rfl ?_);refine Kd.cx Kd.string _ 9 ?hg (N:=27) ?hd (xs:=([]:List ByteArray)) (inner:=[]) (ok:=fun _=>True) (bB:=fun _=>True) ?hr ?hp (fun _ hk=>hk) trivial (Below.refl _ _) (Nat.le_refl _) (by simp) ?_;(case hd=>rfl);(case hg=>rfl);(case hr=>first|(go_simp;done)|(go_simp;rfl));(case hp=>exact(aI.none _ _));intro bD bJ al hb bo bp;clear bo bp;(first|rw[←aT.out]at al|(simp only[Int.reduceToNat]at al;rw[←aT.out]at al));have K:=A_ (Kd.bE al (aA (oB F)));have O:=A_ (aC (oB F) hb);clear F;have ak:=K;have F:=O;clear K O hb al)|((with_reducible refine aZ (f:=39) rfl ?_);refine gL (some 29) Tryz.func39 #[.string a0,.string (⟨#[32]⟩:ByteArray)] ?_;(with_reducible refine(strings_Split.c a0 (⟨#[32]⟩:ByteArray) z _ a5.out).mono ?_);rintro e bK ⟨bH,rfl,aJ,hb⟩;refine⟨_,rfl,?_⟩;have K:=A_ (Kd.dZ (oR ak) (Kd.dr aJ) hb);have O:=A_ (Kd.bE (Kd.fl aJ (Kd.en (oR ak))) (aA (oB F)));have aq:=A_ (aC (oB F) hb);clear ak F;have ak:=K;have aR:=O;have F:=aq;clear K O aq;(try clear hb);(try clear hb2);(try clear hk);(try clear hi);(try clear aJ);obtain⟨aQ,az,bg⟩:=Kd.bz aR.out;subst bg))
     go_loopg [5,31] k1 (fun ap v5 v31 w'=>∃(G:List ByteArray) (D:Int),v31= .int .i64 D∧ae (dV.l1 ap G z (z.length:Int) D=some (r1,r2))∧ae (ap≤k1)∧ae (Kd.R Kd.string 9 w' w.heap.size (fun k_=>some k_≠((.slice aQ z.length az):Value).ownBlock) v5 G)∧ae (Kd.R Kd.string 9 w' w.heap.size (fun k_=>some k_≠(v5:Value).ownBlock) (.slice aQ z.length az) z)∧ae (Below w.heap.size w w'))
     case atStart=>exact⟨(a3),(0),eS,H',⟨Nat.le_refl _⟩,⟨by(with_reducible repeat(first|apply Kd.bm|apply Kd.br|apply Kd.a8));exact Kd.bh ak.out (fun _ hk=>hk.2)⟩,⟨by(with_reducible repeat(first|apply Kd.bm|apply Kd.br|apply Kd.a8));exact Kd.bh aR.out (fun _ hk=>hk.2)⟩,⟨oB F⟩⟩
     case round=>
      clear H'
      try clear c2
      try clear au
      try clear aw
      try clear p2
      try clear c3
      try clear aV
      try clear c4
      try clear bf
      try clear I
      try clear q5
      try clear aK
      try clear c6
      try clear aW
      try clear bC
      try clear Y
      try clear ad
      try clear a1
      try clear c8
      try clear aX
      try clear p2
      try clear I
      try clear Y
      try clear q5
      try clear ad
      obtain⟨G,D,rfl,V,ar,aj,J,F⟩:=hrel;cases gk with
      |zero=>exact absurd V.out (by simp[dV.l1])
      |succ k2=>
       have H:=V.out;clear V;simp only[dV.l1]at H;by_cases c14:D<(z.length:Int)
       ·rw[af c14]at H;have a_:decide (D<(z.length:Int))=true:=ah c14;clear c14;by_cases c15:0≤D
        ·rw[af c15]at H;have bv:decide (0≤D)=true:=ah c15;clear c15;by_cases c16:D<(z.length:Int)
         ·rw[af c16]at H;have bw:decide (D<(z.length:Int))=true:=ah c16;clear c16;by_cases c17:(bF ByteArray.empty z D).toList=([]:List UInt8)
          ·rw[af c17]at H;have bb:((bF ByteArray.empty z D).toList==([]:List UInt8))=true:=beq_iff_eq.mpr c17;have bc:((bF ByteArray.empty z D).toList != ([]:List UInt8))=false:=bne_eq_false_iff_eq.mpr c17;clear c17;have H':=A_ H;clear H;have X:0≤(D:Int):=oD;have Z:D<(z.length:Int):=oD;obtain⟨aU,aE,bq⟩:=Kd.ig (Kd.aY J.out).2.2 D X Z;cases aE;replace X:=av X;replace Z:=av Z;go_wp2
           go_roundg k2
           case measure=>have:=ai.out;have:=ar.out;omega
           case rel=>exact⟨(G),(wrap64 (D+1)),eS,H',⟨by have:=ai.out;have:=ar.out;omega⟩,⟨oR aj⟩,⟨oR J⟩,⟨oB F⟩⟩
          ·rw[ag c17]at H;have bb:((bF ByteArray.empty z D).toList==([]:List UInt8))=false:=beq_eq_false_iff_ne.mpr c17;have bc:((bF ByteArray.empty z D).toList != ([]:List UInt8))=true:=bne_iff_ne.mpr c17;by_cases c18:G.length<8796093022208
           ·rw[af c18]at H;have a7:=A_ c18;clear c18;obtain⟨a4,ao⟩:∃aM:List ByteArray,aM=(G++[bF ByteArray.empty z D]):=⟨_,rfl⟩;replace H:(dV.l1 k2 a4 z (z.length:Int) (wrap64 (D+1)))=some (r1,r2):=by first|(rw[ao];with_reducible exact H)|(have U:=(aG _ _).symm.trans H;rw[ao];with_reducible exact U)|(have U:=(aG _ _).symm.trans H;with_reducible exact U)|with_reducible exact H|(rw[ao];exact H)|exact H
            have a9:=A_ ao;clear ao;have H':=A_ H;clear H;have X:0≤(D:Int):=oD;have Z:D<(z.length:Int):=oD;obtain⟨aU,aE,bq⟩:=Kd.ig (Kd.aY J.out).2.2 D X Z;cases aE;replace X:=av X;replace Z:=av Z
            go_wp2_with (first|((with_reducible refine dP (b:= .append) (xs:= #[.tmp 37,.tmp 39]) rfl ?_);at_builtin;refine Kd.eF Kd.string (w0:=w) w.heap.size rfl (.tmp 37) (.tmp 39) 38 9 (.string ⟨#[]⟩) 16 rfl Tryz.underlying38 ld rfl (by decide) (by omega) u5 G (bF ByteArray.empty z D) [.string (bF ByteArray.empty z D)] (fun k_=>some k_≠(.slice (some aU) z.length az:Value).ownBlock) (fun _=>False) rfl rfl ?aP (fun _ hk=>hk.elim) ?aF ?aO ?aB ?aS ?aL ?_;(case aP=>exact rfl);(case aB=>exact(oB F));(case aF=>exact(fun k_ hk=>Kd.fresh' (Kd.en (oR J)) k_ hk));(case aO=>exact(oR aj));(case aS=>exact(aA (oB F)));(case aL=>have:=a7.out;omega);intro bI bL ho hb hg hat;rw[←a9.out]at ho;have K:=A_ (Kd.o9 (ok:=(fun _=>True)) (by(with_reducible repeat(first|apply Kd.bm|apply Kd.br|apply Kd.a8));exact Kd.bh J.out (fun _ hk=>⟨trivial,hk⟩)) hg hat);have O:=A_ (hb);have aq:=A_ (ho);clear J F aj;have J:=K;have F:=O;have a6:=aq;clear K O aq ho hb hg hat))
            go_roundg k2
            case measure=>have:=ai.out;have:=ar.out;omega
            case rel=>exact⟨(a4),(wrap64 (D+1)),eS,H',⟨by have:=ai.out;have:=ar.out;omega⟩,⟨oR a6⟩,⟨by(with_reducible repeat(first|apply Kd.bm|apply Kd.br|apply Kd.a8));exact Kd.bh J.out (fun _ hk=>hk.2)⟩,⟨oB F⟩⟩
           ·rw[ag c18]at H;exact absurd H (by simp)
         ·rw[ag c16]at H;exact absurd H (by simp)
        ·rw[ag c15]at H;exact absurd H (by simp)
       ·rw[ag c14]at H;have a_:decide (D<(z.length:Int))=false:=ay c14;clear c14;by_cases c20:(G.length:Int)>24
        ·rw[af c20]at H;have bd:decide (24<(G.length:Int))=true:=ah c20;have be:decide (24<G.length)=true:=ah (by omega);clear c20;simp only[Option.some.injEq,Prod.mk.injEq]at H;obtain⟨rfl,rfl⟩:=H;obtain⟨bs,bx,bk⟩:=Kd.bz aj.out;subst bk;go_wp2;go_ret2;exact⟨_,eR,by first|exact Kd.bj _ _ _ _ _|exact Kd.jF _ _ _ _ _|exact Kd.jI _ _ _ _ _|exact Kd.jG _ _ _ _ _|exact Kd.jH _ _ _ _ _,oB F⟩
        ·rw[ag c20]at H;have bd:decide (24<(G.length:Int))=false:=ay c20;have be:decide (24<G.length)=false:=ay (by omega);clear c20;simp only[Option.some.injEq,Prod.mk.injEq]at H;obtain⟨rfl,rfl⟩:=H;obtain⟨bu,bA,bn⟩:=Kd.bz aj.out;subst bn;go_wp2;go_ret2;exact⟨_,eR,by(with_reducible repeat(first|apply Kd.bm|apply Kd.br|apply Kd.a8));exact Kd.bh aj.out (fun _ hk=>trivial),oB F⟩
def fC.l0:Nat→ByteArray→Int→List Int→Int→Option (ByteArray×Bool)
 |0,_,_,_,_=>none
 |k+1,z,G,D,u=>if u<G then(if z.size+1≤9223372036854775807 then(if 0≤u then(if u<(D.length:Int)then((cY.f k (rd D u)).bind fun F=>(if(z++(⟨#[32]⟩:ByteArray)).size+F.size≤9223372036854775807 then(fC.l0 k ((z++(⟨#[32]⟩:ByteArray))++F) G D (wrap64 (u+1)))else(none)))else(none))else(none))else(none))else(some (z,true))
def fC.f (k:Nat) (u:Int) (z:Int) (D:Int) (F:Int):Option (ByteArray×Bool):=(fL.f k u z D F).bind fun I=>(if I=true then((some (([(⟨#[]⟩:ByteArray),(⟨#[116,117,110,101]⟩:ByteArray),(⟨#[119,97,114,109]⟩:ByteArray),(⟨#[102,97,117,108,116]⟩:ByteArray),(⟨#[107,110,111,99,107]⟩:ByteArray),(⟨#[114,101,112,97,105,114]⟩:ByteArray),(⟨#[108,101,102,116]⟩:ByteArray),(⟨#[104,101,97,114,100]⟩:ByteArray)]:List ByteArray):List ByteArray)).bind fun G=>(if 0≤u then(if u<(G.length:Int)then((some (([0,0,1,3,2,0,0,1]:List Int):List Int)).bind fun H=>(if u<(H.length:Int)then(fC.l0 k (bF ByteArray.empty G u) (rd H u) (([z,D,F]:List Int)) 0)else(none)))else(none))else(none)))else(some ((⟨#[]⟩:ByteArray),false)))
theorem fC.c (k:Nat) (z:Int) (I:Int) (J:Int) (K:Int) (r1:ByteArray) (r2:Bool) (w:World) (h:fC.f k z I J K=some (r1,r2)):
  Calls Tryz.prog 90 #[.agg #[.int .i64 z,.int .i64 I,.int .i64 J,.int .i64 K]] w fun e w'=>e= .returned (.tuple #[.string r1,.bool r2])∧Below w.heap.size w w':=by
 have cq:=Tryz.underlying57;have D:=A_ (Below.refl w.heap.size w);have H:((fL.f k z I J K).bind fun aW=>(if aW=true then((some (([(⟨#[]⟩:ByteArray),(⟨#[116,117,110,101]⟩:ByteArray),(⟨#[119,97,114,109]⟩:ByteArray),(⟨#[102,97,117,108,116]⟩:ByteArray),(⟨#[107,110,111,99,107]⟩:ByteArray),(⟨#[114,101,112,97,105,114]⟩:ByteArray),(⟨#[108,101,102,116]⟩:ByteArray),(⟨#[104,101,97,114,100]⟩:ByteArray)]:List ByteArray):List ByteArray)).bind fun ad=>(if 0≤z then(if z<(ad.length:Int)then((some (([0,0,1,3,2,0,0,1]:List Int):List Int)).bind fun V=>(if z<(V.length:Int)then(fC.l0 k (bF ByteArray.empty ad z) (rd V z) (([I,J,K]:List Int)) 0)else(none)))else(none))else(none)))else(some ((⟨#[]⟩:ByteArray),false))))=some (r1,r2):=h;clear h;replace H:=aD H;obtain⟨aW,aX,H⟩:=H
 (try dsimp only at H)
 have A2:=A_ aX;clear aX;by_cases c3:aW=true
 ·subst c3;rw[af rfl]at H;obtain⟨ad,aF⟩:∃aL:List ByteArray,aL=(([(⟨#[]⟩:ByteArray),(⟨#[116,117,110,101]⟩:ByteArray),(⟨#[119,97,114,109]⟩:ByteArray),(⟨#[102,97,117,108,116]⟩:ByteArray),(⟨#[107,110,111,99,107]⟩:ByteArray),(⟨#[114,101,112,97,105,114]⟩:ByteArray),(⟨#[108,101,102,116]⟩:ByteArray),(⟨#[104,101,97,114,100]⟩:ByteArray)]:List ByteArray)):=⟨_,rfl⟩;replace H:(if 0≤z then(if z<(ad.length:Int)then((some (([0,0,1,3,2,0,0,1]:List Int):List Int)).bind fun V=>(if z<(V.length:Int)then(fC.l0 k (bF ByteArray.empty ad z) (rd V z) (([I,J,K]:List Int)) 0)else(none)))else(none))else(none))=some (r1,r2):=by first|(rw[aF];with_reducible exact H)|(have Y:=(aG _ _).symm.trans H;rw[aF];with_reducible exact Y)|(have Y:=(aG _ _).symm.trans H;with_reducible exact Y)|with_reducible exact H|(rw[aF];exact H)|exact H
  have a2:=A_ aF;clear aF;by_cases c4:0≤z
  ·rw[af c4]at H;have be:decide (0≤z)=true:=ah c4;clear c4;by_cases c5:z<(ad.length:Int)
   ·rw[af c5]at H;have bf:decide (z<(ad.length:Int))=true:=ah c5;clear c5;obtain⟨V,aJ⟩:∃aL:List Int,aL=(([0,0,1,3,2,0,0,1]:List Int)):=⟨_,rfl⟩;replace H:(if z<(V.length:Int)then(fC.l0 k (bF ByteArray.empty ad z) (rd V z) (([I,J,K]:List Int)) 0)else(none))=some (r1,r2):=by first|(rw[aJ];with_reducible exact H)|(have Y:=(aG _ _).symm.trans H;rw[aJ];with_reducible exact Y)|(have Y:=(aG _ _).symm.trans H;with_reducible exact Y)|with_reducible exact H|(rw[aJ];exact H)|exact H
    have a3:=A_ aJ;clear aJ;by_cases c6:z<(V.length:Int)
    ·rw[af c6]at H;have bg:decide (z<(V.length:Int))=true:=ah c6;clear c6;obtain⟨aj,aK⟩:∃aL:List Int,aL=(([I,J,K]:List Int)):=⟨_,rfl⟩;replace H:(fC.l0 k (bF ByteArray.empty ad z) (rd V z) aj 0)=some (r1,r2):=by first|(rw[aK];with_reducible exact H)|(have Y:=(aG _ _).symm.trans H;rw[aK];with_reducible exact Y)|(have Y:=(aG _ _).symm.trans H;with_reducible exact Y)|with_reducible exact H|(rw[aK];exact H)|exact H
     have a4:=A_ aK;clear aK;have H':=A_ H;clear H;go_enter Tryz.func90,Tryz.ntmps90
     go_wp2_with (first|((with_reducible refine ax (N:=1) rfl ?_);refine bX (N:=1) (cs:= #[.int .i64 z,.int .i64 I,.int .i64 J,.int .i64 K]) (t:=57) ?_;intro ap hg w7 au hb;have F:=A_ (aC (oB D) hb);have G:=A_ (au);have O:=A_ ((by rw[hg];exact(aA (oB D)):w.heap.size≤ap));have Z:=A_ ((by rw[hg];exact(aA (oB D)):w.heap.size≤ap));clear D;have D:=F;have u:=G;have a_:=O;have a9:=Z;clear F G O Z hb au hg;have bD:=cz u 0;have bH:=cz u 1;have bI:=cz u 2;have bJ:=cz u 3;have bT:=ar u.out 0;have bU:=ar u.out 1;have bV:=ar u.out 2;have bW:=ar u.out 3)|((with_reducible refine aZ (f:=73) rfl ?_);refine gL (some 9) Tryz.func73 #[.agg #[.int .i64 z,.int .i64 I,.int .i64 J,.int .i64 K]] ?_;(with_reducible refine(fL.c k z I J K true _ A2.out).mono ?_);rintro e cG ⟨rfl,hb⟩;refine⟨_,rfl,?_⟩;have F:=A_ (bb u hb);have G:=A_ (aC (oB D) hb);clear u D;have u:=F;have D:=G;clear F G;(try clear hb);(try clear hb2);(try clear hk);(try clear hi))|((with_reducible refine ax (N:=11) rfl ?_);refine Kd.cx Kd.string _ 9 ?hg (N:=11) ?hd (xs:=([(⟨#[]⟩:ByteArray),(⟨#[116,117,110,101]⟩:ByteArray),(⟨#[119,97,114,109]⟩:ByteArray),(⟨#[102,97,117,108,116]⟩:ByteArray),(⟨#[107,110,111,99,107]⟩:ByteArray),(⟨#[114,101,112,97,105,114]⟩:ByteArray),(⟨#[108,101,102,116]⟩:ByteArray),(⟨#[104,101,97,114,100]⟩:ByteArray)]:List ByteArray)) (inner:=[.string (⟨#[]⟩:ByteArray),.string (⟨#[116,117,110,101]⟩:ByteArray),.string (⟨#[119,97,114,109]⟩:ByteArray),.string (⟨#[102,97,117,108,116]⟩:ByteArray),.string (⟨#[107,110,111,99,107]⟩:ByteArray),.string (⟨#[114,101,112,97,105,114]⟩:ByteArray),.string (⟨#[108,101,102,116]⟩:ByteArray),.string (⟨#[104,101,97,114,100]⟩:ByteArray)]) (ok:=fun _=>True) (bB:=fun _=>True) ?hr ?hp (fun _ hk=>hk) trivial (Below.refl _ _) (Nat.le_refl _) (by simp) ?_;(case hd=>rfl);(case hg=>rfl);(case hr=>first|(go_simp;done)|(go_simp;rfl));(case hp=>exact(aI.one (show Kd.M Kd.string _ _ _ (⟨#[]⟩:ByteArray) [.string (⟨#[]⟩:ByteArray)]from rfl) (aI.one (show Kd.M Kd.string _ _ _ (⟨#[116,117,110,101]⟩:ByteArray) [.string (⟨#[116,117,110,101]⟩:ByteArray)]from rfl) (aI.one (show Kd.M Kd.string _ _ _ (⟨#[119,97,114,109]⟩:ByteArray) [.string (⟨#[119,97,114,109]⟩:ByteArray)]from rfl) (aI.one (show Kd.M Kd.string _ _ _ (⟨#[102,97,117,108,116]⟩:ByteArray) [.string (⟨#[102,97,117,108,116]⟩:ByteArray)]from rfl) (aI.one (show Kd.M Kd.string _ _ _ (⟨#[107,110,111,99,107]⟩:ByteArray) [.string (⟨#[107,110,111,99,107]⟩:ByteArray)]from rfl) (aI.one (show Kd.M Kd.string _ _ _ (⟨#[114,101,112,97,105,114]⟩:ByteArray) [.string (⟨#[114,101,112,97,105,114]⟩:ByteArray)]from rfl) (aI.one (show Kd.M Kd.string _ _ _ (⟨#[108,101,102,116]⟩:ByteArray) [.string (⟨#[108,101,102,116]⟩:ByteArray)]from rfl) (aI.one (show Kd.M Kd.string _ _ _ (⟨#[104,101,97,114,100]⟩:ByteArray) [.string (⟨#[104,101,97,114,100]⟩:ByteArray)]from rfl) (aI.none _ _))))))))));intro cw cA aB hb aw az;clear aw az;(first|rw[←a2.out]at aB|(simp only[Int.reduceToNat]at aB;rw[←a2.out]at aB));have F:=A_ (Kd.bE aB (aA (oB D)));have G:=A_ (bb u hb);have O:=A_ (aC (oB D) hb);clear u D;have ai:=F;have u:=G;have D:=O;clear F G O hb aB;have bs:=cz u 0;have bt:=cz u 1;have bu:=cz u 2;have bv:=cz u 3;have bK:=ar u.out 0;have bL:=ar u.out 1;have bM:=ar u.out 2;have bO:=ar u.out 3;obtain⟨b1,cf,bo⟩:=Kd.bz ai.out;subst bo;have aO:0≤(z:Int):=oD;have aQ:z<(ad.length:Int):=oD;obtain⟨b4,bj,bY⟩:=Kd.ig (Kd.aY ai.out).2.2 z aO aQ;cases bj;replace aO:=av aO;replace aQ:=av aQ)|((with_reducible refine ax (N:=16) rfl ?_);refine Kd.cx (Kd.int .i64) _ 3 ?hg (N:=16) ?hd (xs:=([0,0,1,3,2,0,0,1]:List Int)) (inner:=[.int .i64 0,.int .i64 0,.int .i64 1,.int .i64 3,.int .i64 2,.int .i64 0,.int .i64 0,.int .i64 1]) (ok:=fun _=>True) (bB:=fun _=>True) ?hr ?hp (fun _ hk=>hk) trivial (Below.refl _ _) (Nat.le_refl _) (by simp) ?_;(case hd=>rfl);(case hg=>rfl);(case hr=>first|(go_simp;done)|(go_simp;rfl));(case hp=>exact(aI.one (show Kd.M (Kd.int .i64) _ _ _ 0 [.int .i64 0]from rfl) (aI.one (show Kd.M (Kd.int .i64) _ _ _ 0 [.int .i64 0]from rfl) (aI.one (show Kd.M (Kd.int .i64) _ _ _ 1 [.int .i64 1]from rfl) (aI.one (show Kd.M (Kd.int .i64) _ _ _ 3 [.int .i64 3]from rfl) (aI.one (show Kd.M (Kd.int .i64) _ _ _ 2 [.int .i64 2]from rfl) (aI.one (show Kd.M (Kd.int .i64) _ _ _ 0 [.int .i64 0]from rfl) (aI.one (show Kd.M (Kd.int .i64) _ _ _ 0 [.int .i64 0]from rfl) (aI.one (show Kd.M (Kd.int .i64) _ _ _ 1 [.int .i64 1]from rfl) (aI.none _ _))))))))));intro cy cB aE hb aw az;clear aw az;(first|rw[←a3.out]at aE|(simp only[Int.reduceToNat]at aE;rw[←a3.out]at aE));have F:=A_ (Kd.aV (oR ai) hb);have G:=A_ (Kd.bE aE (aA (oB D)));have O:=A_ (bb u hb);have Z:=A_ (aC (oB D) hb);clear ai u D;have ai:=F;have am:=G;have u:=O;have D:=Z;clear F G O Z hb aE;have bw:=cz u 0;have bx:=cz u 1;have bA:=cz u 2;have bC:=cz u 3;have bP:=ar u.out 0;have bQ:=ar u.out 1;have bR:=ar u.out 2;have bS:=ar u.out 3;obtain⟨b2,cg,bp⟩:=Kd.bz am.out;subst bp;have aP:0≤(z:Int):=oD;have aR:z<(V.length:Int):=oD;obtain⟨b5,bk,bZ⟩:=Kd.dG (Kd.aY am.out).2.2 z aP aR;cases bk;replace aP:=av aP;replace aR:=av aR)|((with_reducible refine ax (N:=27) rfl ?_);refine Kd.cx (Kd.int .i64) _ 3 ?hg (N:=27) ?hd (xs:=([I,J,K]:List Int)) (inner:=[.int .i64 I,.int .i64 J,.int .i64 K]) (ok:=fun _=>True) (bB:=fun _=>True) ?hr ?hp (fun _ hk=>hk) trivial (Below.refl _ _) (Nat.le_refl _) (by simp) ?_;(case hd=>rfl);(case hg=>rfl);(case hr=>first|(go_simp;done)|(go_simp;rfl));(case hp=>exact(aI.one (show Kd.M (Kd.int .i64) _ _ _ I [.int .i64 I]from rfl) (aI.one (show Kd.M (Kd.int .i64) _ _ _ J [.int .i64 J]from rfl) (aI.one (show Kd.M (Kd.int .i64) _ _ _ K [.int .i64 K]from rfl) (aI.none _ _)))));intro b0 cC aq hb aw az;clear aw az;(first|rw[←a4.out]at aq|(simp only[Int.reduceToNat]at aq;rw[←a4.out]at aq));have F:=A_ (Kd.aV (oR ai) hb);have G:=A_ (Kd.dZ (oR am) (Kd.dr aq) hb);have O:=A_ (Kd.bE (Kd.fl aq (Kd.en (oR am))) (aA (oB D)));have Z:=A_ (bb u hb);have a6:=A_ (aC (oB D) hb);clear ai am u D;have ai:=F;have am:=G;have bc:=O;have u:=Z;have D:=a6;clear F G O Z a6 hb aq))
     go_loopg [4,7] k (fun a5 v4 v7 w'=>∃(X:ByteArray) (U:Int),v4= .string X∧v7= .int .i64 U∧ae (fC.l0 a5 X (rd V z) aj U=some (r1,r2))∧ae (a5≤k)∧ae (Kd.R (Kd.int .i64) 3 w' w.heap.size (fun _=>True) b0 aj)∧ae (w'.heap[ap]? =some (.cells #[.int .i64 z,.int .i64 I,.int .i64 J,.int .i64 K] 57 (0,0)))∧ae (Below w.heap.size w w'))
     case atStart=>exact⟨(bF ByteArray.empty ad z),(0),eS,eS,H',⟨Nat.le_refl _⟩,⟨by(with_reducible repeat(first|apply Kd.bm|apply Kd.br|apply Kd.a8));exact Kd.bh bc.out (fun _ hk=>trivial)⟩,⟨oK u⟩,⟨oB D⟩⟩
     case round=>
      clear H'
      try clear p1
      try clear q1
      try clear hx1
      try clear p2
      try clear c3
      try clear c4
      try clear be
      try clear c5
      try clear bf
      try clear c6
      try clear bg
      try clear c7
      try clear c9
      try clear cu
      try clear cv
      try clear cr
      try clear bs
      try clear bt
      try clear bu
      try clear bv
      try clear bw
      try clear bx
      try clear bA
      try clear bC
      try clear bD
      try clear bH
      try clear bI
      try clear bJ
      try clear bK
      try clear bL
      try clear bM
      try clear bO
      try clear bP
      try clear bQ
      try clear bR
      try clear bS
      try clear bT
      try clear bU
      try clear bV
      try clear bW
      try clear bY
      try clear bZ
      try clear aO
      try clear aP
      try clear aQ
      try clear aR
      obtain⟨X,U,rfl,rfl,aS,a1,ao,u,D⟩:=hrel;cases gk with
      |zero=>exact absurd aS.out (by simp[fC.l0])
      |succ k1=>
       have H:=aS.out;clear aS;simp only[fC.l0]at H;by_cases c20:U<(rd V z)
       ·rw[af c20]at H;have bd:decide (U<(rd V z))=true:=ah c20;clear c20;by_cases c21:X.size+1≤9223372036854775807
        ·rw[af c21]at H;have b7:=av c21;have b8:decide (X.size+1≤9223372036854775807)=true:=ah c21
         try have b9:(9223372036854775807<X.size+1)=False:=d_ (Nat.not_lt.2 c21)
         by_cases aM:0≤U
         ·rw[af aM]at H;have b_:decide (0≤U)=true:=ah aM;clear aM;by_cases aN:U<(aj.length:Int)
          ·rw[af aN]at H;have b':decide (U<(aj.length:Int))=true:=ah aN;clear aN;replace H:=aD H;obtain⟨al,a0,H⟩:=H
           (try dsimp only at H)
           have a7:=A_ a0;clear a0;by_cases ak:(X++(⟨#[32]⟩:ByteArray)).size+al.size≤9223372036854775807
           ·rw[af ak]at H;have ca:=av ak;have cb:decide ((X++(⟨#[32]⟩:ByteArray)).size+al.size≤9223372036854775807)=true:=ah ak
            try have cc:(9223372036854775807<(X++(⟨#[32]⟩:ByteArray)).size+al.size)=False:=d_ (Nat.not_lt.2 ak)
            have cd:(9223372036854775807<X.size+1+al.size)=False:=(by have:=ak;rw[ByteArray.size_append]at this;exact d_ (Nat.not_lt.2 this));have ce:(X.size+1+al.size≤9223372036854775807)=True:=(by have:=ak;rw[ByteArray.size_append]at this;exact av this);have H':=A_ H;clear H;obtain⟨b3,ch,bq⟩:=Kd.bz ao.out;subst bq;have aT:0≤(U:Int):=oD;have aU:U<(aj.length:Int):=oD;obtain⟨b6,bn,ct⟩:=Kd.dG (Kd.aY ao.out).2.2 U aT aU;cases bn;replace aT:=av aT;replace aU:=av aU
            go_wp2_with (first|((with_reducible refine aZ (f:=35) rfl ?_);refine gL (some 39) Tryz.func35 #[.int .i64 (rd aj U)] ?_;(with_reducible refine(cY.c k1 (rd aj U) al _ a7.out).mono ?_);rintro e cD ⟨rfl,hb⟩;refine⟨_,rfl,?_⟩;have F:=A_ (Kd.aV (oR ao) hb);have G:=A_ (bb u hb);have O:=A_ (aC (oB D) hb);clear ao u D;have ao:=F;have u:=G;have D:=O;clear F G O;(try clear hb);(try clear hb2);(try clear hk);(try clear hi)))
            go_roundg k1
            case measure=>have:=a1.out;omega
            case rel=>exact⟨((X++(⟨#[32]⟩:ByteArray))++al),(wrap64 (U+1)),eS,eS,H',⟨by have:=a1.out;omega⟩,⟨oR ao⟩,⟨oK u⟩,⟨oB D⟩⟩
           ·rw[ag ak]at H;exact absurd H (by simp)
          ·rw[ag aN]at H;exact absurd H (by simp)
         ·rw[ag aM]at H;exact absurd H (by simp)
        ·rw[ag c21]at H;exact absurd H (by simp)
       ·rw[ag c20]at H;have bd:decide (U<(rd V z))=false:=ay c20;clear c20;simp only[Option.some.injEq,Prod.mk.injEq]at H;obtain⟨rfl,rfl⟩:=H;go_wp2;go_ret2;exact⟨eR,oB D⟩
    ·rw[ag c6]at H;exact absurd H (by simp)
   ·rw[ag c5]at H;exact absurd H (by simp)
  ·rw[ag c4]at H;exact absurd H (by simp)
 ·replace c3:=Bool.eq_false_iff.mpr c3;subst c3;rw[ag (show¬(false=true)by decide)]at H;simp only[Option.some.injEq,Prod.mk.injEq]at H;obtain⟨rfl,rfl⟩:=H;go_enter Tryz.func90,Tryz.ntmps90
  go_wp2_with (first|((with_reducible refine ax (N:=1) rfl ?_);refine bX (N:=1) (cs:= #[.int .i64 z,.int .i64 I,.int .i64 J,.int .i64 K]) (t:=57) ?_;intro ap hg cE au hb;have F:=A_ (aC (oB D) hb);have G:=A_ (au);have O:=A_ ((by rw[hg];exact(aA (oB D)):w.heap.size≤ap));have Z:=A_ ((by rw[hg];exact(aA (oB D)):w.heap.size≤ap));clear D;have D:=F;have u:=G;have a_:=O;have a9:=Z;clear F G O Z hb au hg;have ci:=cz u 0;have cj:=cz u 1;have ck:=cz u 2;have cl:=cz u 3;have cm:=ar u.out 0;have cn:=ar u.out 1;have co:=ar u.out 2;have cp:=ar u.out 3)|((with_reducible refine aZ (f:=73) rfl ?_);refine gL (some 9) Tryz.func73 #[.agg #[.int .i64 z,.int .i64 I,.int .i64 J,.int .i64 K]] ?_;(with_reducible refine(fL.c k z I J K false _ A2.out).mono ?_);rintro e cF ⟨rfl,hb⟩;refine⟨_,rfl,?_⟩;have F:=A_ (bb u hb);have G:=A_ (aC (oB D) hb);clear u D;have u:=F;have D:=G;clear F G;(try clear hb);(try clear hb2);(try clear hk);(try clear hi)))
  go_ret2;exact⟨eR,oB D⟩
mutual
def cf.j0:Nat→List ByteArray→Bool→Option (Int×Int×Int×Int×Bool)
 |0,_,_=>none
 |k+1,u,z=>if z=true then(some (0,0,0,0,false))else(if 0<(u.length:Int)then(cf.l0 k u (bF ByteArray.empty u 0) (([]:List Int)) 1)else(none))
def cf.l0:Nat→List ByteArray→ByteArray→List Int→Int→Option (Int×Int×Int×Int×Bool)
 |0,_,_,_,_=>none
 |k+1,z,D,F,u=>if u<(z.length:Int)then(if D.size+1≤9223372036854775807 then(if 0≤u then(if(D++(⟨#[32]⟩:ByteArray)).size+(bF ByteArray.empty z u).size≤9223372036854775807 then((ic.f k (bF ByteArray.empty z u)).bind fun H=>(if F.length<17592186044416 then(cf.l0 k z ((D++(⟨#[32]⟩:ByteArray))++(bF ByteArray.empty z u)) (F++[H]) (wrap64 (u+1)))else(none)))else(none))else(none))else(none))else((some (([0,0,0]:List Int):List Int)).bind fun G=>(if F.length+G.length<17592186044416 then(cf.l1 k D (F++G) 1)else(none)))
def cf.l1:Nat→ByteArray→List Int→Int→Option (Int×Int×Int×Int×Bool)
 |0,_,_,_=>none
 |k+1,D,u,z=>if z≤7 then(if 0<(u.length:Int)then(if 1<(u.length:Int)then(if 2<(u.length:Int)then((fC.f k z (rd u 0) (rd u 1) (rd u 2)).bind fun F=>(if F.2=true then(if F.1.toList=D.toList then(some (z,rd u 0,rd u 1,rd u 2,true))else(cf.l1 k D u (wrap64 (z+1))))else(cf.l1 k D u (wrap64 (z+1)))))else(none))else(none))else(none))else(some (0,0,0,0,false))
end
def cf.f (k:Nat) (a0:ByteArray):Option (Int×Int×Int×Int×Bool):=(cB.f k a0).bind fun u=>(if u.2=true then((cu.f (u.1.length:Int) 1 4).bind fun z=>(cf.j0 k u.1 (!z)))else(cf.j0 k u.1 true))
def cf.nR:Bool×List (List Nat×List Nat):=(true,[([],[]),([],[]),([1],[1]),([2],[2]),([],[]),([4],[4]),([5],[5]),([],[]),([7],[7]),([8],[8]),([0,3,6,9],[0,3,6,9]),([],[]),([11,10,0,1,2,3,4,5,6,7,8,9,10,11],[10,11])])
def cf.qO:List Nat:=[0,0,2,6,0,16,48,0,128,384,1023,0,4095]
theorem cf.oU:bo .any (opsOf Tryz.f46 15)=cf.nR:=by kernel_rfl
theorem cf.nX:cp cf.nR.2 cf.qO=true:=by kernel_rfl
theorem cf.c (k:Nat) (a0:ByteArray) (r1:Int) (r2:Int) (r3:Int) (bc:Int) (bd:Bool) (w:World) (h:cf.f k a0=some (r1,r2,r3,bc,bd)):
  Calls Tryz.prog 46 #[.string a0] w fun e w'=>e= .returned (.tuple #[.agg #[.int .i64 r1,.int .i64 r2,.int .i64 r3,.int .i64 bc],.bool bd])∧Below w.heap.size w w':=by
 have f1:=Tryz.underlying57;have D:=A_ (Below.refl w.heap.size w);have H:((cB.f k a0).bind fun b1=>(if b1.2=true then((cu.f (b1.1.length:Int) 1 4).bind fun b_=>(cf.j0 k b1.1 (!b_)))else(cf.j0 k b1.1 true)))=some (r1,r2,r3,bc,bd):=h;clear h;replace H:=aD H;obtain⟨⟨Y,cQ⟩,ck,H⟩:=H
 (try dsimp only at H)
 have A2:=A_ ck;clear ck;have cc:=A_ H;clear H;go_enter Tryz.func46,Tryz.ntmps46
 go_upto_region 2 with (first|((with_reducible refine ax (N:=2) rfl ?_);(try(refine dE (by rfl) ?_;dsimp only));refine bX (N:=2) (cs:= #[.int .i64 0,.int .i64 0,.int .i64 0,.int .i64 0]) (t:=57) ?_;intro aU hg w4 aW hb;have I:=A_ (aC (oB D) hb);have J:=A_ (aW);have O:=A_ ((by rw[hg];exact(aA (oB D)):w.heap.size≤aU));have V:=A_ ((by rw[hg];exact(aA (oB D)):w.heap.size≤aU));clear D;have D:=I;have u:=J;have dS:=O;have dR:=V;clear I J O V hb aW hg)|((with_reducible refine aZ (f:=45) rfl ?_);refine gL (some 15) Tryz.func45 #[.string a0] ?_;(with_reducible refine(cB.c k a0 Y cQ _ A2.out).mono ?_);rintro e gn ⟨dI,rfl,cM,hb⟩;refine⟨_,rfl,?_⟩;have I:=A_ (Kd.bE cM (aA (oB D)));have J:=A_ (bb u hb);have O:=A_ (aC (oB D) hb);clear u D;have cd:=I;have u:=J;have D:=O;clear I J O;(try clear hb);(try clear hb2);(try clear hk);(try clear hi);(try clear cM)))
 (try simp only[Act.put,List.setIfInBounds_toArray,List.set_cons_zero,List.set_cons_succ])
 go_cut [25] (fun v25 wc=>∃(a_:Nat) (ca:Bool),v25= .bool ca∧ae (cf.j0 a_ Y ca=some (r1,r2,r3,bc,bd))∧ae (a_≤k)∧ae (Kd.R Kd.string 9 wc w.heap.size (fun _=>True) dI Y)∧ae (wc.heap[aU]? =some (.cells #[.int .i64 0,.int .i64 0,.int .i64 0,.int .i64 0] 57 (0,0)))∧ae (Below w.heap.size w wc))
 case first=>
  have H:=cc.out;clear cc;by_cases c6:cQ=true
  ·subst c6;rw[af rfl]at H;replace H:=aD H;obtain⟨b_,cm,H⟩:=H
   (try dsimp only at H)
   have cU:=A_ cm;clear cm;have H':=A_ H;clear H;obtain⟨dQ,d5,dA⟩:=Kd.bz cd.out;subst dA
   go_wp2_with (first|(go_at_call 72;(with_reducible refine(cu.c (Y.length:Int) 1 4 b_ _ cU.out).mono ?_);rintro e w' ⟨rfl,⟨nd,rfl⟩⟩))
   go_meet
   case rel=>exact⟨_,(!b_),eS,H',⟨by first|omega|exact Nat.le_refl _⟩,⟨oR cd⟩,⟨oK u⟩,⟨oB D⟩⟩
  ·replace c6:=Bool.eq_false_iff.mpr c6;subst c6;rw[ag (show¬(false=true)by decide)]at H;have H':=A_ H;clear H;go_wp2
   go_meet
   case rel=>exact⟨_,(true),eS,H',⟨by first|omega|exact Nat.le_refl _⟩,⟨oR cd⟩,⟨oK u⟩,⟨oB D⟩⟩
 case rest=>
  clear cc
  try clear p2
  try clear c4
  try clear c6
  obtain⟨a_,ca,rfl,aK,bt,ak,u,D⟩:=hcut;cases a_ with
  |zero=>exact absurd aK.out (by simp[cf.j0])
  |succ ci=>
   have H:=aK.out;clear aK;simp only[cf.j0]at H;by_cases c9:ca=true
   ·subst c9;rw[af rfl]at H;simp only[Option.some.injEq,Prod.mk.injEq]at H;obtain⟨rfl,rfl,rfl,rfl,rfl⟩:=H;have cD:=cz u 0;have cE:=cz u 1;have cG:=cz u 2;have cH:=cz u 3;have cI:=ar u.out 0;have cJ:=ar u.out 1;have cK:=ar u.out 2;have cL:=ar u.out 3;go_wp2;refine bodyPost_ret (di rfl _ _ aU 57 #[.int .i64 0,.int .i64 0,.int .i64 0,.int .i64 0] (0,0) _ rfl (by(with_reducible repeat(first|refine aT ?_ _|refine aM ?_|refine aN ?_ _));refine bw (cs:= #[.int .i64 0,.int .i64 0,.int .i64 0,.int .i64 0]) ?_ 3 _ rfl;(with_reducible repeat(first|refine aT ?_ _|refine aM ?_|refine aN ?_ _));refine bw (cs:= #[.int .i64 0,.int .i64 0,.int .i64 0,.int .i64 0]) ?_ 2 _ rfl;(with_reducible repeat(first|refine aT ?_ _|refine aM ?_|refine aN ?_ _));refine bw (cs:= #[.int .i64 0,.int .i64 0,.int .i64 0,.int .i64 0]) ?_ 1 _ rfl;(with_reducible repeat(first|refine aT ?_ _|refine aM ?_|refine aN ?_ _));refine bw (cs:= #[.int .i64 0,.int .i64 0,.int .i64 0,.int .i64 0]) ?_ 0 _ rfl;(with_reducible repeat(first|refine aT ?_ _|refine aM ?_|refine aN ?_ _));exact u.out) Tryz.underlying57 rfl (by kernel_rfl)) rfl ?_;exact⟨eR,oB D⟩
   ·replace c9:=Bool.eq_false_iff.mpr c9;subst c9;rw[ag (show¬(false=true)by decide)]at H;by_cases c11:0<(Y.length:Int)
    ·rw[af c11]at H;have ct:decide (0<(Y.length:Int))=true:=ah c11;have cv:decide (0<Y.length)=true:=ah (by omega);clear c11;obtain⟨cR,bT⟩:∃bs:List Int,bs=(([]:List Int)):=⟨_,rfl⟩;replace H:(cf.l0 ci Y (bF ByteArray.empty Y 0) cR 1)=some (r1,r2,r3,bc,bd):=by first|(rw[bT];with_reducible exact H)|(have ao:=(aG _ _).symm.trans H;rw[bT];with_reducible exact ao)|(have ao:=(aG _ _).symm.trans H;with_reducible exact ao)|with_reducible exact H|(rw[bT];exact H)|exact H
     have cp:=A_ bT;clear bT;have H':=A_ H;clear H;obtain⟨dK,dq,dy⟩:=Kd.bz ak.out;subst dy;have bY:0≤(0:Int):=(by omega);have bZ:0<(Y.length:Int):=oD;obtain⟨ce,du,b5⟩:=Kd.ig (Kd.aY ak.out).2.2 0 bY bZ;cases du;have f7:(0<Y.length)=True:=av (by omega)
     (try rw[show((0:Int)).toNat=0 from rfl]at b5)
     (try rw[Addr.add_zero']at b5)
     replace bY:=av bY;replace bZ:=av bZ
     go_wp2_with (first|((with_reducible refine ax (N:=30) rfl ?_);(try(refine dE (by rfl) ?_;dsimp only));refine Kd.cx (Kd.int .i64) _ 3 ?hg (N:=30) ?hd (xs:=([]:List Int)) (inner:=[]) (ok:=fun _=>True) (bB:=fun _=>True) ?hr ?hp (fun _ hk=>hk) trivial (Below.refl _ _) (Nat.le_refl _) (by simp) ?_;(case hd=>rfl);(case hg=>rfl);(case hr=>first|(go_simp;done)|(go_simp;rfl));(case hp=>exact(aI.none _ _));intro f8 f' bS hb cg ch;clear cg ch;(first|rw[←cp.out]at bS|(simp only[Int.reduceToNat]at bS;rw[←cp.out]at bS));have I:=A_ (Kd.aV (oR ak) hb);have J:=A_ (Kd.bE bS (aA (oB D)));have O:=A_ (bb u hb);have V:=A_ (aC (oB D) hb);clear ak u D;have ak:=I;have cW:=J;have u:=O;have D:=V;clear I J O V hb bS))
     go_loopg [6,7,8] ci (fun a_ v6 v7 v8 w'=>∃(al:ByteArray) (a9:List Int) (aj:Int),v6= .string al∧v8= .int .i64 aj∧ae (cf.l0 a_ Y al a9 aj=some (r1,r2,r3,bc,bd))∧ae (a_≤ci)∧ae (Kd.R Kd.string 9 w' w.heap.size (fun _=>True) (.slice (some ce) Y.length dq) Y)∧ae (Kd.R (Kd.int .i64) 3 w' w.heap.size (fun _=>True) v7 a9)∧ae (w'.heap[aU]? =some (.cells #[.int .i64 0,.int .i64 0,.int .i64 0,.int .i64 0] 57 (0,0)))∧ae (Below w.heap.size w w'))
     case atStart=>exact⟨(bF ByteArray.empty Y 0),(cR),(1),eS,eS,H',⟨Nat.le_refl _⟩,⟨oR ak⟩,⟨oR cW⟩,⟨oK u⟩,⟨oB D⟩⟩
     case round=>
      clear H'
      try clear c1
      try clear p1
      try clear q1
      try clear hx1
      try clear dF
      try clear p2
      try clear c4
      try clear c6
      try clear c9
      try clear c11
      try clear ct
      try clear cv
      try clear cD
      try clear cE
      try clear cG
      try clear cH
      try clear cI
      try clear cJ
      try clear cK
      try clear cL
      try clear b5
      try clear bY
      try clear p2
      try clear bZ
      obtain⟨al,a9,aj,rfl,rfl,aK,bu,ak,G,u,D⟩:=hrel;cases gk with
      |zero=>exact absurd aK.out (by simp[cf.l0])
      |succ k2=>
       have H:=aK.out;clear aK;simp only[cf.l0]at H;by_cases c15:aj<(Y.length:Int)
       ·rw[af c15]at H;have cw:decide (aj<(Y.length:Int))=true:=ah c15;clear c15;by_cases c16:al.size+1≤9223372036854775807
        ·rw[af c16]at H;have db:=av c16;have dc:decide (al.size+1≤9223372036854775807)=true:=ah c16
         try have dd:(9223372036854775807<al.size+1)=False:=d_ (Nat.not_lt.2 c16)
         by_cases c17:0≤aj
         ·rw[af c17]at H;have de:decide (0≤aj)=true:=ah c17;clear c17;by_cases c18:(al++(⟨#[32]⟩:ByteArray)).size+(bF ByteArray.empty Y aj).size≤9223372036854775807
          ·rw[af c18]at H;have df:=av c18;have dg:decide ((al++(⟨#[32]⟩:ByteArray)).size+(bF ByteArray.empty Y aj).size≤9223372036854775807)=true:=ah c18
           try have dj:(9223372036854775807<(al++(⟨#[32]⟩:ByteArray)).size+(bF ByteArray.empty Y aj).size)=False:=d_ (Nat.not_lt.2 c18)
           have dT:(9223372036854775807<al.size+1+(bF ByteArray.empty Y aj).size)=False:=(by have:=c18;rw[ByteArray.size_append]at this;exact d_ (Nat.not_lt.2 this));have dU:(al.size+1+(bF ByteArray.empty Y aj).size≤9223372036854775807)=True:=(by have:=c18;rw[ByteArray.size_append]at this;exact av this);replace H:=aD H;obtain⟨b',cj,H⟩:=H
           (try dsimp only at H)
           have cT:=A_ cj;clear cj;by_cases c20:a9.length<17592186044416
           ·rw[af c20]at H;have c3:=A_ c20;clear c20;obtain⟨cS,bU⟩:∃bs:List Int,bs=(a9++[b']):=⟨_,rfl⟩;replace H:(cf.l0 k2 Y ((al++(⟨#[32]⟩:ByteArray))++(bF ByteArray.empty Y aj)) cS (wrap64 (aj+1)))=some (r1,r2,r3,bc,bd):=by first|(rw[bU];with_reducible exact H)|(have ao:=(aG _ _).symm.trans H;rw[bU];with_reducible exact ao)|(have ao:=(aG _ _).symm.trans H;with_reducible exact ao)|with_reducible exact H|(rw[bU];exact H)|exact H
            have c7:=A_ bU;clear bU;have H':=A_ H;clear H;have b6:0≤(aj:Int):=oD;have b8:aj<(Y.length:Int):=oD;obtain⟨c',dv,dB⟩:=Kd.ig (Kd.aY ak.out).2.2 aj b6 b8;obtain rfl:ce=c':=(by injection dv);replace b6:=av b6;replace b8:=av b8;have b7:0≤(aj:Int):=oD;have b9:aj<(Y.length:Int):=oD;obtain⟨da,dw,dC⟩:=Kd.ig (Kd.aY ak.out).2.2 aj b7 b9;obtain rfl:ce=da:=(by injection dw);replace b7:=av b7;replace b9:=av b9
            go_wp2_with (first|((with_reducible refine aZ (f:=89) rfl ?_);refine gL (some 49) Tryz.func89 #[.string (bF ByteArray.empty Y aj)] ?_;(with_reducible refine(ic.c k2 (bF ByteArray.empty Y aj) b' _ cT.out).mono ?_);rintro e ga ⟨rfl,hb⟩;refine⟨_,rfl,?_⟩;have I:=A_ (Kd.aV (oR ak) hb);have J:=A_ (Kd.aV (oR G) hb);have O:=A_ (bb u hb);have V:=A_ (aC (oB D) hb);clear ak G u D;have ak:=I;have G:=J;have u:=O;have D:=V;clear I J O V;(try clear hb);(try clear hb2);(try clear hk);(try clear hi))|((with_reducible refine dP (b:= .append) (xs:= #[.tmp 44,.tmp 50]) rfl ?_);(try(refine dE (by rfl) ?_;dsimp only));at_builtin;refine Kd.eF (Kd.int .i64) (w0:=w) w.heap.size rfl (.tmp 44) (.tmp 50) 25 3 (.int .i64 0) 8 rfl Tryz.underlying25 info3 rfl (by decide) (by omega) u7 a9 b' [.int .i64 b'] (fun _=>True) (fun _=>False) rfl rfl ?aP (fun _ hk=>hk.elim) ?aF ?aO ?aB ?aS ?aL ?_;(case aP=>exact rfl);(case aB=>exact(oB D));(case aF=>exact(fun _ _=>trivial));(case aO=>exact(oR G));(case aS=>exact(aA (oB D)));(case aL=>have:=c3.out;omega);intro f9 gb ho hb hg hat;rw[←c7.out]at ho;have I:=A_ (Kd.eG (oR ak) (Kd.eH (oR G)) (by decide) hg);have J:=A_ (bg u hg (Kd.fU G.out u.out (by decide)));have O:=A_ (hb);have V:=A_ (ho);clear ak u D G;have ak:=I;have u:=J;have D:=O;have cY:=V;clear I J O V ho hb hg hat))
            go_roundg k2
            case measure=>have:=bt.out;have:=bu.out;omega
            case rel=>exact⟨((al++(⟨#[32]⟩:ByteArray))++(bF ByteArray.empty Y aj)),(cS),(wrap64 (aj+1)),eS,eS,H',⟨by have:=bt.out;have:=bu.out;omega⟩,⟨oR ak⟩,⟨oR cY⟩,⟨oK u⟩,⟨oB D⟩⟩
           ·rw[ag c20]at H;exact absurd H (by simp)
          ·rw[ag c18]at H;exact absurd H (by simp)
         ·rw[ag c17]at H;exact absurd H (by simp)
        ·rw[ag c16]at H;exact absurd H (by simp)
       ·rw[ag c15]at H;have cw:decide (aj<(Y.length:Int))=false:=ay c15;clear c15;obtain⟨bA,bV⟩:∃bs:List Int,bs=(([0,0,0]:List Int)):=⟨_,rfl⟩;replace H:(if a9.length+bA.length<17592186044416 then(cf.l1 k2 al (a9++bA) 1)else(none))=some (r1,r2,r3,bc,bd):=by first|(rw[bV];with_reducible exact H)|(have ao:=(aG _ _).symm.trans H;rw[bV];with_reducible exact ao)|(have ao:=(aG _ _).symm.trans H;with_reducible exact ao)|with_reducible exact H|(rw[bV];exact H)|exact H
        have cq:=A_ bV;clear bV;by_cases bK:a9.length+bA.length<17592186044416
        ·rw[af bK]at H;have c5:=A_ bK;clear bK;obtain⟨z,bW⟩:∃bs:List Int,bs=(a9++bA):=⟨_,rfl⟩;replace H:(cf.l1 k2 al z 1)=some (r1,r2,r3,bc,bd):=by first|(rw[bW];with_reducible exact H)|(have ao:=(aG _ _).symm.trans H;rw[bW];with_reducible exact ao)|(have ao:=(aG _ _).symm.trans H;with_reducible exact ao)|with_reducible exact H|(rw[bW];exact H)|exact H
         have c_:=A_ bW;clear bW;have H':=A_ H;clear H
         go_wp2_with (first|((with_reducible refine ax (N:=53) rfl ?_);(try(refine dE (by rfl) ?_;dsimp only));refine Kd.cx (Kd.int .i64) _ 3 ?hg (N:=53) ?hd (xs:=([0,0,0]:List Int)) (inner:=[.int .i64 0,.int .i64 0,.int .i64 0]) (ok:=fun _=>True) (bB:=fun _=>True) ?hr ?hp (fun _ hk=>hk) trivial (Below.refl _ _) (Nat.le_refl _) (by simp) ?_;(case hd=>rfl);(case hg=>rfl);(case hr=>first|(go_simp;done)|(go_simp;rfl));(case hp=>exact(aI.one (show Kd.M (Kd.int .i64) _ _ _ 0 [.int .i64 0]from rfl) (aI.one (show Kd.M (Kd.int .i64) _ _ _ 0 [.int .i64 0]from rfl) (aI.one (show Kd.M (Kd.int .i64) _ _ _ 0 [.int .i64 0]from rfl) (aI.none _ _)))));intro f_ gc bx hb cg ch;clear cg ch;(first|rw[←cq.out]at bx|(simp only[Int.reduceToNat]at bx;rw[←cq.out]at bx));have I:=A_ (Kd.aV (oR ak) hb);have J:=A_ (Kd.dZ (oR G) (Kd.dr bx) hb);have O:=A_ (Kd.bE (Kd.fl bx (Kd.en (oR G))) (aA (oB D)));have V:=A_ (bb u hb);have az:=A_ (aC (oB D) hb);clear ak G u D;have ak:=I;have G:=J;have bv:=O;have u:=V;have D:=az;clear I J O V az hb bx;obtain⟨cV,dt,dz⟩:=Kd.bz bv.out;subst dz)|((with_reducible refine dP (b:= .append) (xs:= #[.tmp 52,.tmp 53]) rfl ?_);(try(refine dE (by rfl) ?_;dsimp only));at_builtin;refine Kd.lH (Kd.int .i64) (w0:=w) w.heap.size rfl (.tmp 52) (.tmp 53) 25 3 (.int .i64 0) 8 rfl Tryz.underlying25 info3 rfl (by decide) (by omega) u7 a9 bA _ _ _ (fun k_=>some k_≠(.slice cV bA.length dt:Value).ownBlock) (fun _=>False) rfl rfl ?aO ?aR (fun _ _ h=>h) (fun _ h=>h.elim) ?aF ?aB ?aS ?aL ?_;(case aR=>repeat(first|exact(Kd.aY bv.out).2.2|(with_reducible refine Kd.cZ ?_ _)|(with_reducible refine Kd.dn ?_ _)|(with_reducible refine Kd.dm ?_)));(case aB=>exact(oB D));(case aF=>exact(fun k_ hk=>Kd.fresh' (Kd.en (oR bv)) k_ hk));(case aO=>exact(by(with_reducible repeat(first|apply Kd.bm|apply Kd.br|apply Kd.a8));exact Kd.bh G.out (fun _ hk=>hk.2)));(case aS=>exact(aA (oB D)));(case aL=>have:=c5.out;omega);intro dJ gd ho hb hg hat;rw[←c_.out]at ho;have I:=A_ (Kd.eG (oR ak) (Kd.eH (oR G)) (by decide) hg);have J:=A_ (bg u hg (Kd.fU G.out u.out (by decide)));have O:=A_ (Kd.o9 (ok:=(fun _=>True)) (oR bv) hg hat);have V:=A_ (hb);have az:=A_ (ho);clear ak u bv D G;have ak:=I;have u:=J;have bv:=O;have D:=V;have c0:=az;clear I J O V az ho hb hg hat))
         go_loopg [9] k2 (fun a_ v9 w'=>∃(X:Int) (be:Int) (a7:Int) (aE:Int) (ap:Int),v9= .int .i64 X∧ae (cf.l1 a_ al z X=some (r1,r2,r3,bc,bd))∧ae (a_≤k2)∧ae (Kd.R (Kd.int .i64) 3 w' w.heap.size (fun _=>True) dJ z)∧ae (w'.heap[aU]? =some (.cells #[.int .i64 be,.int .i64 a7,.int .i64 aE,.int .i64 ap] 57 (0,0)))∧ae (Below w.heap.size w w'))
         case atStart=>exact⟨(1),(0),(0),(0),(0),eS,H',⟨Nat.le_refl _⟩,⟨by(with_reducible repeat(first|apply Kd.bm|apply Kd.br|apply Kd.a8));exact Kd.bh c0.out (fun _ hk=>trivial)⟩,⟨oK u⟩,⟨oB D⟩⟩
         case round=>
          clear H'
          try clear c1
          try clear p1
          try clear q1
          try clear hx1
          try clear dF
          try clear c2
          try clear p2
          try clear c4
          try clear c6
          try clear f4
          try clear c8
          try clear c9
          try clear c11
          try clear ct
          try clear cv
          try clear c15
          try clear cw
          try clear c16
          try clear db
          try clear dc
          try clear dd
          try clear c17
          try clear de
          try clear c18
          try clear df
          try clear dg
          try clear dj
          try clear f3
          try clear f5
          try clear f2
          try clear f6
          try clear c20
          try clear bK
          try clear cD
          try clear cE
          try clear cG
          try clear cH
          try clear cI
          try clear cJ
          try clear cK
          try clear cL
          try clear b5
          try clear dB
          try clear dC
          try clear p1
          try clear bY
          try clear b6
          try clear b7
          try clear p2
          try clear q1
          try clear bZ
          try clear b8
          try clear b9
          obtain⟨X,be,a7,aE,ap,rfl,aK,b0,G,u,D⟩:=hrel;cases gk with
          |zero=>exact absurd aK.out (by simp[cf.l1])
          |succ k3=>
           have H:=aK.out;clear aK;simp only[cf.l1]at H;by_cases c28:X≤7
           ·rw[af c28]at H;have dk:decide (X≤7)=true:=ah c28;clear c28;by_cases b2:0<(z.length:Int)
            ·rw[af b2]at H;have dV:decide (0<(z.length:Int))=true:=ah b2;have dW:decide (0<z.length)=true:=ah (by omega);clear b2;by_cases b3:1<(z.length:Int)
             ·rw[af b3]at H;have dX:decide (1<(z.length:Int))=true:=ah b3;have dY:decide (1<z.length)=true:=ah (by omega);clear b3;by_cases c31:2<(z.length:Int)
              ·rw[af c31]at H;have d0:decide (2<(z.length:Int))=true:=ah c31;have d1:decide (2<z.length)=true:=ah (by omega);clear c31;replace H:=aD H;obtain⟨⟨bp,dH⟩,cl,H⟩:=H
               (try dsimp only at H)
               have cb:=A_ cl;clear cl;by_cases b4:dH=true
               ·subst b4;rw[af rfl]at H;by_cases bq:bp.toList=al.toList
                ·rw[af bq]at H;have dl:(bp.toList==al.toList)=true:=beq_iff_eq.mpr bq;have dp:(bp.toList != al.toList)=false:=bne_eq_false_iff_eq.mpr bq;clear bq;simp only[Option.some.injEq,Prod.mk.injEq]at H;obtain⟨rfl,rfl,rfl,rfl,rfl⟩:=H
                 try go_wp2
                 have I:=A_ (Kd.a8 G.out);have J:=A_ (aM u.out);have O:=A_ (cr D.out);clear G u D;have G:=I;have u:=J;have D:=O;clear I J O;obtain⟨dM,d2,cy⟩:=Kd.bz G.out
                 (first|subst cy|(injection cy with bf bP bj;have bQ:=bf.symm;have bR:=bj.symm;clear bf bP bj;subst bQ;subst bR))
                 have a1:0≤(0:Int):=(by omega);have a4:0<(z.length:Int):=oD;obtain⟨ad,bL,aq⟩:=Kd.dG (Kd.aY G.out).2.2 0 a1 a4;cases bL;have cN:(0<z.length)=True:=av (by omega)
                 (try rw[show((0:Int)).toNat=0 from rfl]at aq)
                 (try rw[Addr.add_zero']at aq)
                 replace a1:=av a1;replace a4:=av a4;have a2:0≤(1:Int):=(by omega);have a5:1<(z.length:Int):=oD;obtain⟨bI,bM,au⟩:=Kd.dG (Kd.aY G.out).2.2 1 a2 a5;obtain rfl:ad=bI:=(by injection bM)
                 (try simp only[show(1:Int).toNat=1 from rfl,Nat.reduceMul,Nat.reduceEqDiff,Go.Addr.add,↓reduceIte]at au)
                 have cO:(1<z.length)=True:=av (by omega)
                 (try rw[show((1:Int)).toNat=1 from rfl]at au)
                 replace a2:=av a2;replace a5:=av a5;have a3:0≤(2:Int):=(by omega);have a6:2<(z.length:Int):=oD;obtain⟨bJ,bO,aw⟩:=Kd.dG (Kd.aY G.out).2.2 2 a3 a6;obtain rfl:ad=bJ:=(by injection bO)
                 (try simp only[show(2:Int).toNat=2 from rfl,Nat.reduceMul,Nat.reduceEqDiff,Go.Addr.add,↓reduceIte]at aw)
                 have cP:(2<z.length)=True:=av (by omega)
                 (try rw[show((2:Int)).toNat=2 from rfl]at aw)
                 replace a3:=av a3;replace a6:=av a6;refine fk (n:=13) (S:=fun w'=>w'.cell? ad=some (.int .i64 (rd z 0))∧w'.cell? ⟨ad.block,ad.off+1,none⟩=some (.int .i64 (rd z 1))∧w'.cell? ⟨ad.block,ad.off+2,none⟩=some (.int .i64 (rd z 2))) (ds:=[]) #[false,false,false,false,false,false,false,false,false,false,false,false,false] (by kernel_rfl) rfl rfl ⟨aq,au,aw⟩ (fun hHeld=> ?_);refine fP cf.oU cf.nX (fun U aQ=> ?_);generalize wr.drew=gf at G u D aq au aw hHeld ⊢;refine pA 0 (some 59) U.out ?_;refine pA 1 (some 60) U.out ?_;refine pA 2 (some 61) U.out ?_;refine pA 4 (some 63) U.out ?_;refine pA 5 (some 64) U.out ?_;refine pA 7 (some 66) U.out ?_;refine pA 8 (some 67) U.out ?_;refine pT 3 (some 62) U.out aQ.out hHeld ?_;refine pT 6 (some 65) U.out aQ.out hHeld ?_;refine pT 9 (some 68) U.out aQ.out hHeld ?_;refine pA 10 (some 69) U.out ?_;refine dh (i:=11) (N:=some 10) #[true,true,true,true,true,true,true,true,true,true,true,true,false] rfl rfl (cX U.out (by kernel_rfl)) (by decide) (fun K hK=> ?_);refine n4 ?hg (N:=10) ?hd (cs:= #[.int .i64 0,.int .i64 0,.int .i64 0,.int .i64 0]) (t:=57) ?hr ?_;(case hd=>rfl);(case hg=>rfl);(case hr=>first|(go_simp;done)|(go_simp;rfl));intro ai hg gg aW hb;have bC:=(hb.cell (World.block_lt_of_cell? _ _ (hHeld.1))).trans (hHeld.1);have bD:=(hb.cell (World.block_lt_of_cell? _ _ (hHeld.2.1))).trans (hHeld.2.1);have bH:=(hb.cell (World.block_lt_of_cell? _ _ (hHeld.2.2))).trans (hHeld.2.2);have I:=A_ (Kd.aV (oR G) hb);have J:=A_ (bb u hb);have O:=A_ (aC (oB D) hb);have V:=A_ (aW);have az:=A_ ((by rw[hg];exact(aA (oB D)):w.heap.size≤ai));have bk:=A_ ((by rw[hg];exact(aA (oB D)):w.heap.size≤ai));have bn:=A_ (nL u hg);have bo:=A_ (nG u hg);clear G u D;have G:=I;have u:=J;have D:=O;have F:=V;have co:=az;have cn:=bk;have Z:=bn;have am:=bo;clear I J O V az bk bn bo hb aW hg;refine hK.out _ _ ⟨bC,bD,bH⟩ (fun hHeld=> ?_);clear hK K;refine dL (a':= ?_) ?_ ?_;rotate_left
                 ·show Act.put _ (some 10) _=_;simp only[Act.put,List.setIfInBounds_toArray,List.set_cons_zero,List.set_cons_succ,bG,bN];rfl
                 refine dh (i:=12) (N:=none) #[true,true,true,true,true,true,true,true,true,true,true,true,true] rfl rfl (cX U.out (by kernel_rfl)) (by decide) (fun K hK=> ?_);have fM:=cz F 0;have ex:=ar F.out 0;have fy:=Z.out;have fd:=am.out;have fN:=cz F 1;have ey:=ar F.out 1;have fz:=Z.out;have fe:=am.out;have fO:=cz F 2;have ez:=ar F.out 2;have fA:=Z.out;have ff:=am.out;have fQ:=cz F 3;have eA:=ar F.out 3;have fB:=Z.out;have fg:=am.out;refine lU (w1:= ?_) (by rfl) rfl ?_ ?_;rotate_left
                 ·go_simp
                  rfl
                 have aX:ad.block≠ai:=Kd.pZ (Kd.fU G.out F.out (by decide));refine hK.out _ _ ⟨(cF (by exact aX) hHeld.1),(cF (by exact aX) hHeld.2.1),(cF (by exact aX) hHeld.2.2)⟩ (fun hHeld=> ?_);clear hK K;refine eY (fH U.out (by kernel_rfl)) ?_;have fs:=am.out;have fv:=Z.out;have d6:=cz F 0;have d7:=cz F 1;have d8:=cz F 2;have d9:=cz F 3;have eO:=ar F.out 0;have eP:=ar F.out 1;have eQ:=ar F.out 2;have eT:=ar F.out 3
                 try go_wp2_with (first|((with_reducible refine aZ (f:=90) rfl ?_);refine gL (some 72) Tryz.func90 #[.agg #[.int .i64 X,.int .i64 (rd z 0),.int .i64 (rd z 1),.int .i64 (rd z 2)]] ?_;(with_reducible refine(fC.c k3 X (rd z 0) (rd z 1) (rd z 2) bp true _ cb.out).mono ?_);rintro e gh ⟨rfl,hb⟩;refine⟨_,rfl,?_⟩;have I:=A_ (Kd.aV (by(with_reducible repeat(first|apply Kd.bm|apply Kd.br|apply Kd.a8));exact(Kd.bh (Kd.aJ (p:=⟨ai,3,none⟩) (Kd.aJ (p:=⟨ai,2,none⟩) (Kd.aJ (p:=⟨ai,1,none⟩) (Kd.aJ (p:=⟨ai,0,none⟩) (Kd.dD G.out F.out (by decide)) (fun _ hk=>hk.2) (.int .i64 X)) (fun _ hk=>hk.2) (.int .i64 (rd z 0))) (fun _ hk=>hk.2) (.int .i64 (rd z 1))) (fun _ hk=>hk.2) (.int .i64 (rd z 2))) (fun _ h_=>h_.1))) hb);have J:=A_ (fV (g:=aU) (o:= .cells #[.int .i64 be,.int .i64 a7,.int .i64 aE,.int .i64 ap] 57 (0,0)) (by(with_reducible repeat(first|refine aT ?_ _|refine aM ?_|refine aN ?_ _));refine dx ?_ Z.out _;(with_reducible repeat(first|refine aT ?_ _|refine aM ?_|refine aN ?_ _));refine dx ?_ Z.out _;(with_reducible repeat(first|refine aT ?_ _|refine aM ?_|refine aN ?_ _));refine dx ?_ Z.out _;(with_reducible repeat(first|refine aT ?_ _|refine aM ?_|refine aN ?_ _));refine dx ?_ Z.out _;(with_reducible repeat(first|refine aT ?_ _|refine aM ?_|refine aN ?_ _));exact u.out) hb);have O:=A_ (fV (g:=ai) (o:= .cells #[.int .i64 X,.int .i64 (rd z 0),.int .i64 (rd z 1),.int .i64 (rd z 2)] 57 (0,0)) (by(with_reducible repeat(first|refine aT ?_ _|refine aM ?_|refine aN ?_ _));refine bw (cs:= #[.int .i64 X,.int .i64 (rd z 0),.int .i64 (rd z 1),.int .i64 0]) ?_ 3 _ rfl;(with_reducible repeat(first|refine aT ?_ _|refine aM ?_|refine aN ?_ _));refine bw (cs:= #[.int .i64 X,.int .i64 (rd z 0),.int .i64 0,.int .i64 0]) ?_ 2 _ rfl;(with_reducible repeat(first|refine aT ?_ _|refine aM ?_|refine aN ?_ _));refine bw (cs:= #[.int .i64 X,.int .i64 0,.int .i64 0,.int .i64 0]) ?_ 1 _ rfl;(with_reducible repeat(first|refine aT ?_ _|refine aM ?_|refine aN ?_ _));refine bw (cs:= #[.int .i64 0,.int .i64 0,.int .i64 0,.int .i64 0]) ?_ 0 _ rfl;(with_reducible repeat(first|refine aT ?_ _|refine aM ?_|refine aN ?_ _));exact F.out) hb);have V:=A_ (aC (oB D) hb);clear G u F D;have G:=I;have u:=J;have F:=O;have D:=V;clear I J O V;(try clear hb);(try clear hb2);(try clear hk);(try clear hi);have d':=cz F 0;have ea:=cz F 1;have eb:=cz F 2;have ec:=cz F 3;have eU:=ar F.out 0;have eV:=ar F.out 1;have eW:=ar F.out 2;have eX:=ar F.out 3;have ef:=cz u 0;have eg:=cz u 1;have eh:=cz u 2;have ei:=cz u 3;have eZ:=ar u.out 0;have e0:=ar u.out 1;have e1:=ar u.out 2;have e2:=ar u.out 3))
                 refine bodyPost_ret (di rfl _ _ aU 57 #[.int .i64 X,.int .i64 (rd z 0),.int .i64 (rd z 1),.int .i64 (rd z 2)] (0,0) _ rfl (by(with_reducible repeat(first|refine aT ?_ _|refine aM ?_|refine aN ?_ _));refine bw (cs:= #[.int .i64 X,.int .i64 (rd z 0),.int .i64 (rd z 1),.int .i64 ap]) ?_ 3 _ rfl;(with_reducible repeat(first|refine aT ?_ _|refine aM ?_|refine aN ?_ _));refine bw (cs:= #[.int .i64 X,.int .i64 (rd z 0),.int .i64 aE,.int .i64 ap]) ?_ 2 _ rfl;(with_reducible repeat(first|refine aT ?_ _|refine aM ?_|refine aN ?_ _));refine bw (cs:= #[.int .i64 X,.int .i64 a7,.int .i64 aE,.int .i64 ap]) ?_ 1 _ rfl;(with_reducible repeat(first|refine aT ?_ _|refine aM ?_|refine aN ?_ _));refine bw (cs:= #[.int .i64 be,.int .i64 a7,.int .i64 aE,.int .i64 ap]) ?_ 0 _ rfl;(with_reducible repeat(first|refine aT ?_ _|refine aM ?_|refine aN ?_ _));exact u.out) Tryz.underlying57 rfl (by kernel_rfl)) rfl ?_;exact⟨eR,oB D⟩
                ·rw[ag bq]at H;have dl:(bp.toList==al.toList)=false:=beq_eq_false_iff_ne.mpr bq;have dp:(bp.toList != al.toList)=true:=bne_iff_ne.mpr bq;have H':=A_ H;clear H
                 try go_wp2
                 have I:=A_ (Kd.a8 G.out);have J:=A_ (aM u.out);have O:=A_ (cr D.out);clear G u D;have G:=I;have u:=J;have D:=O;clear I J O;obtain⟨dN,d3,cA⟩:=Kd.bz G.out
                 (first|subst cA|(injection cA with bf bP bj;have bQ:=bf.symm;have bR:=bj.symm;clear bf bP bj;subst bQ;subst bR))
                 have a1:0≤(0:Int):=(by omega);have a4:0<(z.length:Int):=oD;obtain⟨ad,bL,aq⟩:=Kd.dG (Kd.aY G.out).2.2 0 a1 a4;cases bL;have cN:(0<z.length)=True:=av (by omega)
                 (try rw[show((0:Int)).toNat=0 from rfl]at aq)
                 (try rw[Addr.add_zero']at aq)
                 replace a1:=av a1;replace a4:=av a4;have a2:0≤(1:Int):=(by omega);have a5:1<(z.length:Int):=oD;obtain⟨bI,bM,au⟩:=Kd.dG (Kd.aY G.out).2.2 1 a2 a5;obtain rfl:ad=bI:=(by injection bM)
                 (try simp only[show(1:Int).toNat=1 from rfl,Nat.reduceMul,Nat.reduceEqDiff,Go.Addr.add,↓reduceIte]at au)
                 have cO:(1<z.length)=True:=av (by omega)
                 (try rw[show((1:Int)).toNat=1 from rfl]at au)
                 replace a2:=av a2;replace a5:=av a5;have a3:0≤(2:Int):=(by omega);have a6:2<(z.length:Int):=oD;obtain⟨bJ,bO,aw⟩:=Kd.dG (Kd.aY G.out).2.2 2 a3 a6;obtain rfl:ad=bJ:=(by injection bO)
                 (try simp only[show(2:Int).toNat=2 from rfl,Nat.reduceMul,Nat.reduceEqDiff,Go.Addr.add,↓reduceIte]at aw)
                 have cP:(2<z.length)=True:=av (by omega)
                 (try rw[show((2:Int)).toNat=2 from rfl]at aw)
                 replace a3:=av a3;replace a6:=av a6;refine fk (n:=13) (S:=fun w'=>w'.cell? ad=some (.int .i64 (rd z 0))∧w'.cell? ⟨ad.block,ad.off+1,none⟩=some (.int .i64 (rd z 1))∧w'.cell? ⟨ad.block,ad.off+2,none⟩=some (.int .i64 (rd z 2))) (ds:=[]) #[false,false,false,false,false,false,false,false,false,false,false,false,false] (by kernel_rfl) rfl rfl ⟨aq,au,aw⟩ (fun hHeld=> ?_);refine fP cf.oU cf.nX (fun U aQ=> ?_);generalize wr.drew=gj at G u D aq au aw hHeld ⊢;refine pA 0 (some 59) U.out ?_;refine pA 1 (some 60) U.out ?_;refine pA 2 (some 61) U.out ?_;refine pA 4 (some 63) U.out ?_;refine pA 5 (some 64) U.out ?_;refine pA 7 (some 66) U.out ?_;refine pA 8 (some 67) U.out ?_;refine pT 3 (some 62) U.out aQ.out hHeld ?_;refine pT 6 (some 65) U.out aQ.out hHeld ?_;refine pT 9 (some 68) U.out aQ.out hHeld ?_;refine pA 10 (some 69) U.out ?_;refine dh (i:=11) (N:=some 10) #[true,true,true,true,true,true,true,true,true,true,true,true,false] rfl rfl (cX U.out (by kernel_rfl)) (by decide) (fun K hK=> ?_);refine n4 ?hg (N:=10) ?hd (cs:= #[.int .i64 0,.int .i64 0,.int .i64 0,.int .i64 0]) (t:=57) ?hr ?_;(case hd=>rfl);(case hg=>rfl);(case hr=>first|(go_simp;done)|(go_simp;rfl));intro ai hg gm aW hb;have bC:=(hb.cell (World.block_lt_of_cell? _ _ (hHeld.1))).trans (hHeld.1);have bD:=(hb.cell (World.block_lt_of_cell? _ _ (hHeld.2.1))).trans (hHeld.2.1);have bH:=(hb.cell (World.block_lt_of_cell? _ _ (hHeld.2.2))).trans (hHeld.2.2);have I:=A_ (Kd.aV (oR G) hb);have J:=A_ (bb u hb);have O:=A_ (aC (oB D) hb);have V:=A_ (aW);have az:=A_ ((by rw[hg];exact(aA (oB D)):w.heap.size≤ai));have bk:=A_ ((by rw[hg];exact(aA (oB D)):w.heap.size≤ai));have bn:=A_ (nL u hg);have bo:=A_ (nG u hg);clear G u D;have G:=I;have u:=J;have D:=O;have F:=V;have co:=az;have cn:=bk;have Z:=bn;have am:=bo;clear I J O V az bk bn bo hb aW hg;refine hK.out _ _ ⟨bC,bD,bH⟩ (fun hHeld=> ?_);clear hK K;refine dL (a':= ?_) ?_ ?_;rotate_left
                 ·show Act.put _ (some 10) _=_;simp only[Act.put,List.setIfInBounds_toArray,List.set_cons_zero,List.set_cons_succ,bG,bN];rfl
                 refine dh (i:=12) (N:=none) #[true,true,true,true,true,true,true,true,true,true,true,true,true] rfl rfl (cX U.out (by kernel_rfl)) (by decide) (fun K hK=> ?_);have fR:=cz F 0;have eB:=ar F.out 0;have fD:=Z.out;have fh:=am.out;have fS:=cz F 1;have eC:=ar F.out 1;have fE:=Z.out;have fi:=am.out;have fT:=cz F 2;have eD:=ar F.out 2;have fF:=Z.out;have fj:=am.out;have fW:=cz F 3;have eE:=ar F.out 3;have fG:=Z.out;have fm:=am.out;refine lU (w1:= ?_) (by rfl) rfl ?_ ?_;rotate_left
                 ·go_simp
                  rfl
                 have aX:ad.block≠ai:=Kd.pZ (Kd.fU G.out F.out (by decide));refine hK.out _ _ ⟨(cF (by exact aX) hHeld.1),(cF (by exact aX) hHeld.2.1),(cF (by exact aX) hHeld.2.2)⟩ (fun hHeld=> ?_);clear hK K;refine eY (fH U.out (by kernel_rfl)) ?_;have ft:=am.out;have fw:=Z.out;have ej:=cz F 0;have ek:=cz F 1;have el:=cz F 2;have em:=cz F 3;have e3:=ar F.out 0;have e4:=ar F.out 1;have e5:=ar F.out 2;have e6:=ar F.out 3
                 try go_wp2_with (first|((with_reducible refine aZ (f:=90) rfl ?_);refine gL (some 72) Tryz.func90 #[.agg #[.int .i64 X,.int .i64 (rd z 0),.int .i64 (rd z 1),.int .i64 (rd z 2)]] ?_;(with_reducible refine(fC.c k3 X (rd z 0) (rd z 1) (rd z 2) bp true _ cb.out).mono ?_);rintro e gp ⟨rfl,hb⟩;refine⟨_,rfl,?_⟩;have I:=A_ (Kd.aV (by(with_reducible repeat(first|apply Kd.bm|apply Kd.br|apply Kd.a8));exact(Kd.bh (Kd.aJ (p:=⟨ai,3,none⟩) (Kd.aJ (p:=⟨ai,2,none⟩) (Kd.aJ (p:=⟨ai,1,none⟩) (Kd.aJ (p:=⟨ai,0,none⟩) (Kd.dD G.out F.out (by decide)) (fun _ hk=>hk.2) (.int .i64 X)) (fun _ hk=>hk.2) (.int .i64 (rd z 0))) (fun _ hk=>hk.2) (.int .i64 (rd z 1))) (fun _ hk=>hk.2) (.int .i64 (rd z 2))) (fun _ h_=>h_.1))) hb);have J:=A_ (fV (g:=aU) (o:= .cells #[.int .i64 be,.int .i64 a7,.int .i64 aE,.int .i64 ap] 57 (0,0)) (by(with_reducible repeat(first|refine aT ?_ _|refine aM ?_|refine aN ?_ _));refine dx ?_ Z.out _;(with_reducible repeat(first|refine aT ?_ _|refine aM ?_|refine aN ?_ _));refine dx ?_ Z.out _;(with_reducible repeat(first|refine aT ?_ _|refine aM ?_|refine aN ?_ _));refine dx ?_ Z.out _;(with_reducible repeat(first|refine aT ?_ _|refine aM ?_|refine aN ?_ _));refine dx ?_ Z.out _;(with_reducible repeat(first|refine aT ?_ _|refine aM ?_|refine aN ?_ _));exact u.out) hb);have O:=A_ (fV (g:=ai) (o:= .cells #[.int .i64 X,.int .i64 (rd z 0),.int .i64 (rd z 1),.int .i64 (rd z 2)] 57 (0,0)) (by(with_reducible repeat(first|refine aT ?_ _|refine aM ?_|refine aN ?_ _));refine bw (cs:= #[.int .i64 X,.int .i64 (rd z 0),.int .i64 (rd z 1),.int .i64 0]) ?_ 3 _ rfl;(with_reducible repeat(first|refine aT ?_ _|refine aM ?_|refine aN ?_ _));refine bw (cs:= #[.int .i64 X,.int .i64 (rd z 0),.int .i64 0,.int .i64 0]) ?_ 2 _ rfl;(with_reducible repeat(first|refine aT ?_ _|refine aM ?_|refine aN ?_ _));refine bw (cs:= #[.int .i64 X,.int .i64 0,.int .i64 0,.int .i64 0]) ?_ 1 _ rfl;(with_reducible repeat(first|refine aT ?_ _|refine aM ?_|refine aN ?_ _));refine bw (cs:= #[.int .i64 0,.int .i64 0,.int .i64 0,.int .i64 0]) ?_ 0 _ rfl;(with_reducible repeat(first|refine aT ?_ _|refine aM ?_|refine aN ?_ _));exact F.out) hb);have V:=A_ (aC (oB D) hb);clear G u F D;have G:=I;have u:=J;have F:=O;have D:=V;clear I J O V;(try clear hb);(try clear hb2);(try clear hk);(try clear hi)))
                 go_roundg k3
                 case measure=>have:=bt.out;have:=bu.out;have:=b0.out;omega
                 case rel=>exact⟨(wrap64 (X+1)),(be),(a7),(aE),(ap),eS,H',⟨by have:=bt.out;have:=bu.out;have:=b0.out;omega⟩,⟨oR G⟩,⟨oK u⟩,⟨oB D⟩⟩
               ·replace b4:=Bool.eq_false_iff.mpr b4;subst b4;rw[ag (show¬(false=true)by decide)]at H;have H':=A_ H;clear H
                try go_wp2
                have I:=A_ (Kd.a8 G.out);have J:=A_ (aM u.out);have O:=A_ (cr D.out);clear G u D;have G:=I;have u:=J;have D:=O;clear I J O;obtain⟨dO,d4,cC⟩:=Kd.bz G.out
                (first|subst cC|(injection cC with bf bP bj;have bQ:=bf.symm;have bR:=bj.symm;clear bf bP bj;subst bQ;subst bR))
                have a1:0≤(0:Int):=(by omega);have a4:0<(z.length:Int):=oD;obtain⟨ad,bL,aq⟩:=Kd.dG (Kd.aY G.out).2.2 0 a1 a4;cases bL;have cN:(0<z.length)=True:=av (by omega)
                (try rw[show((0:Int)).toNat=0 from rfl]at aq)
                (try rw[Addr.add_zero']at aq)
                replace a1:=av a1;replace a4:=av a4;have a2:0≤(1:Int):=(by omega);have a5:1<(z.length:Int):=oD;obtain⟨bI,bM,au⟩:=Kd.dG (Kd.aY G.out).2.2 1 a2 a5;obtain rfl:ad=bI:=(by injection bM)
                (try simp only[show(1:Int).toNat=1 from rfl,Nat.reduceMul,Nat.reduceEqDiff,Go.Addr.add,↓reduceIte]at au)
                have cO:(1<z.length)=True:=av (by omega)
                (try rw[show((1:Int)).toNat=1 from rfl]at au)
                replace a2:=av a2;replace a5:=av a5;have a3:0≤(2:Int):=(by omega);have a6:2<(z.length:Int):=oD;obtain⟨bJ,bO,aw⟩:=Kd.dG (Kd.aY G.out).2.2 2 a3 a6;obtain rfl:ad=bJ:=(by injection bO)
                (try simp only[show(2:Int).toNat=2 from rfl,Nat.reduceMul,Nat.reduceEqDiff,Go.Addr.add,↓reduceIte]at aw)
                have cP:(2<z.length)=True:=av (by omega)
                (try rw[show((2:Int)).toNat=2 from rfl]at aw)
                replace a3:=av a3;replace a6:=av a6;refine fk (n:=13) (S:=fun w'=>w'.cell? ad=some (.int .i64 (rd z 0))∧w'.cell? ⟨ad.block,ad.off+1,none⟩=some (.int .i64 (rd z 1))∧w'.cell? ⟨ad.block,ad.off+2,none⟩=some (.int .i64 (rd z 2))) (ds:=[]) #[false,false,false,false,false,false,false,false,false,false,false,false,false] (by kernel_rfl) rfl rfl ⟨aq,au,aw⟩ (fun hHeld=> ?_);refine fP cf.oU cf.nX (fun U aQ=> ?_);generalize wr.drew=gq at G u D aq au aw hHeld ⊢;refine pA 0 (some 59) U.out ?_;refine pA 1 (some 60) U.out ?_;refine pA 2 (some 61) U.out ?_;refine pA 4 (some 63) U.out ?_;refine pA 5 (some 64) U.out ?_;refine pA 7 (some 66) U.out ?_;refine pA 8 (some 67) U.out ?_;refine pT 3 (some 62) U.out aQ.out hHeld ?_;refine pT 6 (some 65) U.out aQ.out hHeld ?_;refine pT 9 (some 68) U.out aQ.out hHeld ?_;refine pA 10 (some 69) U.out ?_;refine dh (i:=11) (N:=some 10) #[true,true,true,true,true,true,true,true,true,true,true,true,false] rfl rfl (cX U.out (by kernel_rfl)) (by decide) (fun K hK=> ?_);refine n4 ?hg (N:=10) ?hd (cs:= #[.int .i64 0,.int .i64 0,.int .i64 0,.int .i64 0]) (t:=57) ?hr ?_;(case hd=>rfl);(case hg=>rfl);(case hr=>first|(go_simp;done)|(go_simp;rfl));intro ai hg gs aW hb;have bC:=(hb.cell (World.block_lt_of_cell? _ _ (hHeld.1))).trans (hHeld.1);have bD:=(hb.cell (World.block_lt_of_cell? _ _ (hHeld.2.1))).trans (hHeld.2.1);have bH:=(hb.cell (World.block_lt_of_cell? _ _ (hHeld.2.2))).trans (hHeld.2.2);have I:=A_ (Kd.aV (oR G) hb);have J:=A_ (bb u hb);have O:=A_ (aC (oB D) hb);have V:=A_ (aW);have az:=A_ ((by rw[hg];exact(aA (oB D)):w.heap.size≤ai));have bk:=A_ ((by rw[hg];exact(aA (oB D)):w.heap.size≤ai));have bn:=A_ (nL u hg);have bo:=A_ (nG u hg);clear G u D;have G:=I;have u:=J;have D:=O;have F:=V;have co:=az;have cn:=bk;have Z:=bn;have am:=bo;clear I J O V az bk bn bo hb aW hg;refine hK.out _ _ ⟨bC,bD,bH⟩ (fun hHeld=> ?_);clear hK K;refine dL (a':= ?_) ?_ ?_;rotate_left
                ·show Act.put _ (some 10) _=_;simp only[Act.put,List.setIfInBounds_toArray,List.set_cons_zero,List.set_cons_succ,bG,bN];rfl
                refine dh (i:=12) (N:=none) #[true,true,true,true,true,true,true,true,true,true,true,true,true] rfl rfl (cX U.out (by kernel_rfl)) (by decide) (fun K hK=> ?_);have fX:=cz F 0;have eI:=ar F.out 0;have fI:=Z.out;have fo:=am.out;have fY:=cz F 1;have eL:=ar F.out 1;have fJ:=Z.out;have fp:=am.out;have fZ:=cz F 2;have eM:=ar F.out 2;have fK:=Z.out;have fq:=am.out;have f0:=cz F 3;have eN:=ar F.out 3;have fL:=Z.out;have fr:=am.out;refine lU (w1:= ?_) (by rfl) rfl ?_ ?_;rotate_left
                ·go_simp
                 rfl
                have aX:ad.block≠ai:=Kd.pZ (Kd.fU G.out F.out (by decide));refine hK.out _ _ ⟨(cF (by exact aX) hHeld.1),(cF (by exact aX) hHeld.2.1),(cF (by exact aX) hHeld.2.2)⟩ (fun hHeld=> ?_);clear hK K;refine eY (fH U.out (by kernel_rfl)) ?_;have fu:=am.out;have fx:=Z.out;have eo:=cz F 0;have ep:=cz F 1;have er:=cz F 2;have es:=cz F 3;have e7:=ar F.out 0;have e8:=ar F.out 1;have e9:=ar F.out 2;have e_:=ar F.out 3
                try go_wp2_with (first|((with_reducible refine aZ (f:=90) rfl ?_);refine gL (some 72) Tryz.func90 #[.agg #[.int .i64 X,.int .i64 (rd z 0),.int .i64 (rd z 1),.int .i64 (rd z 2)]] ?_;(with_reducible refine(fC.c k3 X (rd z 0) (rd z 1) (rd z 2) bp false _ cb.out).mono ?_);rintro e gu ⟨rfl,hb⟩;refine⟨_,rfl,?_⟩;have I:=A_ (Kd.aV (by(with_reducible repeat(first|apply Kd.bm|apply Kd.br|apply Kd.a8));exact(Kd.bh (Kd.aJ (p:=⟨ai,3,none⟩) (Kd.aJ (p:=⟨ai,2,none⟩) (Kd.aJ (p:=⟨ai,1,none⟩) (Kd.aJ (p:=⟨ai,0,none⟩) (Kd.dD G.out F.out (by decide)) (fun _ hk=>hk.2) (.int .i64 X)) (fun _ hk=>hk.2) (.int .i64 (rd z 0))) (fun _ hk=>hk.2) (.int .i64 (rd z 1))) (fun _ hk=>hk.2) (.int .i64 (rd z 2))) (fun _ h_=>h_.1))) hb);have J:=A_ (fV (g:=aU) (o:= .cells #[.int .i64 be,.int .i64 a7,.int .i64 aE,.int .i64 ap] 57 (0,0)) (by(with_reducible repeat(first|refine aT ?_ _|refine aM ?_|refine aN ?_ _));refine dx ?_ Z.out _;(with_reducible repeat(first|refine aT ?_ _|refine aM ?_|refine aN ?_ _));refine dx ?_ Z.out _;(with_reducible repeat(first|refine aT ?_ _|refine aM ?_|refine aN ?_ _));refine dx ?_ Z.out _;(with_reducible repeat(first|refine aT ?_ _|refine aM ?_|refine aN ?_ _));refine dx ?_ Z.out _;(with_reducible repeat(first|refine aT ?_ _|refine aM ?_|refine aN ?_ _));exact u.out) hb);have O:=A_ (fV (g:=ai) (o:= .cells #[.int .i64 X,.int .i64 (rd z 0),.int .i64 (rd z 1),.int .i64 (rd z 2)] 57 (0,0)) (by(with_reducible repeat(first|refine aT ?_ _|refine aM ?_|refine aN ?_ _));refine bw (cs:= #[.int .i64 X,.int .i64 (rd z 0),.int .i64 (rd z 1),.int .i64 0]) ?_ 3 _ rfl;(with_reducible repeat(first|refine aT ?_ _|refine aM ?_|refine aN ?_ _));refine bw (cs:= #[.int .i64 X,.int .i64 (rd z 0),.int .i64 0,.int .i64 0]) ?_ 2 _ rfl;(with_reducible repeat(first|refine aT ?_ _|refine aM ?_|refine aN ?_ _));refine bw (cs:= #[.int .i64 X,.int .i64 0,.int .i64 0,.int .i64 0]) ?_ 1 _ rfl;(with_reducible repeat(first|refine aT ?_ _|refine aM ?_|refine aN ?_ _));refine bw (cs:= #[.int .i64 0,.int .i64 0,.int .i64 0,.int .i64 0]) ?_ 0 _ rfl;(with_reducible repeat(first|refine aT ?_ _|refine aM ?_|refine aN ?_ _));exact F.out) hb);have V:=A_ (aC (oB D) hb);clear G u F D;have G:=I;have u:=J;have F:=O;have D:=V;clear I J O V;(try clear hb);(try clear hb2);(try clear hk);(try clear hi)))
                go_roundg k3
                case measure=>have:=bt.out;have:=bu.out;have:=b0.out;omega
                case rel=>exact⟨(wrap64 (X+1)),(be),(a7),(aE),(ap),eS,H',⟨by have:=bt.out;have:=bu.out;have:=b0.out;omega⟩,⟨oR G⟩,⟨oK u⟩,⟨oB D⟩⟩
              ·rw[ag c31]at H;exact absurd H (by simp)
             ·rw[ag b3]at H;exact absurd H (by simp)
            ·rw[ag b2]at H;exact absurd H (by simp)
           ·rw[ag c28]at H;have dk:decide (X≤7)=false:=ay c28;clear c28;simp only[Option.some.injEq,Prod.mk.injEq]at H;obtain⟨rfl,rfl,rfl,rfl,rfl⟩:=H;have et:=cz u 0;have eu:=cz u 1;have ev:=cz u 2;have ew:=cz u 3;have e':=ar u.out 0;have fa:=ar u.out 1;have fb:=ar u.out 2;have fc:=ar u.out 3;go_wp2;refine bodyPost_ret (di rfl _ _ aU 57 #[.int .i64 0,.int .i64 0,.int .i64 0,.int .i64 0] (0,0) _ rfl (by(with_reducible repeat(first|refine aT ?_ _|refine aM ?_|refine aN ?_ _));refine bw (cs:= #[.int .i64 0,.int .i64 0,.int .i64 0,.int .i64 ap]) ?_ 3 _ rfl;(with_reducible repeat(first|refine aT ?_ _|refine aM ?_|refine aN ?_ _));refine bw (cs:= #[.int .i64 0,.int .i64 0,.int .i64 aE,.int .i64 ap]) ?_ 2 _ rfl;(with_reducible repeat(first|refine aT ?_ _|refine aM ?_|refine aN ?_ _));refine bw (cs:= #[.int .i64 0,.int .i64 a7,.int .i64 aE,.int .i64 ap]) ?_ 1 _ rfl;(with_reducible repeat(first|refine aT ?_ _|refine aM ?_|refine aN ?_ _));refine bw (cs:= #[.int .i64 be,.int .i64 a7,.int .i64 aE,.int .i64 ap]) ?_ 0 _ rfl;(with_reducible repeat(first|refine aT ?_ _|refine aM ?_|refine aN ?_ _));exact u.out) Tryz.underlying57 rfl (by kernel_rfl)) rfl ?_;exact⟨eR,oB D⟩
        ·rw[ag bK]at H;exact absurd H (by simp)
    ·rw[ag c11]at H;exact absurd H (by simp)
end P
namespace Q
open Go.RowKit P WW.bq
def txt (l:List UInt8):ByteArray:=⟨l.toArray⟩
theorem iO (a b:List UInt8):txt a++txt b=txt (a++b):=by
  apply ByteArray.ext;simp[txt]
theorem eU (a:List UInt8):(txt a).size=a.length:=by simp[txt,ByteArray.size]
theorem kQ (a:List UInt8):(txt a).data.toList=a:=by simp[txt]
theorem CQ {a b:List UInt8} (h:txt a=txt b):a=b:=by have:=congrArg (fun s=>s.data.toList) h;simpa[txt]using this
theorem Ag (t:Int):strOfNums [t]=txt [UInt8.ofNat t.toNat]:=rfl
def dd (u:Nat):List UInt8:=if u=0 then[]else Go.Lib.decDigits u
theorem ye (u:Nat) (h:u≠0):dd u=dd (u/10)++[UInt8.ofNat (48+u%10)]:=by
  unfold dd;rw[ag h];by_cases h1:u<10
  · rw[Go.Lib.decDigits,dif_pos h1,af (by omega),show u%10=u by omega];rfl
  · rw[Go.Lib.decDigits,dif_neg h1,ag (by omega)]
theorem yv {a:Int} (h0:0≤a) (h1:a<10):lA.f a=some (48+a):=by
  unfold lA.f;rw[af h1,cm (by omega) (by omega)]
  congr 1
  omega
theorem yA (neg:Bool):∀(m:Nat) (x:Int) (s:List UInt8),x.natAbs<10^m→ -9223372036854775808≤x→x≤9223372036854775807→s.length+m≤1000→
    Ev (fun k=>cY.l0 k x neg (txt s)) (txt ((if neg=true then[45]else[])++(dd x.natAbs++s))):=by
  intro m
  induction m with
  |zero=>
   intro x s h h1 h2 hs;obtain rfl:x=0:=(by simp at h;omega);refine Ev.step (fun k=>by rw[cY.l0]) (ai rfl ?_);cases neg with
   |true=>exact ai rfl (ai (by rw[eU];omega) (evs (by rw[show(⟨#[45]⟩:ByteArray)=txt [45]from rfl,iO];rfl)))
   |false=>exact aw (by decide) (evs rfl)
  |succ m ih=>
   intro x s h h1 h2 hs;by_cases hx:x=0
   · subst hx;refine Ev.step (fun k=>by rw[cY.l0]) (ai rfl ?_);cases neg with
     |true=>exact ai rfl (ai (by rw[eU];omega) (evs (by rw[show(⟨#[45]⟩:ByteArray)=txt [45]from rfl,iO];rfl)))
     |false=>exact aw (by decide) (evs rfl)
   · have hn:x.natAbs≠0:=(by omega);have e1:(x.tdiv 10).natAbs=x.natAbs/10:=(by rw[Int.natAbs_tdiv];rfl);have e2:(x.tmod 10).natAbs=x.natAbs%10:=(by rw[Int.natAbs_tmod];rfl);have hb: -9223372036854775808≤x.tdiv 10∧x.tdiv 10≤9223372036854775807:=by omega
     have hlt:(x.tdiv 10).natAbs<10^m:=by
       rw[e1];rw[Nat.pow_succ]at h;omega
     have key:∀t:Int,0≤t→t<10→t.natAbs=x.natAbs%10→Ev (fun k=>(lA.f t).bind fun t109=>((some (([t109]:List Int):List Int)).bind fun u=>(if(strOfNums u).size+(txt s).size≤9223372036854775807 then(cY.l0 k (wrap64 (Int.tdiv x 10)) neg ((strOfNums u)++(txt s)))else(none)))) (txt ((if neg=true then[45]else[])++(dd x.natAbs++s))):=by
       intro t ht0 ht1 ht;refine bc (yv ht0 ht1) (bc rfl (ai (by rw[strOfNums_size,eU];simp only[List.length_singleton];omega) ?_));have:=ih (x.tdiv 10) (UInt8.ofNat (48+x.natAbs%10)::s) hlt hb.1 hb.2 (by simp only[List.length_cons];omega);rw[e1]at this;rw[cm hb.1 hb.2,Ag,iO,show(48+t).toNat=48+x.natAbs%10 by omega,ye x.natAbs hn];simpa using this
     refine Ev.step (fun k=>by rw[cY.l0]) (aw hx ?_);by_cases hneg:x.tmod 10<0
     · have hw:wrap64 (-(x.tmod 10))= -(x.tmod 10):=cm (by omega) (by omega);refine ai hneg ?_;rw[hw];exact key _ (by omega) (by omega) (by omega)
     · exact aw hneg (key _ (by omega) (by omega) (by omega))
def num (n:Int):List UInt8:=Go.Lib.itoa n
theorem lO (n:Int) (h1: -9223372036854775808≤n) (h2:n≤9223372036854775807):Ev (fun k=>cY.f k n) (txt (num n)):=by
  unfold cY.f;refine er (fun h=>evs ?_) (fun h=> ?_)
  · subst h;rw[show num 0=[48]from by unfold num Go.Lib.itoa;rw[ag (by omega),Go.Lib.decDigits];rfl];rfl
  · refine yq (yA _ 19 n [] (by have:(10:Nat)^19=10000000000000000000:=by decide
                                omega) h1 h2 (by decide)) ?_
    unfold num Go.Lib.itoa dd;rw[ag (show n.natAbs≠0 by omega)];by_cases hn:n<0
    · simp[hn]
    · simp[hn,show n.toNat=n.natAbs by omega]
theorem ua (n:Int) (h1: -9223372036854775808≤n) (h2:n≤9223372036854775807):k8.f n=some (txt (num n)):=by
  unfold k8.f;rw[af ⟨h1,h2⟩];rfl
theorem kD (n:Int) (h1: -9223372036854775808≤n) (h2:n≤9223372036854775807):(num n).length≤21:=Go.Lib.itoa_length_le n h1 h2
def fu (l:List Int):List UInt8:=l.flatMap fun n=>32::num n
theorem wj (l:List Int) (h:∀n∈l,-9223372036854775808≤n∧n≤9223372036854775807):(fu l).length≤22*l.length:=by
  induction l with
  |nil=>simp[fu]
  |cons a r ih=>
   have h1:=kD a (h a (by simp)).1 (h a (by simp)).2;have h2:=ih (fun n hn=>h n (by simp[hn]));simp only[fu,List.flatMap_cons,List.length_append,List.length_cons]at h2 ⊢;omega
def line (l:List Int):List UInt8:=Go.Lib.join (l.map num) [32]
theorem oy (a:Int) (r:List Int):line (a::r)=num a++fu r:=by
  unfold line;rw[List.map_cons,Go.Lib.join_cons]
  congr 1
  induction r with
  |nil=>rfl
  |cons b r ih=>
   simp only[Go.Lib.joinTail,List.map_cons,List.flatten_cons,fu,List.flatMap_cons]at ih ⊢;rw[ih];rfl
theorem oz (l:List Int) (h:∀n∈l,-9223372036854775808≤n∧n≤9223372036854775807):(line l).length≤22*l.length:=by
  cases l with
  |nil=>simp[line,Go.Lib.join_nil]
  |cons a r=>
   rw[oy];have h1:=kD a (h a (by simp)).1 (h a (by simp)).2;have h2:=wj r (fun n hn=>h n (by simp[hn]));simp only[List.length_append,List.length_cons];omega
theorem CX (l:List Int) (h:∀n∈l,-9223372036854775808≤n∧n≤9223372036854775807) (hl:l.length≤1048576):∀(d i:Nat),i+d=l.length→
    Ev (fun k=>b_.l0 k ((l.take i).map fun n=>txt (num n)) l (l.length:Int) (i:Int)) (txt (line l)):=by
  intro d
  induction d with
  |zero=>
   intro i hi;obtain rfl:i=l.length:=(by omega);refine Ev.step (fun k=>by rw[b_.l0]) (aw (by omega) ?_);refine bc (a:=txt (line l)) ?_ (evs rfl);unfold strings_Join.f;rw[List.take_length]
   have e:((l.map fun n=>txt (num n)).map fun x=>x.data.toList)=l.map num:=by
     rw[List.map_map];exact List.map_congr_left (fun n _=>kQ _)
   rw[e];have h3:=oz l h;rw[af ⟨by simp;omega,by unfold line at h3;show(Go.Lib.join (l.map num) [32]).length≤_;omega⟩];rfl
  |succ d ih=>
   intro i hi;have hlt:i<l.length:=(by omega);have hm:=h l[i] (List.getElem_mem hlt);refine Ev.step (fun k=>by rw[b_.l0]) (ai (by omega) (ai (by omega) (ai (by omega) ?_)));rw[ny l i hlt];refine bc (ua _ hm.1 hm.2) (ai (by simp;omega) ?_);have:=ih (i+1) (by omega);rw[List.take_succ_eq_append_getElem hlt,List.map_append]at this;rw[cm (by omega) (by omega)];exact this
theorem qF (l:List Int) (h:∀n∈l,-9223372036854775808≤n∧n≤9223372036854775807) (hl:l.length≤1048576):Ev (fun k=>b_.f k l) (txt (line l)):=by
  unfold b_.f;exact CX l h hl l.length 0 (by omega)
def dp:List UInt8→List UInt8→List (List UInt8)
  |cur,[]=>if cur=[]then[]else[cur]
  |cur,b::r=>if b=32 then(if cur=[]then dp [] r else cur::dp [] r)else dp (cur++[b]) r
def gh (c:List UInt8):List (List UInt8)→List (List UInt8)
  |[]=>[]
  |p::r=>(c++p)::r
theorem vk (a b:List UInt8) (X:List (List UInt8)):gh a (gh b X)=gh (a++b) X:=by cases X<;>simp[gh]
theorem qg (X:List (List UInt8)):gh [] X=X:=by cases X<;>simp[gh]
theorem Ci (b:UInt8) (hb:b≠32) (k:Nat) (l:List UInt8):Go.Lib.splitK [32] 0 k (b::l)=gh [b] (Go.Lib.splitK [32] 0 k l):=by
  cases k with
  |zero=>rfl
  |succ k=>
   have h1:=Go.Lib.indexByte_ge l 32
   have e:Go.Lib.index (b::l) [32]=if(Go.Lib.index l [32]== -1)=true then-1 else Go.Lib.index l [32]+1:=by
     rw[ky,ky,Go.Lib.indexByte];have:(b==32)=false:=(by simpa using hb);rw[this];simp
   rw[←ky]at h1;unfold Go.Lib.splitK;rw[e];by_cases h:Go.Lib.index l [32]= -1
   · simp[h,gh]
   · obtain⟨i,hi⟩:∃i:Nat,Go.Lib.index l [32]=i:=⟨(Go.Lib.index l [32]).toNat,by omega⟩;have n1:((i:Int)== -1)=false:=(by rw[beq_eq_false_iff_ne];omega);have n2:((i:Int)+1== -1)=false:=(by rw[beq_eq_false_iff_ne];omega);rw[hi,n1];simp only[Bool.false_eq_true,if_false,n2,gh];have n3:((i:Int)+1).toNat=i+1:=(by omega);rw[n3];simp
theorem Ch (k:Nat) (l:List UInt8):Go.Lib.splitK [32] 0 (k+1) (32::l)=[]::Go.Lib.splitK [32] 0 k l:=by
  have e:Go.Lib.index (32::l) [32]=0:=by rw[ky,Go.Lib.indexByte];simp
  rw[Go.Lib.splitK,e];simp
theorem sU:∀(l cur:List UInt8),(gh cur (Go.Lib.splitK [32] 0 (l.count 32) l)).filter (fun p=>decide (p≠[]))=dp cur l
  |[],cur=>by
   simp only[List.count_nil,Go.Lib.splitK,gh,dp,List.append_nil];by_cases h:cur=[]<;>simp[h]
  |b::r,cur=>by
   rw[dp];by_cases hb:b=32
   · subst hb;rw[af rfl,List.count_cons_self,Ch];have ih:=sU r [];rw[qg]at ih;by_cases h:cur=[]
     · subst h;rw[af rfl,←ih];simp[gh]
     · rw[ag h,←ih];simp[h,gh]
   · rw[ag hb,List.count_cons_of_ne hb,Ci b hb,vk];exact sU r (cur++[b])
theorem Cm (l:List UInt8):(Go.Lib.split l [32]).filter (fun p=>decide (p≠[]))=dp [] l:=by
  rw[Go.Lib.split,Go.Lib.count_one,←sU l [],qg]
def okB (b:UInt8):Bool:=decide (32≤b.toNat)&&decide (b.toNat≤126)
def eu (s:ByteArray):List ByteArray×Bool:=
  if s.size≤600∧s.data.toList.all okB=true then(if((dp [] s.data.toList).map txt).length>24 then([],false)else((dp [] s.data.toList).map txt,true))else([],false)
theorem nb (s:ByteArray) (i:Nat) (h:i<s.data.toList.length):bt s (i:Int)=((s.data.toList[i]).toNat:Int):=by
  have h':(i:Int).toNat<s.size:=by have e:s.data.toList.length=s.size:=Array.length_toList;omega
  have:=gm s (i:Int) h';rw[←this];rfl
theorem toList_eq (s:ByteArray):s.toList=s.data.toList:=Go.Lib.toList_data s
theorem wz (s:ByteArray):txt s.data.toList=s:=by apply ByteArray.ext;simp[txt]
theorem yw (P:List ByteArray) (hP:P.length≤1000):∀(d i:Nat) (acc:List ByteArray),i+d=P.length→acc.length≤i→
    Ev (fun k=>dV.l1 k acc P (P.length:Int) (i:Int)) (if(acc++(P.drop i).filter (fun p=>decide (p.data.toList≠[]))).length>24 then([],false)else(acc++(P.drop i).filter (fun p=>decide (p.data.toList≠[])),true)):=by
  intro d
  induction d with
  |zero=>
   intro i acc h ha;obtain rfl:i=P.length:=(by omega);refine Ev.step (fun k=>by rw[dV.l1]) (aw (by omega) ?_);simp only[List.drop_length,List.filter_nil,List.append_nil];exact er (fun h=>bC (by omega) (Ev.now _)) (fun h=>bf (by omega) (Ev.now _))
  |succ d ih=>
   intro i acc h ha;have hi:i<P.length:=(by omega);have e:bF ByteArray.empty P (i:Int)=P[i]:=(by simp[bF,List.getD_eq_getElem?_getD,hi]);refine Ev.step (fun k=>by rw[dV.l1]) (ai (by omega) (ai (by omega) (ai (by omega) ?_)));rw[e,toList_eq,cm (by omega) (by omega),List.drop_eq_getElem_cons hi];by_cases hz:P[i].data.toList=[]
   · refine ai hz ?_;have:=ih (i+1) acc (by omega) (by omega);rw[List.filter_cons_of_neg (by simp[hz])];simpa using this
   · refine aw hz (ai (by omega) ?_);have:=ih (i+1) (acc++[P[i]]) (by omega) (by simp;omega);rw[List.filter_cons_of_pos (by simp[hz])];simpa using this
theorem uP {b:UInt8} (h1:32≤b.toNat) (h2:b.toNat≤126):okB b=true:=by unfold okB;rw[ah h1,ah h2];rfl
theorem pY {b:UInt8} (h:b.toNat<32∨126<b.toNat) {c:Bool}:¬(okB b&&c)=true:=by
  intro h1;unfold okB at h1;rw[Bool.and_eq_true,Bool.and_eq_true]at h1;have a1:=of_decide_eq_true h1.1.1;have a2:=of_decide_eq_true h1.1.2;omega
theorem tZ (s:ByteArray):Ev (fun k=>dV.f k s) (eu s):=by
  unfold dV.f eu;refine er (fun h=>bf (by omega) (Ev.now _)) (fun h=> ?_);have hsz:s.size≤600:=by omega
  have hl:s.data.toList.length=s.size:=Array.length_toList
  have key:∀(d i:Nat),i+d=s.size→Ev (fun k=>dV.l0 k s (i:Int)) (if(s.data.toList.drop i).all okB=true then(if((dp [] s.data.toList).map txt).length>24 then([],false)else((dp [] s.data.toList).map txt,true))else([],false)):=by
    intro d
    induction d with
    |zero=>
     intro i h;have hi:i=s.size:=(by omega);refine Ev.step (fun k=>by rw[dV.l0]) (aw (by omega) ?_);rw[List.drop_eq_nil_of_le (by omega)];refine bC rfl ?_;have hc:=Go.Lib.countB_le (⟨#[32]⟩:ByteArray) (Nat.le_refl 1) s.size s (Nat.le_refl _);have hn:=Go.Lib.splitB_all (⟨#[32]⟩:ByteArray) (Nat.le_refl 1) 0 _ s rfl;refine bc (a:=Go.Lib.splitB (⟨#[32]⟩:ByteArray) 0 (Go.Lib.countB s ⟨#[32]⟩) s) (by unfold strings_Split.f;rw[af ⟨rfl,by omega⟩]) ?_;have h1:=yw (Go.Lib.splitB (⟨#[32]⟩:ByteArray) 0 (Go.Lib.countB s ⟨#[32]⟩) s) (by omega) _ 0 [] (Nat.zero_add _) (Nat.zero_le _)
     have e:(Go.Lib.splitB (⟨#[32]⟩:ByteArray) 0 (Go.Lib.countB s ⟨#[32]⟩) s).filter (fun p=>decide (p.data.toList≠[]))=(dp [] s.data.toList).map txt:=by
       have e1:(Go.Lib.splitB (⟨#[32]⟩:ByteArray) 0 (Go.Lib.countB s ⟨#[32]⟩) s).map (·.data.toList)=Go.Lib.split s.data.toList [32]:=(by rw[Go.Lib.splitB_data];rfl);rw[←Cm,←e1];generalize Go.Lib.splitB (⟨#[32]⟩:ByteArray) 0 (Go.Lib.countB s ⟨#[32]⟩) s=X
       induction X with
       |nil=>rfl
       |cons p r ih=>
        by_cases hz:p.data.toList=[]
        · rw[List.filter_cons_of_neg (by simp[hz]),List.map_cons,List.filter_cons_of_neg (by simp[hz])];exact ih
        · rw[List.filter_cons_of_pos (by simp[hz]),List.map_cons,List.filter_cons_of_pos (by simp[hz]),List.map_cons,wz,ih]
     simp only[List.drop_zero,List.nil_append,e]at h1;exact h1
    |succ d ih=>
     intro i h;have hi:i<s.data.toList.length:=(by omega);refine Ev.step (fun k=>by rw[dV.l0]) (ai (by omega) (ai (by omega) ?_));rw[nb s i hi,cm (by omega) (by omega),List.drop_eq_getElem_cons hi,List.all_cons];refine er (fun hb=>bf (pY (.inl (by omega))) (Ev.now _)) (fun hb=>er (fun hc=>bf (pY (.inr (by omega))) (Ev.now _)) (fun hc=> ?_));have e:okB s.data.toList[i]=true:=uP (by omega) (by omega);rw[e,Bool.true_and];have:=ih (i+1) (by omega);simpa using this
  have:=key s.size 0 (Nat.zero_add _);simp only[List.drop_zero]at this;have e:(s.size≤600∧s.data.toList.all okB=true)=(s.data.toList.all okB=true):=by simp[hsz]
  simp only[e];exact this
theorem t_ (s:ByteArray):Ev (fun k=>cB.f k s) (eu s):=by
  unfold cB.f eu;refine bc (a:=[]) rfl (er (fun h=>bf (by omega) (Ev.now _)) (fun h=> ?_));have hsz:s.size≤600:=by omega
  have hl:s.data.toList.length=s.size:=Array.length_toList
  have key:∀(d i a:Nat) (acc:List ByteArray),i+d=s.size→a≤i→acc.length≤i→
      Ev (fun k=>cB.l0 k s acc (a:Int) (i:Int)) (if(s.data.toList.drop i).all okB=true then(if(acc++(dp ((s.data.toList.drop a).take (i-a)) (s.data.toList.drop i)).map txt).length>24 then([],false)else(acc++(dp ((s.data.toList.drop a).take (i-a)) (s.data.toList.drop i)).map txt,true))else([],false)):=by
    have ext:∀a i:Nat,a≤i→s.extract a i=txt ((s.data.toList.drop a).take (i-a)):=by
      intro a i h;apply ByteArray.ext;apply Array.toList_inj.mp;simp[txt,ByteArray.data_extract]
    have z:∀a i:Nat,a≤i→i≤s.size→((s.data.toList.drop a).take (i-a)).length=i-a:=by
      intro a i h1 h2;rw[List.length_take,List.length_drop];omega
    have F:∀a i:Nat,a≤i→(hi:i<s.data.toList.length)→(s.data.toList.drop a).take (i+1-a)=(s.data.toList.drop a).take (i-a)++[s.data.toList[i]]:=by
      intro a i h1 hi;rw[show i+1-a=(i-a)+1 by omega,List.take_succ_eq_append_getElem (by rw[List.length_drop];omega),List.getElem_drop]
      congr 2
      congr 1
      omega
    have tn:∀n:Nat,((n:Int)).toNat=n:=fun n=>Int.toNat_natCast n;intro d
    induction d with
    |zero=>
     intro i a acc h ha hc;have hi:i=s.size:=(by omega);refine Ev.step (fun k=>by rw[cB.l0]) (ai (by omega) (aw (by omega) ?_));refine Ev.step (fun k=>by rw[cB.j1]) (aw (by decide) (aw (by omega) ?_));refine Ev.step (fun k=>by rw[cB.j2]) (aw (by decide) ?_);rw[List.drop_eq_nil_of_le (show s.data.toList.length≤i by omega),dp,cm (by omega) (by omega),tn,tn];refine bC rfl ?_;have hcl:=z a i ha (by omega);refine er (fun hai=>ai (by omega) (ai (by omega) (ai (by omega) (ai (by omega) (Ev.step (fun k=>by rw[cB.l0]) (aw (by omega) ?_)))))) (fun hai=>Ev.step (fun k=>by rw[cB.l0]) (aw (by omega) ?_))
     · have hne:(s.data.toList.drop a).take (i-a)≠[]:=(by intro e;rw[e]at hcl;simp at hcl;omega);rw[ag hne,ext a i ha];simp only[List.map_cons,List.map_nil];exact er (fun h=>bC (by omega) (Ev.now _)) (fun h=>bf (by omega) (Ev.now _))
     · have hne:(s.data.toList.drop a).take (i-a)=[]:=List.eq_nil_of_length_eq_zero (by omega);rw[af hne];simp only[List.map_nil,List.append_nil];exact er (fun h=>bC (by omega) (Ev.now _)) (fun h=>bf (by omega) (Ev.now _))
    |succ d ih=>
     intro i a acc h ha hc;have hi:i<s.data.toList.length:=(by omega);have G:=F a i ha hi;have hcl:=z a i ha (by omega);refine Ev.step (fun k=>by rw[cB.l0]) (ai (by omega) (ai (by omega) (ai (by omega) ?_)));rw[nb s i hi,List.drop_eq_getElem_cons hi,List.all_cons];generalize hb:s.data.toList[i]=b at*;refine er (fun h1=>bf (pY (.inl (by omega))) (Ev.step (fun k=>by rw[cB.j1]) (ai rfl (Ev.now _)))) (fun h1=>Ev.step (fun k=>by rw[cB.j1]) (er (fun h2=>bf (pY (.inr (by have:=of_decide_eq_true h2;omega))) (Ev.now _)) (fun h2=>ai (by omega) (ai (by omega) ?_))));have h3:¬(b.toNat:Int)>126:=fun hh=>h2 (ah hh);have e:okB b=true:=uP (by omega) (by omega);rw[e,Bool.true_and,nb s i hi,hb,dp];refine Ev.step (fun k=>by rw[cB.j2]) ?_;rw[cm (by omega) (by omega),tn,tn];by_cases u:b=32
     · refine aw (by rw[u];decide) ?_;rw[af u];have D:(s.data.toList.drop (i+1)).take (i+1-(i+1))=[]:=(by rw[Nat.sub_self,List.take_zero]);refine er (fun hai=>ai (by omega) (ai (by omega) (ai (by omega) (ai (by omega) ?_)))) (fun hai=> ?_)
       · have hne:(s.data.toList.drop a).take (i-a)≠[]:=(by intro e;rw[e]at hcl;simp at hcl;omega);rw[ag hne];have:=ih (i+1) (i+1) (acc++[s.extract a i]) (by omega) (Nat.le_refl _) (by simp;omega);rw[D,ext a i ha]at this;rw[ext a i ha];simpa using this
       · have hne:(s.data.toList.drop a).take (i-a)=[]:=List.eq_nil_of_length_eq_zero (by omega);rw[af hne];have:=ih (i+1) (i+1) acc (by omega) (Nat.le_refl _) (by omega);rw[D]at this;simpa using this
     · have hn:b.toNat≠32:=fun hh=>u (UInt8.toNat_inj.mp hh);refine ai (bne_iff_ne.mpr (by omega)) ?_;rw[ag u,←G];have:=ih (i+1) a acc (by omega) (by omega) (by omega);simpa using this
  have:=key s.size 0 0 [] (Nat.zero_add _) (Nat.le_refl _) (Nat.zero_le _);simp only[List.drop_zero,List.take_zero,Nat.sub_self,List.nil_append]at this;have e:(s.size≤600∧s.data.toList.all okB=true)=(s.data.toList.all okB=true):=by simp[hsz]
  simp only[e];exact this
end Q

end Go.Proofs.YtnjfiaekdcekgaaGreatDoor
