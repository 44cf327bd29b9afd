/- What functions of the program come to (f), that their calls come to just this (calls), and the plain laws over lists and numbers. No condition but those of the given row. -/
import Derived.Test.YtnjfiaekdcekgaaGreatDoorE2
import Derived.Lib.AppendIntMem
import Derived.Lib.ItoaLen
set_option linter.unusedVariables false
set_option linter.unusedSimpArgs false
namespace Go.Proofs.YtnjfiaekdcekgaaGreatDoor
namespace P
set_option maxHeartbeats 8000000
set_option maxRecDepth 100000
set_option synthInstance.maxHeartbeats 400000
set_option synthInstance.maxSize 100000
open Go.RowKit WW.bc WW.bY WW.bZ V
attribute [local go_sem] dB dC gT iV iW jI jJ
attribute [local go_sem] cP cT cS cW cR cV cQ cU
def eB.f (k:Nat) (D:List (ag)) (F:Int) (G:List Int):Option ((List (ag))×Int×List Int×Bool):=(fc.f D F G).bind fun u=>((dc.f k D F G).bind fun z=>(if(z.length:Int)=0 then(some (u.1,u.2.1,u.2.2,false))else(if 0<(z.length:Int)then((fD.f k D F G (rd z 0)).bind fun H=>(if H=0 then(some (u.1,u.2.1,u.2.2,false))else(if 0≤(rd z 0)then(if(rd z 0)<(D.length:Int)then(if 0≤((ar D (rd z 0)).f1)then(if((ar D (rd z 0)).f1)<(u.2.2.length:Int)then(some (u.1,u.2.1,(u.2.2.set (((ar D (rd z 0)).f1):Int).toNat H),true))else(none))else(none))else(none))else(none))))else(none))))
def eB.T8:Bool×List (List Nat×List Nat):=(true,[([],[]),([0],[0]),([],[]),([2],[2]),([],[]),([4],[4]),([5],[5]),([3,6],[3,6]),([7],[7]),([8],[8]),([],[]),([1,9,0,1,2,3,4,5,6,7,8,9,10],[1,9]),([11,10,0,1,2,3,4,5,6,7,8,9,10],[10,11])])
def eB.B8:List Nat:=[0,1,0,4,0,16,48,124,252,508,0,2047,4095]
theorem eB.ju:aW .any (opsOf Tryz.f101 8)=eB.T8:=by kernel_rfl
theorem eB.iT:bL eB.T8.2 eB.B8=true:=by kernel_rfl
noncomputable def eB.T5:Bool×List (List Nat×List Nat):=aW .any (opsOf Tryz.f101 5)
def eB.B5:List Nat:=[0,0,2,6,15,31]
theorem eB.oO:aW .any (opsOf Tryz.f101 5)=eB.T5:=rfl
theorem eB.nT:bL eB.T5.2 eB.B5=true:=by kernel_rfl
theorem eB.c (k:Nat) (I:Option Addr) (U:Nat) (D:List (ag)) (O:Int) (J:Option Addr) (V:Nat) (F:List Int) (r1:List (ag)) (r2:Int) (r3:List Int) (aE:Bool) (w:World) (aq:Kd.C aN w I D.length D) (am:D.length≤U) (ar:Kd.C (Kd.int .i64) w J F.length F) (ao:F.length≤V) (h:eB.f k D O F=some (r1,r2,r3,aE)):
  Calls Tryz.prog 101 #[.agg #[.slice I D.length U,.int .i64 O,.slice J F.length V]] w fun e w'=>∃aF aG:Value,e= .returned (.tuple #[.agg #[aF,.int .i64 r2,aG],.bool aE])∧Kd.R aN 110 w' w.heap.size (fun _=>True) aF r1∧Kd.R (Kd.int .i64) 3 w' w.heap.size (fun _=>True) aG r3∧Below w.heap.size w w':=by
 replace aq:=a6.mk aq;replace am:=af.mk am;replace ar:=a6.mk ar;replace ao:=af.mk ao;have aR:=bK.mk (d:=aN) (e:=110) (t:=3) (by decide);have aQ:=bK.mk (d:=aN) (e:=110) (t:=27) (by decide);unfold eB.f at h;have aP:=Tryz.underlying27
 all_goals go_enter Tryz.func101,Tryz.ntmps101
 all_goals go_wp2_with ((first
  |((with_reducible refine aC (N:=1) rfl ?_);refine bV #[.slice I D.length U,.int .i64 O,.slice J F.length V] 27 fun g w1 j1 j2 aB=> ?_)
  |((with_reducible refine aC (N:=2) rfl ?_);refine bV #[.slice none 0 0,.int .i64 0,.slice none 0 0] 27 fun g w1 j1 j2 aB=> ?_)
  |((with_reducible refine aC (N:=4) rfl ?_);refine bV #[.slice none 0 0,.int .i64 0,.slice none 0 0] 27 fun g w1 j1 j2 aB=> ?_)
  |(go_at_call 53;(try rw[H.out]);replace h:=bI h;obtain⟨⟨t1,t2,t3⟩,A,h⟩:=h;(try dsimp only at h);refine(fc.c _ _ _ _ _ _ _ _ _ _ _ Rd.out af.out Rd.out af.out A).mono ?_;rintro e w2 ⟨v0,v1,rfl,G,ap,hb⟩;obtain⟨aH,b0,rfl,j0,q0⟩:=av G;obtain⟨B1,b1,rfl,j1,q1⟩:=av ap;have aD:=au.mk hb;clear A G ap hb)
  |(go_at_call 100;(try rw[H.out]);replace h:=bI h;obtain⟨t,A,h⟩:=h;(try dsimp only at h);refine(dc.c _ _ _ _ _ _ _ _ _ _ Rd.out af.out Rd.out af.out A).mono ?_;rintro e w2 ⟨v0,rfl,G,hb⟩;obtain⟨aH,b0,rfl,j0,q0⟩:=av G;have aD:=au.mk hb;clear A G hb)
  |(refine qR (id:=5) (ds:=[]) (l:= #[false,false,false,false,false,false]) eB.oO eB.nT ?_;intro u z w3 aL u0 aK hHeld;refine qA 1 (some 16) u ?_;refine qA 2 (some 17) u ?_;refine qT 0 (some 15) u z hHeld ?_;refine qT 3 (some 18) u z hHeld ?_;replace h:=bI h;obtain⟨t,A,h⟩:=h;(try dsimp only at h);refine qC 4 19 Tryz.func131 u fun K hK=> ?_;refine(fD.c _ _ _ _ _ _ _ _ _ _ _ Rd.out af.out Rd.out af.out A).mono ?_;rintro e w2 ⟨rfl,hb⟩;have aD:=au.mk hb;clear A hb;refine⟨_,rfl,hK _ _ From.out fun hHeld=> ?_⟩;clear hK K;refine qN ?_;refine qA 5 (some 6) u ?_;refine qD u ?_)
  |(refine qR (id:=8) (ds:=[12]) (l:= #[false,false,false,false,false,false,false,false,false,false,false,false,false]) eB.ju eB.iT ?_;intro u z w3 aL u0 aK hHeld;refine qA 0 (some 23) u ?_;refine qA 2 (some 25) u ?_;refine qA 4 (some 27) u ?_;refine qA 5 (some 28) u ?_;refine qA 10 (some 33) u ?_;refine qT 1 (some 24) u z hHeld ?_;refine qT 3 (some 26) u z hHeld ?_;refine qT 6 (some 29) u z hHeld ?_;refine qA 7 (some 30) u ?_;refine qA 8 (some 31) u ?_;refine qT 9 (some 32) u z hHeld ?_;refine qA 11 (some 34) u ?_;refine qL 12 u ?_;refine qD u ?_));(repeat' first|((with_reducible replace h:=bC h);rcases h with ⟨hc,h⟩|⟨hc,h⟩<;>first|exact(bo h).elim|exact absurd hc (by decide)|subst hc|(replace hc:=aM hc;subst hc)|(replace hc:=bR hc;subst hc)|(replace hc:=bS hc;subst hc)|(have hd:(_==_)=true:=hc)|(have hd:(_==_)=false:=aM hc)|(have hd:=bw hc;have he:=bz hc;clear hc)|(have hd:=bA hc;have he:=bB hc)|(have hd:=ax hc)|(have hd:=ah hc;(try(have hn:=Int.natCast_pos.mp hc;have hm:=ah hn;replace hn:=aw hn));first|(obtain⟨aO,e_,i_⟩:=bQ (by assumption) (by first|assumption|decide) hc;cases e_)|(obtain⟨aI,e_,c_⟩:=bO (by assumption) (by first|assumption|decide) hc;cases e_)|(obtain⟨aI,e_,X,ad,ak,al⟩:=eN (a6.out (self:=by assumption)) _ (by first|assumption|decide) hc;cases e_;replace X:=bj.mk X;replace ad:=bj.mk ad;replace ak:=bj.mk ak;replace al:=bj.mk al))|(have hd:=ah hc)|skip)|((with_reducible replace h:=bP h);obtain⟨H,h⟩:=h;replace H:=A_ H;(try dsimp only at h)));all_goals(try have hn:decide (0<t.length)=true:=ah (by omega));all_goals(try have hn:decide (0<t.length)=false:=ax (by omega)))
 all_goals simp only[Option.some.injEq,Prod.mk.injEq]at h
 all_goals obtain⟨rfl,rfl,rfl,rfl⟩:=h
 all_goals refine bodyPost_ret (dW rfl _ _ _ _ _ (0,0) _ rfl aJ.out Tryz.underlying27 rfl (by kernel_rfl)) rfl ?_
 all_goals exact⟨_,_,rfl,(by first|exact a8|exact Kd.aY _ _ _ _ _|exact bG|exact dD (by simp)),(by first|exact a8|exact Kd.aY _ _ _ _ _|exact bG|exact dD (by simp)),From.out⟩
def en.j0:Nat→Int→Int→Bool→List (ag)→Int→List Int→List (ag)→Int→List Int→Option ((List (ag))×Int×List Int×Bool)
 |0,_,_,_,_,_,_,_,_,_=>none
 |k+1,x1,x2,I,J,K,O,D,F,u=>if I=true then(some (D,F,u,false))else(if 0≤x1 then(if x1<(u.length:Int)then((some (u.set (x1:Int).toNat (wrap64 ((rd u x1)+x2)):List Int)).bind fun G=>((fJ.f D F G).bind fun H=>(if H=true then(some (D,F,G,true))else((fc.f J K O).bind fun z=>(some (z.1,z.2.1,z.2.2,false))))))else(none))else(none))
def en.f (k:Nat) (F:List (ag)) (D:Int) (z:List Int) (a1:Int) (a2:Int):Option ((List (ag))×Int×List Int×Bool):=(fc.f F D z).bind fun u=>((fJ.f F D z).bind fun G=>(if G=true then((cx.f a1 0 11).bind fun H=>(if H=true then(if 0≤a1 then(if a1<(z.length:Int)then(if(rd z a1)=0 then(en.j0 k a1 a2 true F D z u.1 u.2.1 u.2.2)else((cx.f a2 (-100000) 100000).bind fun I=>(en.j0 k a1 a2 (!I) F D z u.1 u.2.1 u.2.2)))else(none))else(none))else(en.j0 k a1 a2 true F D z u.1 u.2.1 u.2.2)))else(en.j0 k a1 a2 true F D z u.1 u.2.1 u.2.2)))
def en.T4:Bool×List (List Nat×List Nat):=(true,[([],[]),([0],[0]),([],[]),([],[]),([3],[3]),([],[]),([4,5],[4,5]),([6],[6]),([],[]),([7,8],[7,8]),([1,2,0,1,2,3,4,5,6,7,8,9],[1,2]),([10,9,0,1,2,3,4,5,6,7,8,9],[9,10])])
def en.B4:List Nat:=[0,1,0,0,8,0,56,120,0,504,1023,2047]
theorem en.oM:aW .any (opsOf Tryz.f103 4)=en.T4:=by kernel_rfl
theorem en.nS:bL en.T4.2 en.B4=true:=by kernel_rfl
theorem en.c (k:Nat) (G:Option Addr) (K:Nat) (z:List (ag)) (J:Int) (H:Option Addr) (O:Nat) (D:List Int) (a1:Int) (a2:Int) (r1:List (ag)) (r2:Int) (r3:List Int) (ao:Bool) (w:World) (ak:Kd.C aN w G z.length z) (U:z.length≤K) (al:Kd.C (Kd.int .i64) w H D.length D) (V:D.length≤O) (h:en.f k z J D a1 a2=some (r1,r2,r3,ao)):
  Calls Tryz.prog 103 #[.agg #[.slice G z.length K,.int .i64 J,.slice H D.length O],.int .i64 a1,.int .i64 a2] w fun e w'=>∃ap aq:Value,e= .returned (.tuple #[.agg #[ap,.int .i64 r2,aq],.bool ao])∧Kd.R aN 110 w' w.heap.size (fun _=>True) ap r1∧Kd.R (Kd.int .i64) 3 w' w.heap.size (fun _=>True) aq r3∧Below w.heap.size w w':=by
 replace ak:=a6.mk ak;replace U:=af.mk U;replace al:=a6.mk al;replace V:=af.mk V;have aK:=bK.mk (d:=aN) (e:=110) (t:=3) (by decide);have aI:=bK.mk (d:=aN) (e:=110) (t:=27) (by decide);unfold en.f at h;have aF:=Tryz.underlying27
 all_goals go_enter Tryz.func103,Tryz.ntmps103
 all_goals go_wp2_with ((first
  |((with_reducible refine aC (N:=3) rfl ?_);refine bV #[.slice G z.length K,.int .i64 J,.slice H D.length O] 27 fun g w1 j1 j2 am=> ?_)
  |((with_reducible refine aC (N:=6) rfl ?_);refine bV #[.slice none 0 0,.int .i64 0,.slice none 0 0] 27 fun g w1 j1 j2 am=> ?_)
  |((with_reducible refine aC (N:=8) rfl ?_);refine bV #[.slice none 0 0,.int .i64 0,.slice none 0 0] 27 fun g w1 j1 j2 am=> ?_)
  |(go_at_call 53;(try rw[F.out]);replace h:=bI h;obtain⟨⟨t1,t2,t3⟩,A,h⟩:=h;(try dsimp only at h);refine(fc.c _ _ _ _ _ _ _ _ _ _ _ Rd.out af.out Rd.out af.out A).mono ?_;rintro e w2 ⟨v0,v1,rfl,X,ad,hb⟩;obtain⟨aB,b0,rfl,j0,q0⟩:=av X;obtain⟨B1,b1,rfl,j1,q1⟩:=av ad;have ar:=au.mk hb;clear A X ad hb)
  |(go_at_call 55;(try rw[F.out]);replace h:=bI h;obtain⟨t,A,h⟩:=h;(try dsimp only at h);refine(fJ.c _ _ _ _ _ _ _ _ _ Rd.out af.out Rd.out af.out A).mono ?_;rintro e w2 ⟨rfl,hb⟩;have ar:=au.mk hb;clear A hb)
  |(go_at_call 58;(try rw[F.out]);replace h:=bI h;obtain⟨t,A,h⟩:=h;(try dsimp only at h);refine(cx.c _ _ _ _ _ A).mono ?_;rintro e w2 ⟨rfl,n,rfl⟩;clear A)
  |(refine qR (id:=4) (ds:=[11]) (l:= #[false,false,false,false,false,false,false,false,false,false,false,false]) en.oM en.nS ?_;intro u I w3 aH u0 aG hHeld;refine qA 0 (some 33) u ?_;refine qA 2 (some 35) u ?_;refine qA 3 (some 36) u ?_;refine qA 5 (some 38) u ?_;refine qA 8 (some 41) u ?_;refine qT 1 (some 34) u I hHeld ?_;refine qT 4 (some 37) u I hHeld ?_;refine qA 6 (some 39) u ?_;refine qT 7 (some 40) u I hHeld ?_;refine qA 9 (some 42) u ?_;refine qA 10 (some 43) u ?_;refine qL 11 u ?_;refine qD u ?_));(repeat' first|((with_reducible replace h:=bC h);rcases h with ⟨hc,h⟩|⟨hc,h⟩<;>first|exact(bo h).elim|exact absurd hc (by decide)|subst hc|(replace hc:=aM hc;subst hc)|(replace hc:=bR hc;subst hc)|(replace hc:=bS hc;subst hc)|(have hd:(_==_)=true:=hc)|(have hd:(_==_)=false:=aM hc)|(have hd:=bw hc;have he:=bz hc;clear hc)|(have hd:=bA hc;have he:=bB hc)|(have hd:=ax hc)|(have hd:=ah hc;(try(have hn:=Int.natCast_pos.mp hc;have hm:=ah hn;replace hn:=aw hn));first|(obtain⟨aE,e_,i_⟩:=bQ (by assumption) (by first|assumption|decide) hc;cases e_)|(obtain⟨aD,e_,c_⟩:=bO (by assumption) (by first|assumption|decide) hc;cases e_))|(have hd:=ah hc)|skip)|((with_reducible have hj:en.j0 k _ _ _ _ _ _ _ _ _=_:=h);clear hj;rcases k with _|k<;>rw[en.j0]at h<;>first|exact(bo h).elim|skip)|((with_reducible replace h:=bP h);obtain⟨F,h⟩:=h;replace F:=A_ F;(try dsimp only at h))))
 all_goals simp only[Option.some.injEq,Prod.mk.injEq]at h
 all_goals obtain⟨rfl,rfl,rfl,rfl⟩:=h
 all_goals refine bodyPost_ret (dW rfl _ _ _ _ _ (0,0) _ rfl aJ.out Tryz.underlying27 rfl (by kernel_rfl)) rfl ?_
 all_goals exact⟨_,_,rfl,(by first|exact a8|exact Kd.aY _ _ _ _ _|exact bG|exact dD (by simp)),(by first|exact a8|exact Kd.aY _ _ _ _ _|exact bG|exact dD (by simp)),From.out⟩
def gl.j0:Nat→Int→Bool→Int→Int→Int→Int→Option (Bool)
 |0,_,_,_,_,_,_=>none
 |k+1,F,V,X,u,z,D=>if V=true then(if u=0 then(if z=0 then(some (D==0))else(some false))else(some false))else(if F=2 then((cA.f u (-10) 40).bind fun G=>(if G=true then(if z=0 then(some (D==0))else(some false))else(some false)))else(if F=3 then((cA.f u 0 3).bind fun H=>(if H=true then((cA.f z 0 39).bind fun I=>(if I=true then((cA.f D 0 2).bind fun J=>(some J))else(some false)))else(some false)))else(if F=4 then((cA.f u 0 11).bind fun K=>(if K=true then((cA.f z (-100000) 100000).bind fun O=>(if O=true then(some (D==0))else(some false)))else(some false)))else(if F=7 then((cA.f u 0 11).bind fun U=>(if U=true then(if z=0 then(some (D==0))else(some false))else(some false)))else(some false)))))
def gl.f (k:Nat) (u:Int) (z:Int) (D:Int) (F:Int):Option (Bool):=if u=1 then(gl.j0 k u (u==1) u z D F)else(if u=5 then(gl.j0 k u (u==5) u z D F)else(gl.j0 k u (u==6) u z D F))
theorem gl.c (k:Nat) (z:Int) (D:Int) (F:Int) (G:Int) (r:Bool) (w:World) (h:gl.f k z D F G=some r):
  Calls Tryz.prog 73 #[.agg #[.int .i64 z,.int .i64 D,.int .i64 F,.int .i64 G]] w fun e w'=>e= .returned (.bool r)∧Below w.heap.size w w':=by
 unfold gl.f at h;have J:=Tryz.underlying57
 (repeat' first|((with_reducible replace h:=bC h);rcases h with ⟨hc,h⟩|⟨hc,h⟩<;>first|exact(bo h).elim|exact absurd hc (by decide)|subst hc|(replace hc:=aM hc;subst hc)|(replace hc:=bR hc;subst hc)|(replace hc:=bS hc;subst hc)|(have hd:(_==_)=true:=hc)|(have hd:(_==_)=false:=aM hc)|(have hd:=bw hc;have he:=bz hc;clear hc)|(have hd:=bA hc;have he:=bB hc)|(have hd:=ax hc)|(have hd:=ah hc;(try(have hn:=Int.natCast_pos.mp hc;have hm:=ah hn;replace hn:=aw hn));first|(obtain⟨I,e_,i_⟩:=bQ (by assumption) (by first|assumption|decide) hc;cases e_)|(obtain⟨H,e_,c_⟩:=bO (by assumption) (by first|assumption|decide) hc;cases e_))|(have hd:=ah hc)|skip)|((with_reducible have hj:gl.j0 k _ _ _ _ _ _=_:=h);clear hj;rcases k with _|k<;>rw[gl.j0]at h<;>first|exact(bo h).elim|skip)|((with_reducible replace h:=bP h);obtain⟨u,h⟩:=h;replace u:=A_ u;(try dsimp only at h)))
 all_goals go_enter Tryz.func73,Tryz.ntmps73
 all_goals go_wp2_with ((first
  |((with_reducible refine aC (N:=1) rfl ?_);refine bV #[.int .i64 z,.int .i64 D,.int .i64 F,.int .i64 G] 57 fun g w1 j1 j2 K=> ?_)
  |(go_at_call 72;(try rw[u.out]);replace h:=bI h;obtain⟨t,A,h⟩:=h;(try dsimp only at h);refine(cA.c _ _ _ _ _ A).mono ?_;rintro e w2 ⟨rfl,n,rfl⟩;clear A));(repeat' first|((with_reducible replace h:=bC h);rcases h with ⟨hc,h⟩|⟨hc,h⟩<;>first|exact(bo h).elim|exact absurd hc (by decide)|subst hc|(replace hc:=aM hc;subst hc)|(replace hc:=bR hc;subst hc)|(replace hc:=bS hc;subst hc)|(have hd:(_==_)=true:=hc)|(have hd:(_==_)=false:=aM hc)|(have hd:=bw hc;have he:=bz hc;clear hc)|(have hd:=bA hc;have he:=bB hc)|(have hd:=ax hc)|(have hd:=ah hc;(try(have hn:=Int.natCast_pos.mp hc;have hm:=ah hn;replace hn:=aw hn));first|(obtain⟨I,e_,i_⟩:=bQ (by assumption) (by first|assumption|decide) hc;cases e_)|(obtain⟨H,e_,c_⟩:=bO (by assumption) (by first|assumption|decide) hc;cases e_))|(have hd:=ah hc)|skip)|((with_reducible have hj:gl.j0 k _ _ _ _ _ _=_:=h);clear hj;rcases k with _|k<;>rw[gl.j0]at h<;>first|exact(bo h).elim|skip)|((with_reducible replace h:=bP h);obtain⟨u,h⟩:=h;replace u:=A_ u;(try dsimp only at h))))
 all_goals obtain rfl:=aA h
 all_goals go_ret
 all_goals exact⟨(by first|rfl|(simp_all;done)),From.out⟩
end P
namespace Q
open Go.RowKit P WW.bc WW.bZ
theorem xT (p:List ag) (hp:p.length≤4000000):lD.f p=some p:=by
  unfold lD.f;simp only[az];rw[ai (by simp;omega)];simp
theorem tR (p:List ag) (hp:p.length≤4000000):jo.f p=some p:=by
  unfold jo.f;simp only[az];rw[ai (by simp;omega)];simp
theorem y9 (p:List Int) (hp:p.length≤4000000):nA.f p=some p:=by
  unfold nA.f;simp only[az];rw[ai (by simp;omega)];simp
theorem n5 (p:List ag) (d:Int) (q:List Int) (hp:p.length≤4000000) (hq:q.length≤4000000):fc.f p d q=some (p,d,q):=by
  unfold fc.f;rw[xT p hp];simp only[az];rw[ai (by simp;omega)];simp
theorem oq (p:List ag) (d:Int) (q:List Int) (hp:p.length≤4000000) (hq:q.length≤4000000):iA.f p d q=some (p,d,q):=by
  unfold iA.f;rw[tR p hp];simp only[az];rw[y9 q hq];rfl
def fO (p:List ag) (d:Int) (q:List Int):List ag×Int×List Int×Bool:=
  if cp p d q=true then
    if d=(p.length:Int)then(p,d,q,false)
    else if ew p q d.toNat=0 then(p,d,q,false)
    else(p,d+1,q.set (p.getD d.toNat df).f1.toNat (ew p q d.toNat),true)
  else(p,d,q,false)
theorem BI (p:List ag) (d:Int) (q:List Int) (hp:p.length≤4000000) (hq:q.length≤4000000):Ev (fun n=>eK.f n p d q) (fO p d q):=by
  have u:Ev (fun n=>eK.j0 n true p d q p d q) (p,d,q,false):=Ev.step (fun n=>by rw[eK.j0]) (ak rfl (Ev.now _));unfold eK.f fO;refine aQ (n5 p d q hp hq) (aQ (qo p d q) ?_);by_cases h:cp p d q=true;rotate_left
  · exact bq h<|aH h u
  refine bE h<|ak h ?_;have hp:=lR h;have hd:=mJ h;have hq:=lu h;have hl:=k9 hp;obtain⟨m,rfl⟩:=Int.eq_ofNat_of_zero_le hd.1;by_cases he:(m:Int)=(p.length:Int)
  · rw[show((m:Int)==(p.length:Int))=true by simpa using he];exact bE he u
  rw[show((m:Int)==(p.length:Int))=false by simpa using he];refine bq he ?_;have hm:m<p.length:=by omega
  obtain⟨k0,k1,k2,k3,k4⟩:=k8 hp p[m] (List.getElem_mem hm);refine Ev.step (fun n=>by rw[eK.j0]) ?_;refine aH (by decide) (Ev.bind (se p m q m hp hq hm) ?_);simp only[Int.toNat_natCast];by_cases hz:ew p q m=0
  · exact bE hz<|ak hz (Ev.now _)
  refine bq hz<|aH hz (ak (by omega) (ak (by omega) ?_));rw[ki p m hm,jK p m hm,bU (n:=(m:Int)+1) (by omega) (by omega)];exact ak k2 (ak (by omega) (Ev.now _))
theorem BJ (p:List ag) (d:Int) (q:List Int) (hp:p.length≤4000000) (hq:q.length≤4000000):Ev (fun n=>eM.f n p d q) (fO p d q):=by
  have u:Ev (fun n=>eM.j0 n true p d q p d q) (p,d,q,false):=Ev.step (fun n=>by rw[eM.j0]) (ak rfl (Ev.now _));unfold eM.f fO;refine aQ (oq p d q hp hq) (Ev.bind (oZ p d q) ?_);by_cases h:cp p d q=true;rotate_left
  · exact bq h<|aH h u
  refine bE h<|ak h ?_;have hp:=lR h;have hd:=mJ h;have hq:=lu h;have hl:=k9 hp;obtain⟨m,rfl⟩:=Int.eq_ofNat_of_zero_le hd.1;by_cases he:(m:Int)=(p.length:Int)
  · rw[show((m:Int)==(p.length:Int))=true by simpa using he];exact bE he u
  rw[show((m:Int)==(p.length:Int))=false by simpa using he];refine bq he ?_;have hm:m<p.length:=by omega
  obtain⟨k0,k1,k2,k3,k4⟩:=k8 hp p[m] (List.getElem_mem hm);refine Ev.step (fun n=>by rw[eM.j0]) ?_;refine aH (by decide) (ak (by omega) (ak (by omega) ?_));rw[ki p m hm];refine ak k0 (ak (by omega) (Ev.bind (ql _ _ _) ?_));rw[kj];have et:ft (q.getD p[m].f0.toNat 0) p[m].f2 p[m].f3=ew p q m:=by unfold ew;rw[jK p m hm]
  rw[et,jK p ((m:Int).toNat) hm];simp only[Int.toNat_natCast];by_cases hz:ew p q m=0
  · exact bE hz<|ak hz (Ev.now _)
  refine bq hz<|aH hz ?_;rw[bU (n:=(m:Int)+1) (by omega) (by omega)];exact ak k2 (ak (by omega) (Ev.now _))
theorem vS (p:List ag) (d:Int) (q:List Int):(fO p d q).1=p∧(fO p d q).2.2.1.length=q.length:=by
  unfold fO;split
  · split
    · exact⟨rfl,rfl⟩
    · split
      · exact⟨rfl,rfl⟩
      · exact⟨rfl,by simp⟩
  · exact⟨rfl,rfl⟩
def gX (p:List ag) (q:List Int) (i:Nat):Bool:=decide (q.getD (p.getD i df).f1.toNat 0≠ew p q i)
def eG (p:List ag) (q:List Int) (l:List Nat):List Int:=(l.filter (gX p q)).map (fun(i:Nat)=>(i:Int))
def ig (p:List ag) (d:Int) (q:List Int):List Int:=if cp p d q=true then eG p q (List.range d.toNat)else[]
theorem o0 (p:List ag) (q:List Int) (i:Nat) (l:List Nat):eG p q (i::l)=if gX p q i=true then(i:Int)::eG p q l else eG p q l:=by
  unfold eG;rw[List.filter_cons];split<;>rfl
theorem si (p:List ag) (d:Int) (q:List Int):Ev (fun n=>dc.f n p d q) (ig p d q):=by
  unfold dc.f ig;refine aQ (qo p d q) ?_;by_cases h:cp p d q=true;rotate_left
  · exact bq h<|aH h (Ev.now _)
  have hp:=lR h;have hd:=mJ h;have hq:=lu h;have hl:=k9 hp;obtain⟨m,rfl⟩:=Int.eq_ofNat_of_zero_le hd.1;refine bE h<|ak h (ak hd.1 (ak hd.2 ?_));simp only[az,Int.toNat_natCast]
  have key:∀i,i≤m→∀acc:List Int,acc.length≤i→Ev (fun n=>dc.l0 n acc (p.take m) ((p.take m).length:Int) (i:Int) p m q) (acc++eG p q ((List.range m).drop i)):=by
    refine down (n:=m) ?_ ?_
    · intro acc ha;refine Ev.step (fun n=>by rw[dc.l0]) (aH (by rw[List.length_take];omega) (evs ?_));rw[List.drop_eq_nil_of_le (by simp)];simp[eG]
    · intro i hi ih acc ha;obtain⟨k0,k1,k2,k3,k4⟩:=k8 hp p[i] (List.getElem_mem (by omega));have e:(p.take m)[i]'(by rw[List.length_take];omega)=p[i]:=(by simp);refine Ev.step (fun n=>by rw[dc.l0]) ?_;refine ak (by rw[List.length_take];omega) (ak (by omega) (ak (by rw[List.length_take];omega) ?_));rw[ki (p.take m) i (by rw[List.length_take];omega),e];refine ak k2 (ak (by omega) (Ev.bind (se p _ q i hp hq (by omega)) ?_));rw[drop_cons _ i (by simpa using hi),List.getElem_range,kj,bU (n:=(i:Int)+1) (by omega) (by omega)];have g:=jK p i (by omega);have eb:gX p q i=decide (q.getD p[i].f1.toNat 0≠ew p q i):=(by unfold gX;rw[g]);by_cases hb:q.getD p[i].f1.toNat 0=ew p q i
      · rw[show eG p q (i::(List.range m).drop (i+1))=eG p q ((List.range m).drop (i+1))by rw[o0,eb,aj (by simp only[decide_eq_true_eq];exact fun h=>h hb)]];refine ak hb ?_;exact ih acc (by omega)
      · rw[show eG p q (i::(List.range m).drop (i+1))=(i:Int)::eG p q ((List.range m).drop (i+1))by rw[o0,eb,ai (by simp only[decide_eq_true_eq];exact hb)]];refine aH hb (ak (by omega) ?_);have:=ih (acc++[(i:Int)]) (by simp;omega);rw[List.append_assoc]at this;exact this
  have:=key 0 (Nat.zero_le _) [] (Nat.le_refl _);simpa using this
theorem sj (p:List ag) (d:Int) (q:List Int):Ev (fun n=>dz.f n p d q) (ig p d q):=by
  unfold dz.f ig;simp only[az];refine Ev.bind (oZ p d q) ?_;by_cases h:cp p d q=true;rotate_left
  · exact bq h<|aH h (Ev.now _)
  have hp:=lR h;have hd:=mJ h;have hq:=lu h;have hl:=k9 hp;obtain⟨m,rfl⟩:=Int.eq_ofNat_of_zero_le hd.1;refine bE h<|ak h ?_;simp only[Int.toNat_natCast]
  have key:∀i,i≤m→∀acc:List Int,acc.length≤i→Ev (fun n=>dz.l0 n acc (i:Int) p m q) (acc++eG p q ((List.range m).drop i)):=by
    refine down (n:=m) ?_ ?_
    · intro acc ha;refine Ev.step (fun n=>by rw[dz.l0]) (aH (by omega) (evs ?_));rw[List.drop_eq_nil_of_le (by simp)];simp[eG]
    · intro i hi ih acc ha;obtain⟨k0,k1,k2,k3,k4⟩:=k8 hp p[i] (List.getElem_mem (by omega));refine Ev.step (fun n=>by rw[dz.l0]) ?_;refine ak (by omega) (ak (by omega) (ak (by omega) ?_));rw[ki p i (by omega)];refine ak k2 (ak (by omega) (ak k0 (ak (by omega) (Ev.bind (ql _ _ _) ?_))));rw[drop_cons _ i (by simpa using hi),List.getElem_range,kj,kj,bU (n:=(i:Int)+1) (by omega) (by omega)];have g:=jK p i (by omega);have eb:gX p q i=decide (q.getD p[i].f1.toNat 0≠ew p q i):=(by unfold gX;rw[g]);by_cases hb:q.getD p[i].f1.toNat 0=ew p q i
      · rw[show eG p q (i::(List.range m).drop (i+1))=eG p q ((List.range m).drop (i+1))by rw[o0,eb,aj (by simp only[decide_eq_true_eq];exact fun h=>h hb)]];refine ak (by rw[hb];unfold ew;rw[g]) ?_;exact ih acc (by omega)
      · rw[show eG p q (i::(List.range m).drop (i+1))=(i:Int)::eG p q ((List.range m).drop (i+1))by rw[o0,eb,ai (by simp only[decide_eq_true_eq];exact hb)]];refine aH (by unfold ew at hb;rw[g]at hb;exact hb) (ak (by omega) ?_);have:=ih (acc++[(i:Int)]) (by simp;omega);rw[List.append_assoc]at this;exact this
  have:=key 0 (Nat.zero_le _) [] (Nat.le_refl _);simpa using this
def fS (p:List ag) (d:Int) (q:List Int):List ag×Int×List Int×Bool:=
  match ig p d q with
  |[]=>(p,d,q,false)
  |i::_=>if ew p q i.toNat=0 then(p,d,q,false)else(p,d,q.set (p.getD i.toNat df).f1.toNat (ew p q i.toNat),true)
theorem vU {p:List ag} {d:Int} {q:List Int} {i:Int} {r:List Int} (h:ig p d q=i::r):cp p d q=true∧∃j:Nat,i=j∧(j:Int)<d∧j<p.length:=by
  unfold ig at h;by_cases hw:cp p d q=true;rotate_left
  · rw[aj hw]at h;exact absurd h (by simp)
  rw[ai hw]at h;refine⟨hw,?_⟩;have hi:i∈eG p q (List.range d.toNat):=by rw[h];exact List.mem_cons_self
  unfold eG at hi;obtain⟨j,hj,rfl⟩:=List.mem_map.1 hi;have hd:=mJ hw;have:=List.mem_range.1 (List.mem_filter.1 hj).1;exact⟨j,rfl,by omega,by omega⟩
theorem zx (p:List ag) (d:Int) (q:List Int) (hp:p.length≤4000000) (hq:q.length≤4000000):Ev (fun n=>eB.f n p d q) (fS p d q):=by
  unfold eB.f fS;refine aQ (n5 p d q hp hq) (Ev.bind (si p d q) ?_);cases h:ig p d q with
  |nil=>exact ak rfl (Ev.now _)
  |cons i r=>
   obtain⟨hw,j,rfl,hj,hj2⟩:=vU h;have hp:=lR hw;have hq:=lu hw;obtain⟨k0,k1,k2,k3,k4⟩:=k8 hp p[j] (List.getElem_mem hj2);refine aH (by simp;omega) (ak (by simp) ?_);rw[show rd ((j:Int)::r) 0=(j:Int)from rfl];refine Ev.bind (se p d q j hp hq hj2) ?_;simp only[Int.toNat_natCast];by_cases hz:ew p q j=0
   · exact bE hz<|ak hz (Ev.now _)
   refine bq hz<|aH hz (ak (by omega) (ak (by omega) ?_));rw[ki p j hj2,jK p j hj2];exact ak k2 (ak (by omega) (Ev.now _))
theorem zy (p:List ag) (d:Int) (q:List Int) (hp:p.length≤4000000) (hq:q.length≤4000000):Ev (fun n=>eF.f n p d q) (fS p d q):=by
  unfold eF.f fS;refine aQ (oq p d q hp hq) (Ev.bind (sj p d q) ?_);cases h:ig p d q with
  |nil=>exact ak rfl (Ev.now _)
  |cons i r=>
   obtain⟨hw,j,rfl,hj,hj2⟩:=vU h;have hp:=lR hw;have hq:=lu hw;obtain⟨k0,k1,k2,k3,k4⟩:=k8 hp p[j] (List.getElem_mem hj2);refine aH (by simp;omega) (ak (by simp) ?_);rw[show rd ((j:Int)::r) 0=(j:Int)from rfl];refine ak (by omega) (ak (by omega) ?_);rw[ki p j hj2];refine ak k0 (ak (by omega) (Ev.bind (ql _ _ _) ?_));rw[kj];have et:ft (q.getD p[j].f0.toNat 0) p[j].f2 p[j].f3=ew p q j:=(by unfold ew;rw[jK p j hj2]);simp only[Int.toNat_natCast];rw[et,jK p j hj2];by_cases hz:ew p q j=0
   · exact bE hz<|ak hz (Ev.now _)
   exact bq hz<|aH hz (ak k2 (ak (by omega) (Ev.now _)))
theorem uf (p:List ag) (d:Int) (q:List Int):(fS p d q).1=p∧(fS p d q).2.1=d∧(fS p d q).2.2.1.length=q.length:=by
  unfold fS;split
  · exact⟨rfl,rfl,rfl⟩
  · split
    · exact⟨rfl,rfl,rfl⟩
    · exact⟨rfl,rfl,by simp⟩
def jL (q:List Int) (c x:Int):List Int:=q.set c.toNat (wrap64 (q.getD c.toNat 0+x))
def fE (p:List ag) (d:Int) (q:List Int) (c x:Int):List ag×Int×List Int×Bool:=
  if cp p d q=true∧(0≤c∧c≤11)∧(-100000≤x∧x≤100000)∧q.getD c.toNat 0≠0 then
    if cp p d (jL q c x)=true then(p,d,jL q c x,true)else(p,d,q,false)
  else(p,d,q,false)
theorem y6 (p:List ag) (d:Int) (q:List Int) (c x:Int) (hp:p.length≤4000000) (hq:q.length≤4000000):Ev (fun n=>en.f n p d q c x) (fE p d q c x):=by
  have u:Ev (fun n=>en.j0 n c x true p d q p d q) (p,d,q,false):=Ev.step (fun n=>by rw[en.j0]) (ak rfl (Ev.now _));unfold en.f fE;refine aQ (n5 p d q hp hq) (aQ (qo p d q) ?_);by_cases h:cp p d q=true;rotate_left
  · exact bq (fun h2=>h h2.1)<|aH h u
  have hl:=lu h;refine ak h (aQ (iQ _ _ _) ?_);by_cases hc:0≤c∧c≤11;rotate_left
  · exact bq (fun h2=>hc h2.2.1)<|aH (pg hc) u
  refine ak (pq hc) (ak hc.1 (ak (by omega) ?_));rw[kj];by_cases hz:q.getD c.toNat 0=0
  · exact bq (fun h2=>h2.2.2.2 hz)<|ak hz u
  refine aH hz (aQ (iQ _ _ _) ?_);by_cases hx: -100000≤x∧x≤100000;rotate_left
  · rw[ax hx];exact bq (fun h2=>hx h2.2.2.1) u
  rw[ah hx];refine bE ⟨h,hc,hx,hz⟩ ?_;refine Ev.step (fun n=>by rw[en.j0]) ?_;refine aH (by decide) (ak hc.1 (ak (by show c<(q.length:Int);omega) ?_));simp only[az,kj];refine aQ (qo p d _) ?_;by_cases h3:cp p d (jL q c x)=true
  · exact bE h3<|ak h3 (Ev.now _)
  · exact bq h3<|aH h3 (aQ (n5 p d q hp hq) (Ev.now _))
theorem y7 (p:List ag) (d:Int) (q:List Int) (c x:Int) (hp:p.length≤4000000) (hq:q.length≤4000000):Ev (fun n=>eu.f n p d q c x) (fE p d q c x):=by
  have u:Ev (fun n=>eu.j0 n c x true p d q p d q) (p,d,q,false):=Ev.step (fun n=>by rw[eu.j0]) (ak rfl (Ev.now _));unfold eu.f fE;refine aQ (oq p d q hp hq) (Ev.bind (oZ p d q) ?_);by_cases h:cp p d q=true;rotate_left
  · exact bq (fun h2=>h h2.1)<|aH h u
  have hl:=lu h;refine ak h (aQ (gI _ _ _) ?_);by_cases hc:0≤c∧c≤11;rotate_left
  · exact bq (fun h2=>hc h2.2.1)<|aH (pg hc) u
  refine ak (pq hc) (aQ (gI _ _ _) ?_);by_cases hx: -100000≤x∧x≤100000;rotate_left
  · exact bq (fun h2=>hx h2.2.2.1)<|aH (pg hx) u
  refine ak (pq hx) (ak hc.1 (ak (by omega) ?_));rw[kj];by_cases hz:q.getD c.toNat 0=0
  · rw[show(q.getD c.toNat 0==0)=true by rw[hz];rfl];exact bq (fun h2=>h2.2.2.2 hz) u
  rw[show(q.getD c.toNat 0==0)=false from beq_eq_false_iff_ne.mpr hz];refine bE ⟨h,hc,hx,hz⟩ ?_;refine Ev.step (fun n=>by rw[eu.j0]) ?_;refine aH (by decide) (ak hc.1 (ak (by show c<(q.length:Int);omega) ?_));simp only[az,kj];refine Ev.bind (oZ p d _) ?_;by_cases h3:cp p d (jL q c x)=true
  · exact bE h3<|ak h3 (Ev.now _)
  · exact bq h3<|aH h3 (aQ (oq p d q hp hq) (Ev.now _))
theorem tQ (p:List ag) (d:Int) (q:List Int) (c x:Int):(fE p d q c x).1=p∧(fE p d q c x).2.2.1.length=q.length:=by
  unfold fE;split
  · split
    · exact⟨rfl,by simp[jL]⟩
    · exact⟨rfl,rfl⟩
  · exact⟨rfl,rfl⟩
def kU (a:Int) (p:List ag):List ag×Int×List Int×Bool:=if(lI a p).2=true then(p,0,begun a,true)else([],0,[],false)
theorem Ba {a:Int} {p:List ag} (h:(lI a p).2=true):eL p=true∧fine a=true:=by
  unfold lI at h;by_cases h2:eL p=true∧fine a=true
  · exact h2
  · rw[aj h2]at h;exact absurd h (by simp)
theorem zC (a:Int) (p:List ag):Ev (fun n=>gO.f n a p) (kU a p):=by
  unfold gO.f kU;refine Ev.bind (Bb a p) ?_;by_cases h:(lI a p).2=true;rotate_left
  · exact bq h<|aH h (Ev.now _)
  refine bE h<|ak h (aQ (tR p (by have:=k9 (Ba h).1;omega)) (ak (by decide) ?_));simp only[az];exact ak (by simp) (Ev.now _)
def ix (p:List ag) (q:List Int) (i:Nat):Prop:=∀k:Nat,k≤i→q.getD k 0=fL p (q.getD 0 0) k
theorem AU (p:List ag) (q:List Int):ix p q 0:=by
  intro k hk;obtain rfl:k=0:=by omega
  rfl
theorem AQ (p:List ag) (s:Int) (n:Nat) (hn:n<12):ix p (dK p s n) n:=fun k hk=>by
  rw[jc p s n k (by omega),ai hk,jc p s n 0 (by omega),ai (Nat.zero_le _)];rfl
section
variable {p:List ag} (g:eJ p)
include g
theorem qi {q:List Int} {i:Nat} (hi:i<p.length) (h:q.getD i 0=fL p (q.getD 0 0) i):ew p q i=fL p (q.getD 0 0) (i+1):=by
  unfold ew;rw[(oh g i hi).1,Int.toNat_natCast,h];rfl
theorem tN {q:List Int} {i:Nat} (hi:i<p.length):gX p q i=true↔q.getD (i+1) 0≠ew p q i:=by
  unfold gX;rw[(oh g i hi).2.1,show((i:Int)+1).toNat=i+1 by omega,decide_eq_true_iff]
theorem AR {q:List Int} {i:Nat} (hi:i<p.length) (h:ix p q i) (hb:¬gX p q i=true):ix p q (i+1):=by
  rw[tN g hi]at hb;have hb2:q.getD (i+1) 0=ew p q i:=Classical.byContradiction hb;intro k hk;by_cases e:k=i+1
  · subst e;rw[hb2];exact qi g hi (h i (Nat.le_refl _))
  · exact h k (by omega)
theorem zF {q:List Int} {i j:Nat} (hi:i≤p.length) (h:ix p q i) (hj:j<i):gX p q j=false:=by
  have:¬gX p q j=true:=by
    rw[tN g (by omega),Classical.not_not,qi g (by omega) (h j (by omega))];exact h (j+1) (by omega)
  simpa using this
theorem vW {q:List Int} {i:Nat} (hi:i≤p.length) (h:ix p q i) (r:List Nat):eG p q (List.range i++r)=eG p q r:=by
  unfold eG;rw[List.filter_append,List.filter_eq_nil_iff.2 (fun j hj=>by rw[zF g hi h (List.mem_range.1 hj)];simp)];rfl
theorem CA {q:List Int} {i:Nat} (hi:i≤p.length) (h:ix p q i):eG p q (List.range i)=[]:=by
  have:=vW g hi h [];rw[List.append_nil]at this;rw[this];rfl
theorem vV {q:List Int} {i j:Nat} (hi:i+(j+1)≤p.length) (h:ix p q i) (hb:gX p q i=true):∃r,eG p q (List.range (i+(j+1)))=(i:Int)::r:=by
  rw[List.range_add,vW g (by omega) h,List.range_succ_eq_map,List.map_cons,Nat.add_zero,o0,ai hb];exact⟨_,rfl⟩
theorem AV {q:List Int} {n:Nat} (hn:n≤p.length) (hw:cp p (n:Int) q=true) (h:ix p q n):q=dK p (q.getD 0 0) n:=by
  obtain⟨h1,h2,h3⟩:=(nE g n hn q).1 hw;refine rB h1 (nr _ _ _) (fun k hk=> ?_);rw[jc _ _ n k hk];by_cases e:k≤n
  · rw[ai e];exact h k e
  · rw[aj e];exact h3 k (by omega) hk
theorem mended {q:List Int} {i n:Nat} (hn:n≤p.length) (hi:i<n) (hw:cp p (n:Int) q=true) (hs:155000≤q.getD 0 0∧q.getD 0 0≤345000) (h:ix p q i):
    cp p (n:Int) (q.set (i+1) (fL p (q.getD 0 0) (i+1)))=true∧(q.set (i+1) (fL p (q.getD 0 0) (i+1))).getD 0 0=q.getD 0 0∧ix p (q.set (i+1) (fL p (q.getD 0 0) (i+1))) (i+1):=by
  obtain⟨h1,h2,h3⟩:=(nE g n hn q).1 hw;have hl:=g.1;have hf:=oy g hs (i+1) (by omega);have e0:(q.set (i+1) (fL p (q.getD 0 0) (i+1))).getD 0 0=q.getD 0 0:=getD_set_ne _ _ _ _ (by omega);refine⟨(nE g n hn _).2 ⟨by simpa using h1,fun k hk=> ?_,fun k hk hk2=> ?_⟩,e0,fun k hk=> ?_⟩
  · by_cases e:i+1=k
    · subst e;rw[pF _ _ _ (by omega)];omega
    · rw[getD_set_ne _ _ _ _ e];exact h2 k hk
  · rw[getD_set_ne _ _ _ _ (by omega)];exact h3 k hk hk2
  · rw[e0];by_cases e:i+1=k
    · subst e;rw[pF _ _ _ (by omega)]
    · rw[getD_set_ne _ _ _ _ e];exact h k (by omega)
omit g in
theorem sg {q:List Int} {n:Nat} (hw:cp p (n:Int) q=true):ig p (n:Int) q=eG p q (List.range n):=by
  unfold ig;rw[ai hw,Int.toNat_natCast]
theorem zv {q:List Int} {i j n:Nat} (hn:n≤p.length) (hij:n=i+(j+1)) (hw:cp p (n:Int) q=true) (hs:155000≤q.getD 0 0∧q.getD 0 0≤345000) (h:ix p q i) (hb:gX p q i=true):
    fS p (n:Int) q=(p,(n:Int),q.set (i+1) (fL p (q.getD 0 0) (i+1)),true):=by
  obtain⟨r,hr⟩:=vV g (by omega:i+(j+1)≤p.length) h hb;have hf:=oy g hs (i+1) (by omega);unfold fS;rw[sg hw,hij,hr];simp only[Int.toNat_natCast];rw[qi g (by omega) (h i (Nat.le_refl _)),aj (by omega),(oh g i (by omega)).2.1,show((i:Int)+1).toNat=i+1 by omega]
theorem Cr {s:Int} (hs:155000≤s∧s≤345000) {n:Nat} (hn:n<p.length):fO p (n:Int) (dK p s n)=(p,((n+1:Nat):Int),dK p s (n+1),true):=by
  have hl:=g.1;have hf:=oy g hs (n+1) hn;have e0:(dK p s n).getD 0 0=s:=by rw[jc p s n 0 (by omega),ai (Nat.zero_le _)];rfl
  have e1:ew p (dK p s n) n=fL p s (n+1):=by
    have:=qi g hn (q:=dK p s n) (AQ p s n (by omega) n (Nat.le_refl _))
    rwa [e0]at this
  unfold fO;rw[ai (qp g hs n (by omega)),aj (by omega),Int.toNat_natCast,e1,aj (by omega),(oh g n hn).2.1,show((n:Int)+1).toNat=n+1 by omega,uE p s n (by omega)];rfl
theorem Cp {s:Int} (hs:155000≤s∧s≤345000):fO p (p.length:Int) (dK p s p.length)=(p,(p.length:Int),dK p s p.length,false):=by
  unfold fO;rw[ai (qp g hs p.length (Nat.le_refl _)),ai rfl]
theorem zB {s:Int} (hs:155000≤s∧s≤345000):kU s p=(p,((0:Nat):Int),dK p s 0,true):=by
  unfold kU;rw[AZ g hs,ai rfl,uF];rfl
theorem y5 {q:List Int} {n:Nat} (hn:n≤p.length) (hw:cp p (n:Int) q=true) (c x:Int) (hx: -1000≤x∧x≤1000):
    (fE p (n:Int) q c x).1=p∧(fE p (n:Int) q c x).2.1=(n:Int)∧cp p (n:Int) (fE p (n:Int) q c x).2.2.1=true∧
      q.getD 0 0-1000≤(fE p (n:Int) q c x).2.2.1.getD 0 0∧(fE p (n:Int) q c x).2.2.1.getD 0 0≤q.getD 0 0+1000:=by
  obtain⟨h1,h2,h3⟩:=(nE g n hn q).1 hw;have u:=h2 0 (Nat.zero_le _);unfold fE
  split
  · rename_i hk
    split
    · rename_i hok
      refine⟨rfl,rfl,hok,?_⟩;show _≤(jL q c x).getD 0 0∧(jL q c x).getD 0 0≤_;unfold jL;by_cases e:c.toNat=0
      · rw[e,pF _ _ _ (by omega),bU (by omega) (by omega)];omega
      · rw[getD_set_ne _ _ _ _ e];omega
    · exact⟨rfl,rfl,hw,by dsimp only;omega⟩
  · exact⟨rfl,rfl,hw,by dsimp only;omega⟩
end
theorem lA (p:List ag) (d:Int) (q:List Int) (a m:Int) (l:List S64) (hp:p.length≤4000000) (hq:q.length≤4000000) (hl:l.length≤4000000):eD.f p d q a m l=some (p,d,q,a,m,l):=by
  unfold eD.f;rw[n5 p d q hp hq,az,n4 l hl];rfl
theorem kS (p:List ag) (d:Int) (q:List Int) (a m:Int) (l:List S64) (hp:p.length≤4000000) (hq:q.length≤4000000) (hl:l.length≤4000000):fp.f p d q a m l=some (p,d,q,a,m,l):=by
  unfold fp.f;rw[oq p d q hp hq,az,oo l hl];rfl
end Q
namespace P
open Go.RowKit WW.bc V
abbrev kJ (w:World):Prop:=Go.Lib.TabIs Tryz.prog w "internal/strconv.uint64pow10" .u64 Go.Lib.pow10Tab
theorem mE {w W:World} (h:kJ w) (hb:Below w.heap.size w W):kJ W:=Go.Lib.tabBelow_of_tabIs h W hb
theorem rY {w W:World} [k:From w W] (h:ae (kJ w)):kJ W:=mE h.out k.out
end P
namespace V
open Go.RowKit P WW.bc
class qO {α:Type} (d:Kd α) (w1 w2:outParam World) (A:Option Addr) (xs:List α):Prop where out:∀W,dI w1 w2 W→d.C W A xs.length xs
instance {α:Type} {d:Kd α} {w1 w2 W:World} {A:Option Addr} {xs:List α} [h:qO d w1 w2 A xs] [k:dI w1 w2 W]:Rd d W A xs:=⟨h.out W k⟩
theorem xV {w1 w2:World} {A:Option Addr} {c:Nat} {xs:List cd} {j:Int} (h:dt gZ 57 w1 w2 A c xs) (h0:0≤j) (h1:j≤(xs.length:Int)):
    ∃ys zs B b,xs.take j.toNat=ys∧xs.drop j.toNat=zs∧(∀W,(Instr.slice 31 (.slice A xs.length c) none (some (.int .i64 j)) none).run Tryz.prog W= .ok (.slice A ys.length c) W)∧(∀W,(Instr.slice 31 (.slice A xs.length c) (some (.int .i64 j)) none none).run Tryz.prog W= .ok (.slice B zs.length b) W)∧
     qO gZ w1 w2 A ys∧af ys.length c∧qO gZ w1 w2 B zs∧af zs.length b:=by
  have hc:=ia h;obtain⟨i0,hi0,_,hsz,_⟩:=info_parts tJ;have hj:j.toNat≤xs.length:=by omega
  have e1:(xs.take j.toNat).length=j.toNat:=by rw[List.length_take];omega
  have e2:(xs.drop j.toNat).length=xs.length-j.toNat:=List.length_drop;have t1:=rf (P:=Tryz.prog) 31 57 .i64 Tryz.underlying31 hi0 A xs.length c j h0 h1 hc;have t2:=xW (P:=Tryz.prog) 31 57 .i64 Tryz.underlying31 hi0 _ hsz A xs.length c j h0 h1;refine⟨_,_,_,_,rfl,rfl,fun W=>by rw[e1];exact t1 W,fun W=>by rw[e2];exact t2 W,⟨fun W k=>Kd.sq (oG (h:=h) (k:=k)) hj⟩,⟨by omega⟩,⟨fun W k=>Kd.wk (oG (h:=h) (k:=k)) hj hc⟩,⟨by omega⟩⟩
end V
namespace V
open Go.RowKit P WW.bc WW.bY
class St (w0:outParam World) (W:World) (g:Nat) (s:outParam (List Int)) (i h:outParam Int):Prop where out:aX w0 W g s i h
class Kb (W:outParam World) (W':World) (g:outParam Nat):Prop where out:bh W W' g none
class dh (w W:World) (g:Nat):Prop where out:bh w W g none
section
variable {w w0 w1 w2 W W':World} {g g':Nat} {s:List Int} {i h x:Int} {cs:Array Value} {t:TypeId} {o:Obj} {n j:Nat} {v:Value}
instance [k:St w0 W g s i h]:St w0 (W.alloc o) g s i h:=⟨k.out.alloc o⟩
instance [k:St w0 W g s i h]:St w0 W.drew g s i h:=⟨k.out.drew⟩
instance [k:St w0 W g s i h]:St w0 (W.drewN n) g s i h:=⟨k.out.drewN n⟩
instance [b:au w W] [k:St w0 w g s i h]:St w0 W g s i h:=⟨k.out.below b.out⟩
instance [b:fz w W] [k:St w0 w g s i h]:St w0 W g s i h:=⟨k.out.below b.out⟩
instance [k:St w0 W g s i h] [m:dQ g g']:St w0 (W.setCell ⟨g',j,none⟩ v) g s i h:=⟨k.out.far m.out v⟩
instance [k:St w0 W g s i h] [b:aJ W g' cs t] [n:ij t 82]:St w0 (W.setCell ⟨g',j,none⟩ v) g s i h:=⟨k.out.far (k.out.uj b.out n.out) v⟩
instance [b:fY W g'] [k:St w0 W g s i h]:dQ g g':=⟨by rw[b.out];exact Nat.ne_of_lt k.out.lt⟩
instance [b:fY W g'] [k:St w0 W g s i h]:dQ g' g:=⟨by rw[b.out];exact Nat.ne_of_gt k.out.lt⟩
instance [k:St w0 w1 g s i h]:kF w1 w2 g:=⟨.inl k.out.lt⟩
instance [b:Kb W W' g] [k:aJ W g' cs t] [m:dQ g' g]:aJ W' g' cs t:=⟨bh.blk b.out k.out m.out (by simp)⟩
instance [b:Kb W W' g] [q:St w0 W g s i h] [k:aJ W g' cs t] [n:ij t 82]:aJ W' g' cs t:=⟨bh.blk b.out k.out (fun e=>(q.out.uj k.out n.out) e.symm) (by simp)⟩
instance [b:Kb W W' g] [k:dI w1 w2 W] [f:kF w1 w2 g]:dI w1 w2 W':=⟨fun j h1 h2=>(b.out.2 j (nc k h1 h2) (by have:=f.out;omega) (by simp)).trans (k.out j h1 h2)⟩
instance {α:Type} {d:Kd α} {e c:Nat} {A:Option Addr} {xs:List α} [b:Kb W W' g] [q:St w0 W g s i h] [k:At d e w1 W A c xs] [m:bK d e 82]:At d e w1 W' A c xs:=
  ⟨Kd.cm (Kd.mQ (aX.apart q.out k.out m.out) (fun j hj hl=>b.out.2 j hl hj.2 (by simp))) (fun _ _=>trivial)⟩
instance [b:Kb W W' g] [k:Sz w W]:Sz w W':=⟨Nat.le_trans k.out b.out.1⟩
instance:dh w w g:=⟨bh.refl w g none⟩
instance [k:dh w W g]:dh w (W.alloc o) g:=⟨lF k.out o⟩
instance [k:dh w W g]:dh w W.drew g:=⟨k.out⟩
instance [k:dh w W g]:dh w (W.drewN n) g:=⟨k.out⟩
instance [b:au W W'] [k:dh w W g]:dh w W' g:=⟨k.out.trans (bh.lH (row:=none) b.out g) (.inl rfl)⟩
instance [b:fz W W'] [k:dh w W g]:dh w W' g:=⟨k.out.trans (bh.lH (row:=none) b.out g) (.inl rfl)⟩
instance [b:Kb W W' g] [k:dh w W g]:dh w W' g:=⟨k.out.trans b.out (.inl rfl)⟩
instance [k:dh w W g] [m:Nw w g']:dh w (W.setCell ⟨g',j,none⟩ v) g:=⟨rr (p:=⟨g',j,none⟩) k.out m.out v⟩
theorem yh {e c n:Nat} {A:Option Addr} {xs:List Int} [r:dt (Kd.int .i64) e w1 w2 A c xs] [k:St w0 w1 g s i h]:∀ad,A=some ad→0<n→ad.block≠g:=by
  rintro ad rfl _;have h1:=nx r;have h2:=k.out.lt;omega
theorem dG {α:Type} {d:Kd α} {e c n:Nat} {A:Option Addr} {xs:List α} [h:dt d e w1 w2 A c xs] [k:dI w1 w2 W] [l:Sz w w1] (hn:n=xs.length:=by rfl):d.R e W w.heap.size (fun _=>True) (.slice A n c) xs:=by rw[hn];exact Kd.cD (oH (h:=h) (k:=k)) l.out
end
end V
namespace V
open Go.RowKit WW.bc WW.bY
section
variable {gC:Nat} {P:Program} {ops:Array Oper} {Q:Exit→Act→World→Prop} {T:Bool×List (List Nat×List Nat)} {B:List Nat} {oi:Oper} {v:Value} {fuel:Nat} {l l':Array Bool} {ds:List Nat} {a a':Act} {w w1 w3:World}
abbrev Sk (w3:World) (gC:Nat):World→Prop:=fun w'=>bh w3 w' gC none
theorem kR {id n:Nat} (hT:aW .any ops=T) (hB:bL T.2 B=true) (h:ae (aW .any ops=T)→ae (bL T.2 B=true)→∀w3,au w w3→∀u,au w3 u→Sk w3 gC u→bm P .any ops Q (Sk w3 gC) ds n l a u)
    (hn:ops.size=n:=by rfl) (hl:Array.replicate n false=l:=by rfl) (hm:P.follows .mixedOrders=true:=by kernel_rfl):(Code.region id ops true).wp P Q a w:=
  fX (S:=Sk w gC) (ds:=ds) l hm hn hl (show bh w w.drew gC none from bh.refl w gC none) fun hS=>h ⟨hT⟩ ⟨hB⟩ w ⟨Below.refl _ _⟩ w.drew ⟨cv (Below.refl _ _)⟩ hS
theorem kA (i:Nat) (N:Option Tmp) (u:ae (aW .any ops=T)) (h:bm P .any ops Q (Sk w3 gC) ds fuel l' a' w) (hi:ops[i]? =some oi:=by rfl) (hN:oi.dst=N:=by rfl)
    (hl:l.setIfInBounds i true=l':=by simp only[List.setIfInBounds_toArray,List.set_cons_zero,List.set_cons_succ];rfl) (hc:mS T l.toList l'.toList i=true:=by kernel_rfl)
    (hQ:∀c a w,Q (.panic c) (a.put oi.dst v) w→Q (.panic c) a w:=by exact fun _ _ _ h=>h) (hw:Region.wanted oi (yielded ops a.tmps)=true:=by rfl)
    (hy:∀w',(execOp a.eval oi).run P w'= .ok (.value v) w':=by intro w';go_simp;with_reducible rfl) (ha:a.put N v=a':=by simp only[Act.put,List.setIfInBounds_toArray,List.set_cons_zero,List.set_cons_succ,bJ,cu];rfl):
    bm P .any ops Q (Sk w3 gC) ds (fuel+1) l a w:=pZ l' hi hN (pc u.out hc) hQ (Or.inl ⟨hw,hy⟩) ha h
theorem kT (i:Nat) (N:Option Tmp) (u:ae (aW .any ops=T)) (HW:ae (bL T.2 B=true)) (hS:Sk w3 gC w) (h:bm P .any ops Q (Sk w3 gC) ds fuel l' a' w) (hi:ops[i]? =some oi:=by rfl) (hN:oi.dst=N:=by rfl)
    (hl:l.setIfInBounds i true=l':=by simp only[List.setIfInBounds_toArray,List.set_cons_zero,List.set_cons_succ];rfl) (hc:oT T B ds l.toList l'.toList i=true:=by kernel_rfl)
    (hQ:∀c a w,Q (.panic c) (a.put oi.dst v) w→Q (.panic c) a w:=by exact fun _ _ _ h=>h) (hw:Region.wanted oi (yielded ops a.tmps)=true:=by rfl)
    (hy:∀w',Kb w3 w' gC→(execOp a.eval oi).run P w'= .ok (.value v) w':=by intro w' jS;go_simp;with_reducible rfl) (ha:a.put N v=a':=by simp only[Act.put,List.setIfInBounds_toArray,List.set_cons_zero,List.set_cons_succ,bJ,cu];rfl):
    bm P .any ops Q (Sk w3 gC) ds (fuel+1) l a w:=oU l' hi hN (r9 u.out HW.out hc) hQ (Or.inl ⟨hw,fun w' hS=>hy w' ⟨hS⟩⟩) hS ha h
theorem kL (i:Nat) (u:ae (aW .any ops=T)) (h:bm P .any ops Q (Sk w3 gC) ds fuel l' a w1) (hi:ops[i]? =some oi:=by rfl) (hN:oi.dst=none:=by rfl)
    (hl:l.setIfInBounds i true=l':=by simp only[List.setIfInBounds_toArray,List.set_cons_zero,List.set_cons_succ];rfl) (hc:(eP T.2 l.toList==[i]&&l.toList.set i true==l'.toList)=true:=by kernel_rfl) (hd:i∈ds:=by decide) (hw:Region.wanted oi (yielded ops a.tmps)=true:=by rfl)
    (hr:(execOp a.eval oi).run P w= .ok .skip w1:=by go_simp;rfl):
    bm P .any ops Q (Sk w3 gC) ds (fuel+1) l a w:=tU l' hi hN (dF u.out hc) hd fun K hK=>p9 hw hN hr (hK.out _ _ h)
theorem kC {f:FuncId} {args:Array Value} {xs:Array Operand} {ts:Array TypeId} (i N:Nat) {fn:Func} (hf:P.funcs[f]? =some fn) (u:ae (aW .any ops=T)) (h:∀K:Act→World→Prop,(∀a' w',Sk w3 gC w'→(Sk w3 gC w'→bm P .any ops Q (Sk w3 gC) ds fuel l' a' w')→K a' w')→Calls P f args w fun e w'=>∃v,e= .returned v∧K (a.put (some N) v) w') (hi:ops[i]? =some oi:=by rfl) (hN:oi.dst=some N:=by rfl)
    (hl:l.setIfInBounds i true=l':=by simp only[List.setIfInBounds_toArray,List.set_cons_zero,List.set_cons_succ];rfl) (hc:(eP T.2 l.toList==[i]&&l.toList.set i true==l'.toList)=true:=by kernel_rfl) (hd:i∉ds:=by decide) (hw:Region.wanted oi (yielded ops a.tmps)=true:=by rfl)
    (hop:oi.op= .call {callee:= .value (.func f),args:=xs,argTypes:=ts}:=by rfl) (hname:(fn.name== "runtime.NumGoroutine")=false:=by kernel_rfl) (hb:fn.body.isSome=true:=by rfl)
    (hargs:xs.map a.eval=args:=by(try simp only[List.map_toArray,List.map_cons,List.map_nil]);first|done|rfl):
    bm P .any ops Q (Sk w3 gC) ds (fuel+1) l a w:=dN l' hi hN (dF u.out hc) hd fun K hK=>cG hf hname hb args hw hN hop hargs (h K (fun a' w' h1 h2=>hK.out a' w' h1 h2))
theorem kN (h:bm P .any ops Q (Sk w3 gC) ds fuel l a' w) (ha:a=a':=by show Act.put _ (some _) _=_;simp only[Act.put,List.setIfInBounds_toArray,List.set_cons_zero,List.set_cons_succ,bJ,cu];rfl):bm P .any ops Q (Sk w3 gC) ds fuel l a w:=dS ha h
theorem kD (u:ae (aW .any ops=T)) (h:Q .normal a w) (hr:(eP T.2 l.toList==[])=true:=by kernel_rfl):bm P .any ops Q (Sk w3 gC) ds fuel l a w:=fH (gb u.out hr) h
section
variable {α:Type} {xs ys:List α} {inner:List Value} {K:Act→World→Prop} {N:Nat}
end
end
end V
namespace P
set_option maxHeartbeats 8000000
set_option maxRecDepth 100000
set_option synthInstance.maxHeartbeats 400000
set_option synthInstance.maxSize 100000
open Go.RowKit WW.bc WW.bY WW.bZ V
attribute [local go_sem] dB dC gT iV iW jI jJ
attribute [local go_sem] cP cT cS cW cR cV cQ cU
def lL.f (D:List Int) (F:Int) (G:Int):Option (Int×Int×Int×Int):=(ct.f D F G 2).bind fun u=>((ct.f D u.2.1 u.2.2 6).bind fun z=>(some (u.1,z.1,z.2.1,z.2.2)))
theorem lL.c (g:Nat) (z:List Int) (F:Int) (G:Int) (r1:Int) (r2:Int) (r3:Int) (D:Int) (w0 w:World) (hI:aX w0 w g z F G) (hB:Below w0.heap.size w0 w) (h:lL.f z F G=some (r1,r2,r3,D)):
  Calls Tryz.prog 94 #[.pointer (some ⟨g,0,none⟩)] w fun e w'=>e= .returned (.agg #[.int .i64 r1,.int .i64 r2])∧aX w0 w' g z r3 D∧Below w0.heap.size w0 w'∧bh w w' g none:=by
 replace hI:=St.mk hI;have iS:Sz w0 w:=⟨hB.size⟩;replace hB:=From.mk hB;have ad:=ij.mk (e:=62) (t:=82) (by decide);unfold lL.f at h;have K:=Tryz.underlying62
 all_goals go_enter Tryz.func94,Tryz.ntmps94
 all_goals go_wp2_with ((first
  |((with_reducible refine aC (N:=2) rfl ?_);refine lY rfl (N:=2) rfl (cs:= #[.int .i64 0,.int .i64 0]) (t:=62) (by first|(go_simp;done)|(go_simp;rfl)) ?_;intro J hg w1 hk hb;have j1:=fY.mk hg;have j2:=au.mk hb;have O:=aJ.mk hk;clear hg hb hk)
  |(go_at_call 26;(try rw[u.out]);replace h:=bI h;obtain⟨⟨t1,t2,t3⟩,A,h⟩:=h;(try dsimp only at h);refine(ct.c _ _ _ _ _ _ _ _ _ _ St.out From.out A).mono ?_;rintro e w2 ⟨rfl,hs,hb0,hk⟩;have X:=St.mk hs;have U:=From.mk hb0;have V:=Kb.mk hk;clear A hs hb0 hk));(repeat' first|((with_reducible replace h:=bC h);rcases h with ⟨hc,h⟩|⟨hc,h⟩<;>first|exact(bo h).elim|exact absurd hc (by decide)|subst hc|(replace hc:=aM hc;subst hc)|(replace hc:=bR hc;subst hc)|(replace hc:=bS hc;subst hc)|(have hd:(_==_)=true:=hc)|(have hd:(_==_)=false:=aM hc)|(have hd:=bw hc;have he:=bz hc;clear hc)|(have hd:=bA hc;have he:=bB hc)|(have hd:=ax hc)|(have hd:=ah hc;(try(have hn:=Int.natCast_pos.mp hc;have hm:=ah hn;replace hn:=aw hn));first|(obtain⟨I,e_,i_⟩:=bQ (by assumption) (by first|assumption|decide) hc;cases e_)|(obtain⟨H,e_,c_⟩:=bO (by assumption) (by first|assumption|decide) hc;cases e_))|(have hd:=ah hc)|skip)|((with_reducible replace h:=bP h);obtain⟨u,h⟩:=h;replace u:=A_ u;(try dsimp only at h))))
 all_goals simp only[Option.some.injEq,Prod.mk.injEq]at h
 all_goals obtain⟨rfl,rfl,rfl,rfl⟩:=h
 all_goals refine bodyPost_ret (results_cell_row rfl _ _ _ _ _ (0,0) _ rfl aJ.out Tryz.underlying62 rfl (by kernel_rfl)) rfl ?_
 all_goals exact⟨(by first|rfl|(simp_all;done)),St.out,From.out,dh.out⟩
def mB.f (z:List Int) (O:Int) (U:Int):Option (Int×Int×Int×Int×Int×Int):=(ct.f z O U 12).bind fun u=>(if u.1=0 then((ct.f z u.2.1 u.2.2 40).bind fun D=>(some (2,wrap64 (D.1-5),0,0,D.2.1,D.2.2)))else(if u.1=1 then((lh.f z u.2.1 u.2.2 (([0,0,1]:List Int))).bind fun F=>((ct.f z F.2.1 F.2.2 6).bind fun G=>((ct.f z G.2.1 G.2.2 3).bind fun H=>(some (3,F.1,G.1,H.1,H.2.1,H.2.2)))))else(if u.1=2 then((ct.f z u.2.1 u.2.2 12).bind fun I=>((ct.f z I.2.1 I.2.2 2001).bind fun J=>(some (4,I.1,wrap64 (J.1-1000),0,J.2.1,J.2.2))))else(if u.1=3 then(some (5,0,0,0,u.2.1,u.2.2))else(if u.1=4 then(some (6,0,0,0,u.2.1,u.2.2))else(if u.1=5 then((ct.f z u.2.1 u.2.2 12).bind fun K=>(some (7,K.1,0,0,K.2.1,K.2.2)))else(some (1,0,0,0,u.2.1,u.2.2))))))))
theorem mB.c (g:Nat) (z:List Int) (H:Int) (I:Int) (r1:Int) (r2:Int) (r3:Int) (D:Int) (F:Int) (G:Int) (w0 w:World) (hI:aX w0 w g z H I) (hB:Below w0.heap.size w0 w) (h:mB.f z H I=some (r1,r2,r3,D,F,G)):
  Calls Tryz.prog 51 #[.pointer (some ⟨g,0,none⟩)] w fun e w'=>e= .returned (.agg #[.int .i64 r1,.int .i64 r2,.int .i64 r3,.int .i64 D])∧aX w0 w' g z F G∧Below w0.heap.size w0 w'∧bh w w' g none:=by
 replace hI:=St.mk hI;have iS:Sz w0 w:=⟨hB.size⟩;replace hB:=From.mk hB;have aq:=ij.mk (e:=57) (t:=82) (by decide);unfold mB.f at h;have am:=Tryz.underlying57
 all_goals go_enter Tryz.func51,Tryz.ntmps51
 all_goals go_wp2_with ((first
  |((with_reducible refine aC (N:=2) rfl ?_);refine lY rfl (N:=2) rfl (cs:= #[.int .i64 0,.int .i64 0,.int .i64 0,.int .i64 0]) (t:=57) (by first|(go_simp;done)|(go_simp;rfl)) ?_;intro al hg w1 hk hb;have j1:=fY.mk hg;have j2:=au.mk hb;have ao:=aJ.mk hk;clear hg hb hk)
  |(go_at_call 26;(try rw[u.out]);replace h:=bI h;obtain⟨⟨t1,t2,t3⟩,A,h⟩:=h;(try dsimp only at h);refine(ct.c _ _ _ _ _ _ _ _ _ _ St.out From.out A).mono ?_;rintro e w2 ⟨rfl,hs,hb0,hk⟩;have X:=St.mk hs;have U:=From.mk hb0;have V:=Kb.mk hk;clear A hs hb0 hk)
  |(go_at_call 95;(try rw[u.out]);replace h:=bI h;obtain⟨⟨t1,t2,t3⟩,A,h⟩:=h;(try dsimp only at h);refine(lh.c _ _ _ _ _ _ _ _ _ _ _ _ St.out From.out Rd.out af.out yh A).mono ?_;rintro e w2 ⟨rfl,hs,hb0,hk⟩;have X:=St.mk hs;have U:=From.mk hb0;have V:=Kb.mk hk;clear A hs hb0 hk)
  |((with_reducible refine aC (N:=14) rfl ?_);refine Kd.dR (Kd.int .i64) _ 3 ?hg (N:=14) ?hd (xs:=([0,0,1]:List Int)) (inner:=[.int .i64 0,.int .i64 0,.int .i64 1]) (ok:=fun _=>True) (bD:=fun _=>True) ?hr ?hp (fun _ hk=>hk) trivial (Below.refl _ _) (Nat.le_refl _) (by simp) ?_;(case hd=>rfl);(case hg=>rfl);(case hr=>first|(go_simp;done)|(go_simp;rfl));(case hp=>exact(aI.one (show Kd.M (Kd.int .i64) _ _ _ 0 [.int .i64 0]from rfl) (aI.one (show Kd.M (Kd.int .i64) _ _ _ 0 [.int .i64 0]from rfl) (aI.one (show Kd.M (Kd.int .i64) _ _ _ 1 [.int .i64 1]from rfl) (aI.none _ _)))));intro v5 ar ho hb J K;obtain⟨ad,c5,rfl⟩:=Kd.cJ ho;have O:=dt.mk ho;have q5:=af.mk (ia O);have ap:=au.mk hb;clear J K ho hb));(repeat' first|((with_reducible replace h:=bC h);rcases h with ⟨hc,h⟩|⟨hc,h⟩<;>first|exact(bo h).elim|exact absurd hc (by decide)|subst hc|(replace hc:=aM hc;subst hc)|(replace hc:=bR hc;subst hc)|(replace hc:=bS hc;subst hc)|(have hd:(_==_)=true:=hc)|(have hd:(_==_)=false:=aM hc)|(have hd:=bw hc;have he:=bz hc;clear hc)|(have hd:=bA hc;have he:=bB hc)|(have hd:=ax hc)|(have hd:=ah hc;(try(have hn:=Int.natCast_pos.mp hc;have hm:=ah hn;replace hn:=aw hn));first|(obtain⟨ak,e_,i_⟩:=bQ (by assumption) (by first|assumption|decide) hc;cases e_)|(obtain⟨ag,e_,c_⟩:=bO (by assumption) (by first|assumption|decide) hc;cases e_))|(have hd:=ah hc)|skip)|((with_reducible replace h:=bP h);obtain⟨u,h⟩:=h;replace u:=A_ u;(try dsimp only at h))))
 all_goals simp only[Option.some.injEq,Prod.mk.injEq]at h
 all_goals obtain⟨rfl,rfl,rfl,rfl,rfl,rfl⟩:=h
 all_goals refine bodyPost_ret (results_cell_row rfl _ _ _ _ _ (0,0) _ rfl aJ.out Tryz.underlying57 rfl (by kernel_rfl)) rfl ?_
 all_goals exact⟨(by first|rfl|(simp_all;done)),St.out,From.out,dh.out⟩
end P
namespace P
set_option maxHeartbeats 8000000
set_option maxRecDepth 100000
set_option synthInstance.maxHeartbeats 400000
set_option synthInstance.maxSize 100000
open Go.RowKit WW.bc WW.bY WW.bZ V
attribute [local go_sem] dB dC
attribute [local go_sem] cP cT cS cW cR cV cQ cU
def kp.f (k:Nat) (a0:Int) (l1:List (ag)):Option ((List (ag))×Int×List Int×Int×Int×(List (S64))×Bool):=(gO.f k a0 l1).bind fun u=>(if u.2.2.2=true then(some (u.1,u.2.1,u.2.2.1,15,0,([]:List (S64)),true))else(some (([]:List (ag)),0,([]:List Int),0,0,([]:List (S64)),false)))
theorem kp.c (k:Nat) (a0:Int) (A1:Option Addr) (c1:Nat) (l1:List (ag)) (r1:List (ag)) (r2:Int) (r3:List Int) (D:Int) (F:Int) (G:List (S64)) (H:Bool) (w:World) (hr1:Kd.C aN w A1 l1.length l1) (hc1:l1.length≤c1) (h:kp.f k a0 l1=some (r1,r2,r3,D,F,G,H)):
  Calls Tryz.prog 91 #[.int .i64 a0,.slice A1 l1.length c1] w fun e w'=>∃I J K:Value,e= .returned (.tuple #[.agg #[I,.int .i64 r2,J,.int .i64 D,.int .i64 F,K],.bool H])∧Kd.R aN 110 w' w.heap.size (fun _=>True) I r1∧Kd.R (Kd.int .i64) 3 w' w.heap.size (fun _=>True) J r3∧Kd.R aK 64 w' w.heap.size (fun _=>True) K G∧Below w.heap.size w w':=by
 replace hr1:=a6.mk hr1;replace hc1:=af.mk hc1;unfold kp.f at h;have V:=Tryz.underlying27;have X:=Tryz.underlying30
 all_goals go_enter Tryz.func91,Tryz.ntmps91
 all_goals go_wp2_with ((first
  |((with_reducible refine aC (N:=4) rfl ?_);refine bV #[.slice none 0 0,.int .i64 0,.slice none 0 0,.int .i64 0,.int .i64 0,.slice none 0 0] 30 fun g w1 j1 j2 O=> ?_)
  |((with_reducible refine aC (N:=6) rfl ?_);refine bV #[.slice none 0 0,.int .i64 0,.slice none 0 0] 27 fun g w1 j1 j2 O=> ?_)
  |(go_at_call 130;replace h:=bI h;obtain⟨⟨t1,t2,t3,t4⟩,A,h⟩:=h;(try dsimp only at h);refine(gO.c _ _ _ _ _ _ _ _ _ _ Rd.out af.out A).mono ?_;rintro e w2 ⟨v0,v1,rfl,u,z,hb⟩;obtain⟨U,b0,rfl,j0,q0⟩:=av u;obtain⟨B1,b1,rfl,j1,q1⟩:=av z;have ad:=au.mk hb;clear A u z hb));(repeat' first|((with_reducible replace h:=bC h);rcases h with ⟨hc,h⟩|⟨hc,h⟩<;>first|exact(bo h).elim|exact absurd hc (by decide)|subst hc|(replace hc:=aM hc;subst hc)|(have hd:=bw hc;have he:=bz hc;clear hc)|(have hd:=bA hc;have he:=bB hc)|(have hd:=ax hc)|(have hd:=ah hc)|skip)))
 all_goals simp only[Option.some.injEq,Prod.mk.injEq]at h
 all_goals obtain⟨rfl,rfl,rfl,rfl,rfl,rfl,rfl⟩:=h
 all_goals refine bodyPost_ret (dW rfl _ _ _ _ _ (0,0) _ rfl aJ.out Tryz.underlying30 rfl (by kernel_rfl)) rfl ?_
 all_goals exact⟨_,_,_,rfl,(by first|exact a8|exact Kd.aY _ _ _ _ _),(by first|exact a8|exact Kd.aY _ _ _ _ _),(by first|exact a8|exact Kd.aY _ _ _ _ _),From.out⟩
def mA.f (k:Nat):Option ((List (ag))×Int×List Int×Int×Int×(List (S64))):=(eW.f k 700).bind fun t172=>((kp.f k 264000 t172).bind fun u=>(some (u.1,u.2.1,u.2.2.1,u.2.2.2.1,u.2.2.2.2.1,u.2.2.2.2.2.1)))
theorem mA.c (k:Nat)  (r1:List (ag)) (r2:Int) (r3:List Int) (F:Int) (G:Int) (H:List (S64)) (w:World) (h:mA.f k=some (r1,r2,r3,F,G,H)):
  Calls Tryz.prog 47 #[] w fun e w'=>∃I J K:Value,e= .returned (.agg #[I,.int .i64 r2,J,.int .i64 F,.int .i64 G,K])∧Kd.R aN 110 w' w.heap.size (fun _=>True) I r1∧Kd.R (Kd.int .i64) 3 w' w.heap.size (fun _=>True) J r3∧Kd.R aK 64 w' w.heap.size (fun _=>True) K H∧Below w.heap.size w w':=by
 unfold mA.f at h;have X:=Tryz.underlying30
 all_goals go_enter Tryz.func47,Tryz.ntmps47
 all_goals go_wp2_with ((first
  |((with_reducible refine aC (N:=0) rfl ?_);refine bV #[.slice none 0 0,.int .i64 0,.slice none 0 0,.int .i64 0,.int .i64 0,.slice none 0 0] 30 fun g w1 j1 j2 U=> ?_)
  |((with_reducible refine aC (N:=1) rfl ?_);refine bV #[.slice none 0 0,.int .i64 0,.slice none 0 0,.int .i64 0,.int .i64 0,.slice none 0 0] 30 fun g w1 j1 j2 U=> ?_)
  |(go_at_call 92;replace h:=bI h;obtain⟨t,A,h⟩:=h;(try dsimp only at h);refine(eW.c _ _ _ _ A).mono ?_;rintro e w2 ⟨v0,rfl,u,hb⟩;obtain⟨O,b0,rfl,j0,q0⟩:=av u;have V:=au.mk hb;clear A u hb)
  |(go_at_call 91;replace h:=bI h;obtain⟨⟨t1,t2,t3,t4,t5,t6,t7⟩,A,h⟩:=h;(try dsimp only at h);refine(kp.c _ _ _ _ _ _ _ _ _ _ _ _ _ Rd.out af.out A).mono ?_;rintro e w2 ⟨v0,v1,v2,rfl,u,z,D,hb⟩;obtain⟨O,b0,rfl,j0,q0⟩:=av u;obtain⟨B1,b1,rfl,j1,q1⟩:=av z;obtain⟨B2,b2,rfl,j2,q2⟩:=av D;have V:=au.mk hb;clear A u z D hb));(repeat' first|((with_reducible replace h:=bC h);rcases h with ⟨hc,h⟩|⟨hc,h⟩<;>first|exact(bo h).elim|exact absurd hc (by decide)|subst hc|(replace hc:=aM hc;subst hc)|(have hd:=bw hc;have he:=bz hc;clear hc)|(have hd:=bA hc;have he:=bB hc)|(have hd:=ax hc)|(have hd:=ah hc)|skip));all_goals(try have hn:decide (0<t.length)=true:=ah (by omega));all_goals(try have hn:decide (0<t.length)=false:=ax (by omega)))
 all_goals simp only[Option.some.injEq,Prod.mk.injEq]at h
 all_goals obtain⟨rfl,rfl,rfl,rfl,rfl,rfl⟩:=h
 all_goals refine bodyPost_ret (results_cell_row rfl _ _ _ _ _ (0,0) _ rfl aJ.out Tryz.underlying30 rfl (by kernel_rfl)) rfl ?_
 all_goals exact⟨_,_,_,rfl,(by first|exact a8|exact Kd.aY _ _ _ _ _),(by first|exact a8|exact Kd.aY _ _ _ _ _),(by first|exact a8|exact Kd.aY _ _ _ _ _),From.out⟩
end P
namespace P
set_option maxHeartbeats 8000000
set_option maxRecDepth 100000
open Go.RowKit WW.bc WW.bY WW.bZ
attribute [local go_sem] cP cT cS cW cR cV cQ cU
def fW.l0:Nat→List (cd)→Int→Int→List Int→Int→Int→Option ((List (cd))×Int×Int)
 |0,_,_,_,_,_,_=>none
 |k+1,x3,G,H,z,D,F=>if H<G then((mB.f z D F).bind fun u=>(if x3.length<4398046511104 then(fW.l0 k (x3++[(⟨u.1,u.2.1,u.2.2.1,u.2.2.2.1⟩:cd)]) G (wrap64 (H+1)) z u.2.2.2.2.1 u.2.2.2.2.2)else(none)))else(some (x3,D,F))
def fW.f (k:Nat) (z:List Int) (D:Int) (F:Int):Option ((List (cd))×Int×Int):=(ct.f z D F 26).bind fun u=>(fW.l0 k (([]:List (cd))) u.1 0 z u.2.1 u.2.2)
theorem fW.c (k:Nat) (g:Nat) (D:List Int) (am:Int) (ao:Int) (r1:List (cd)) (r2:Int) (r3:Int) (w0 w:World) (hI:aX w0 w g D am ao) (hB:Below w0.heap.size w0 w) (h:fW.f k D am ao=some (r1,r2,r3)):
  Calls Tryz.prog 25 #[.pointer (some ⟨g,0,none⟩)] w fun e w'=>∃a7:Value,e= .returned (a7)∧Kd.R gZ 57 w' w.heap.size (fun _=>True) a7 r1∧aX w0 w' g D r2 r3∧Below w0.heap.size w0 w'∧bh w w' g none:=by
 have bG:=Tryz.underlying57;have u:=A_ hI;have HK:=A_ (bh.refl w g none);have bd:=A_ hB.size;clear hI;have bf:=A_ hB.size;have z:=A_ hB;clear hB;have H:((ct.f D am ao 26).bind fun al=>(fW.l0 k (([]:List (cd))) al.1 0 D al.2.1 al.2.2))=some (r1,r2,r3):=h;clear h;obtain⟨a9,aB⟩:∃aN:List (cd),aN=(([]:List (cd))):=⟨_,rfl⟩;replace H:((ct.f D am ao 26).bind fun al=>(fW.l0 k a9 al.1 0 D al.2.1 al.2.2))=some (r1,r2,r3):=by first|(rw[aB];with_reducible exact H)|(have ak:=(az _ _).symm.trans H;rw[aB];with_reducible exact ak)|(have ak:=(az _ _).symm.trans H;with_reducible exact ak)|with_reducible exact H|(rw[aB];exact H)|exact H
 have aY:=A_ aB;clear aB;replace H:=ay H;obtain⟨⟨ap,a5,a6⟩,aQ,H⟩:=H
 (try dsimp only at H)
 have A2:=A_ aQ;clear aQ;have H':=A_ H;clear H;go_enter Tryz.func25,Tryz.ntmps25
 go_wp2_with (first|((with_reducible refine aC (N:=7) rfl ?_);refine Kd.dR gZ _ 57 ?hg (N:=7) ?hd (xs:=([]:List (cd))) (inner:=[]) (ok:=fun _=>True) (bD:=fun _=>True) ?hr ?hp (fun _ hk=>hk) trivial (Below.refl _ _) (Nat.le_refl _) (by simp) ?_;(case hd=>rfl);(case hg=>rfl);(case hr=>first|(go_simp;done)|(go_simp;rfl));(case hp=>exact(aI.none _ _));intro bH w3 av hb bq br;clear bq br;(first|rw[←aY.out]at av|(simp only[Int.reduceToNat]at av;rw[←aY.out]at av));have G:=A_ (Kd.cD av (ng (w:=w) (g:=g) (row:=none) (by repeat(first|(with_reducible first|exact HK.out|apply bh.lJ|apply mi|apply mh|apply lF)|exact HK.out))));have I:=A_ (aX.below (bW u) hb);have J:=A_ (bh.trans (cY HK) (bh.lH hb g none) (.inl rfl));have K:=A_ (aV (cH z) hb);clear u HK z;have aK:=G;have u:=I;have HK:=J;have z:=K;clear G I J K hb av)|((with_reducible refine bp (f:=26) rfl ?_);refine gL (some 9) Tryz.func26 #[.pointer (some ⟨g,0,none⟩),.int .i64 26] ?_;(with_reducible refine(ct.c g D am ao 26 ap a5 a6 w0 _ ?aT ?aU A2.out).mono ?_);(case aT=>exact bW u);(case aU=>exact cH z);rintro e bN ⟨rfl,hi,hb,hk⟩;refine⟨_,rfl,?_⟩;have G:=A_ (Kd.cm (Kd.jW (aX.apart (show aX w0 _ g D am ao from bW u) (oR aK) (by decide)) hk (fun _ h=>h.2)) (fun _ h=>h.1));have I:=A_ (bh.trans (cY HK) hk (.inl rfl));have J:=A_ (hb);have K:=A_ (hi);clear aK HK z u;have aK:=G;have HK:=I;have z:=J;have u:=K;clear G I J K;(try clear hb);(try clear hb2);(try clear hk);(try clear hi)))
 go_loopg [3,5] k (fun a0 v3 v5 w'=>∃(au:List (cd)) (ag:Int) (aH:Int) (aJ:Int),v5= .int .i64 ag∧ae (fW.l0 a0 au ap ag D aH aJ=some (r1,r2,r3))∧ae (a0≤k)∧ae (Kd.R gZ 57 w' w.heap.size (fun _=>True) v3 au)∧ae (aX w0 w' g D aH aJ)∧ae (bh w w' g none)∧ae (Below w0.heap.size w0 w'))
 case atStart=>exact⟨(a9),(0),(a5),(a6),eS,H',⟨Nat.le_refl _⟩,⟨oR aK⟩,⟨bW u⟩,⟨cY HK⟩,⟨cH z⟩⟩
 case round=>
  clear H'
  try clear c2
  try clear p2
  obtain⟨au,ag,aH,aJ,rfl,aM,aW,V,u,HK,z⟩:=hrel;cases gk with
  |zero=>exact absurd aM.out (by simp[fW.l0])
  |succ k1=>
   have H:=aM.out;clear aM;simp only[fW.l0]at H;by_cases c6:ag<ap
   ·rw[ai c6]at H;have bo:decide (ag<ap)=true:=ah c6;clear c6;replace H:=ay H;obtain⟨⟨O,X,ad,af,aq,ar⟩,aR,H⟩:=H
    (try dsimp only at H)
    have bb:=A_ aR;clear aR;by_cases c8:au.length<4398046511104
    ·rw[ai c8]at H;have bg:=A_ c8;clear c8;obtain⟨a_,aE⟩:∃aN:List (cd),aN=(au++[(⟨O,X,ad,af⟩:cd)]):=⟨_,rfl⟩;replace H:(fW.l0 k1 a_ ap (wrap64 (ag+1)) D aq ar)=some (r1,r2,r3):=by first|(rw[aE];with_reducible exact H)|(have ak:=(az _ _).symm.trans H;rw[aE];with_reducible exact ak)|(have ak:=(az _ _).symm.trans H;with_reducible exact ak)|with_reducible exact H|(rw[aE];exact H)|exact H
     have bm:=A_ aE;clear aE;have H':=A_ H;clear H
     go_wp2_with (first|((with_reducible refine bp (f:=51) rfl ?_);refine gL (some 16) Tryz.func51 #[.pointer (some ⟨g,0,none⟩)] ?_;(with_reducible refine(mB.c g D aH aJ O X ad af aq ar w0 _ ?aT ?aU bb.out).mono ?_);(case aT=>exact bW u);(case aU=>exact cH z);rintro e bO ⟨rfl,hi,hb,hk⟩;refine⟨_,rfl,?_⟩;have G:=A_ (Kd.cm (Kd.jW (aX.apart (show aX w0 _ g D aH aJ from bW u) (oR V) (by decide)) hk (fun _ h=>h.2)) (fun _ h=>h.1));have I:=A_ (bh.trans (cY HK) hk (.inl rfl));have J:=A_ (hb);have K:=A_ (hi);clear V HK z u;have V:=G;have HK:=I;have z:=J;have u:=K;clear G I J K;(try clear hb);(try clear hb2);(try clear hk);(try clear hi))|((with_reducible refine aC (N:=6) rfl ?_);refine bX (N:=6) (cs:= #[.int .i64 0,.int .i64 0,.int .i64 0,.int .i64 0]) (t:=57) ?_;intro F hg bK aZ hb;have G:=A_ (Kd.b6 (Kd.wT (oR V) F (Nat.le_of_eq hg.symm)) hb);have I:=A_ (aX.below (bW u) hb);have J:=A_ (bh.trans (cY HK) (bh.lH hb g none) (.inl rfl));have K:=A_ (aV (cH z) hb);have aG:=A_ (aZ);have a1:=A_ ((by rw[hg];exact(ng (w:=w) (g:=g) (row:=none) (by repeat(first|(with_reducible first|exact HK.out|apply bh.lJ|apply mi|apply mh|apply lF)|exact HK.out))):w.heap.size≤F));have a2:=A_ ((Nat.le_trans bf.out (by rw[hg];exact(ng (w:=w) (g:=g) (row:=none) (by repeat(first|(with_reducible first|exact HK.out|apply bh.lJ|apply mi|apply mh|apply lF)|exact HK.out))):w.heap.size≤F):w0.heap.size≤F));have a3:=A_ ((by rw[hg];exact Nat.ne_of_lt (aX.lt (show aX w0 _ g D aq ar from bW u)):g≠F));have a4:=A_ ((by rw[hg];exact Nat.ne_of_gt (aX.lt (show aX w0 _ g D aq ar from bW u)):F≠g));clear V u HK z;have V:=G;have u:=I;have HK:=J;have z:=K;have U:=aG;have bc:=a1;have bs:=a2;have bj:=a3;have bk:=a4;clear G I J K aG a1 a2 a3 a4 hb aZ hg;have bE:=bk.out;have bF:=bj.out;have bu:=cz U 0;have bv:=cz U 1;have bw:=cz U 2;have bx:=cz U 3;have bz:=aD U.out 0;have bA:=aD U.out 1;have bB:=aD U.out 2;have bC:=aD U.out 3)|((with_reducible refine fI (b:= .append) (xs:= #[.tmp 17,.tmp 19]) rfl ?_);at_builtin;refine Kd.gS gZ w.heap.size rfl (.tmp 17) (.tmp 19) 31 57 (.agg #[(.int .i64 0),(.int .i64 0),(.int .i64 0),(.int .i64 0)]) 32 rfl Tryz.underlying31 tJ rfl (by decide) (by omega) u3 au (⟨O,X,ad,af⟩:cd) [.int .i64 O,.int .i64 X,.int .i64 ad,.int .i64 af] (fun k_=>k_≠F) (fun _=>False) rfl (by first|(go_simp;done)|(go_simp;rfl)) ?aP (fun _ hk=>hk.elim) ?aF ?aO (Below.refl _ _) ?aS ?aL ?_;(case aP=>exact yS _ _ _ (⟨O,X,ad,af⟩:cd));(case aF=>exact(fun k_ hk=>Kd.yr (g:=F) (o:= .cells #[.int .i64 O,.int .i64 X,.int .i64 ad,.int .i64 af] 57 (0,0)) (by(with_reducible repeat(first|refine bt ?_ _|refine bn ?_|refine bl ?_ _));refine cE (cs:= #[.int .i64 O,.int .i64 X,.int .i64 ad,.int .i64 0]) ?_ 3 _ rfl;(with_reducible repeat(first|refine bt ?_ _|refine bn ?_|refine bl ?_ _));refine cE (cs:= #[.int .i64 O,.int .i64 X,.int .i64 0,.int .i64 0]) ?_ 2 _ rfl;(with_reducible repeat(first|refine bt ?_ _|refine bn ?_|refine bl ?_ _));refine cE (cs:= #[.int .i64 O,.int .i64 0,.int .i64 0,.int .i64 0]) ?_ 1 _ rfl;(with_reducible repeat(first|refine bt ?_ _|refine bn ?_|refine bl ?_ _));refine cE (cs:= #[.int .i64 0,.int .i64 0,.int .i64 0,.int .i64 0]) ?_ 0 _ rfl;(with_reducible repeat(first|refine bt ?_ _|refine bn ?_|refine bl ?_ _));exact U.out) k_ hk));(case aO=>exact(by(with_reducible repeat(first|apply Kd.cC|apply Kd.cM|apply Kd.cq));exact Kd.cm (Kd.dM (p:=⟨F,3,none⟩) (Kd.dM (p:=⟨F,2,none⟩) (Kd.dM (p:=⟨F,1,none⟩) (Kd.dM (p:=⟨F,0,none⟩) (Kd.cm V.out (fun k_ hk=>(⟨hk,hk.2⟩:_∧k_≠F))) (fun _ hk=>hk.2) (.int .i64 O)) (fun _ hk=>hk.2) (.int .i64 X)) (fun _ hk=>hk.2) (.int .i64 ad)) (fun _ hk=>hk.2) (.int .i64 af)) (fun _ hk=>hk.1.2)));(case aS=>exact(ng (w:=w) (g:=g) (row:=none) (by repeat(first|(with_reducible first|exact HK.out|apply bh.lJ|apply mi|apply mh|apply lF|refine rr ?_ bc.out _)|exact HK.out))));(case aL=>have:=bg.out;omega);intro bI bL ho hb hg hat;rw[←bm.out]at ho;have G:=A_ (aX.grown (show aX w0 _ g D aq ar from bW u) hg (aX.kX u.out V.out (by decide)));have I:=A_ (po (g:=F) (o:= .cells #[.int .i64 O,.int .i64 X,.int .i64 ad,.int .i64 af] 57 (0,0)) (by(with_reducible repeat(first|refine bt ?_ _|refine bn ?_|refine bl ?_ _));refine cE (cs:= #[.int .i64 O,.int .i64 X,.int .i64 ad,.int .i64 0]) ?_ 3 _ rfl;(with_reducible repeat(first|refine bt ?_ _|refine bn ?_|refine bl ?_ _));refine cE (cs:= #[.int .i64 O,.int .i64 X,.int .i64 0,.int .i64 0]) ?_ 2 _ rfl;(with_reducible repeat(first|refine bt ?_ _|refine bn ?_|refine bl ?_ _));refine cE (cs:= #[.int .i64 O,.int .i64 0,.int .i64 0,.int .i64 0]) ?_ 1 _ rfl;(with_reducible repeat(first|refine bt ?_ _|refine bn ?_|refine bl ?_ _));refine cE (cs:= #[.int .i64 0,.int .i64 0,.int .i64 0,.int .i64 0]) ?_ 0 _ rfl;(with_reducible repeat(first|refine bt ?_ _|refine bn ?_|refine bl ?_ _));exact U.out) hg (Kd.wR V.out (fun _ hk=>hk.2)));have J:=A_ (sX (cH z) bd.out hb);have K:=A_ (bh.trans (cY HK) (bh.nk hg g) (Kd.o7 V.out));have aG:=A_ (ho);clear u U z HK V;have u:=G;have U:=I;have z:=J;have HK:=K;have be:=aG;clear G I J K aG ho hb hg hat))
     go_roundg k1
     case measure=>have:=aW.out;omega
     case rel=>exact⟨(a_),(wrap64 (ag+1)),(aq),(ar),eS,H',⟨by have:=aW.out;omega⟩,⟨by(with_reducible repeat(first|apply Kd.cC|apply Kd.cM|apply Kd.cq));exact Kd.cm be.out (fun _ hk=>trivial)⟩,⟨bW u⟩,⟨cY HK⟩,⟨cH z⟩⟩
    ·rw[aj c8]at H;exact absurd H (by simp)
   ·rw[aj c6]at H;have bo:decide (ag<ap)=false:=ax c6;clear c6;simp only[Option.some.injEq,Prod.mk.injEq]at H;obtain⟨rfl,rfl,rfl⟩:=H;go_wp2;go_ret;exact⟨_,eR,oR V,bW u,cH z,cY HK⟩
end P
namespace P
set_option maxHeartbeats 8000000
set_option maxRecDepth 100000
set_option synthInstance.maxHeartbeats 400000
set_option synthInstance.maxSize 100000
open Go.RowKit WW.bc WW.bY WW.bZ V
attribute [local go_sem] dB dC gT iV iW jI jJ
attribute [local go_sem] cP cT cS cW cR cV cQ cU
attribute [local go_sem high] ye
def gf.j0:Nat→Int→Bool→Int→Int→Int→Int→Option (Bool)
 |0,_,_,_,_,_,_=>none
 |k+1,F,V,X,u,z,D=>if V=true then(some (u==0&&(z==0&&(D==0))))else(if F=2 then(if(z==0&&(D==0))=true then((fC.f u).bind fun G=>(some G))else(some false))else(if F=3 then((cx.f u 0 3).bind fun H=>(if H=true then((cx.f z 0 39).bind fun I=>(if I=true then((cx.f D 0 2).bind fun J=>(some J))else(some false)))else(some false)))else(if F=4 then(if(D==0)=true then((cx.f u 0 11).bind fun K=>(if K=true then((cx.f z (-100000) 100000).bind fun O=>(some O))else(some false)))else(some false))else(if F=7 then(if(z==0&&(D==0))=true then((cx.f u 0 11).bind fun U=>(some U))else(some false))else(some false)))))
def gf.f (k:Nat) (u:Int) (z:Int) (D:Int) (F:Int):Option (Bool):=if u=1 then(gf.j0 k u (u==1) u z D F)else(if u=5 then(gf.j0 k u (u==5) u z D F)else(gf.j0 k u (u==6) u z D F))
theorem gf.c (k:Nat) (z:Int) (D:Int) (F:Int) (G:Int) (r:Bool) (w:World) (h:gf.f k z D F G=some r):
  Calls Tryz.prog 59 #[.agg #[.int .i64 z,.int .i64 D,.int .i64 F,.int .i64 G]] w fun e w'=>e= .returned (.bool r)∧Below w.heap.size w w':=by
 unfold gf.f at h;have J:=Tryz.underlying57
 (repeat' first|((with_reducible replace h:=bC h);rcases h with ⟨hc,h⟩|⟨hc,h⟩<;>first|exact(bo h).elim|exact absurd hc (by decide)|subst hc|(replace hc:=aM hc;subst hc)|(replace hc:=bR hc;subst hc)|(replace hc:=bS hc;subst hc)|(have hd:(_==_)=true:=hc)|(have hd:(_==_)=false:=aM hc)|(have hd:=bw hc;have he:=bz hc;clear hc)|(have hd:=bA hc;have he:=bB hc)|(have hd:=ax hc)|(have hd:=ah hc;(try(have hn:=Int.natCast_pos.mp hc;have hm:=ah hn;replace hn:=aw hn));first|(obtain⟨I,e_,i_⟩:=bQ (by assumption) (by first|assumption|decide) hc;cases e_)|(obtain⟨H,e_,c_⟩:=bO (by assumption) (by first|assumption|decide) hc;cases e_))|(have hd:=ah hc)|skip)|((with_reducible have hj:gf.j0 k _ _ _ _ _ _=_:=h);clear hj;rcases k with _|k<;>rw[gf.j0]at h<;>first|exact(bo h).elim|skip)|((with_reducible replace h:=bP h);obtain⟨u,h⟩:=h;replace u:=A_ u;(try dsimp only at h)))
 all_goals go_enter Tryz.func59,Tryz.ntmps59
 all_goals go_wp2_with ((first
  |((with_reducible refine aC (N:=1) rfl ?_);refine bV #[.int .i64 z,.int .i64 D,.int .i64 F,.int .i64 G] 57 fun g w1 j1 j2 K=> ?_)
  |(go_at_call 57;(try rw[u.out]);replace h:=bI h;obtain⟨t,A,h⟩:=h;(try dsimp only at h);refine(fC.c _ _ _ A).mono ?_;rintro e w2 ⟨rfl,n,rfl⟩;clear A)
  |(go_at_call 58;(try rw[u.out]);replace h:=bI h;obtain⟨t,A,h⟩:=h;(try dsimp only at h);refine(cx.c _ _ _ _ _ A).mono ?_;rintro e w2 ⟨rfl,n,rfl⟩;clear A));(repeat' first|((with_reducible replace h:=bC h);rcases h with ⟨hc,h⟩|⟨hc,h⟩<;>first|exact(bo h).elim|exact absurd hc (by decide)|subst hc|(replace hc:=aM hc;subst hc)|(replace hc:=bR hc;subst hc)|(replace hc:=bS hc;subst hc)|(have hd:(_==_)=true:=hc)|(have hd:(_==_)=false:=aM hc)|(have hd:=bw hc;have he:=bz hc;clear hc)|(have hd:=bA hc;have he:=bB hc)|(have hd:=ax hc)|(have hd:=ah hc;(try(have hn:=Int.natCast_pos.mp hc;have hm:=ah hn;replace hn:=aw hn));first|(obtain⟨I,e_,i_⟩:=bQ (by assumption) (by first|assumption|decide) hc;cases e_)|(obtain⟨H,e_,c_⟩:=bO (by assumption) (by first|assumption|decide) hc;cases e_))|(have hd:=ah hc)|skip)|((with_reducible have hj:gf.j0 k _ _ _ _ _ _=_:=h);clear hj;rcases k with _|k<;>rw[gf.j0]at h<;>first|exact(bo h).elim|skip)|((with_reducible replace h:=bP h);obtain⟨u,h⟩:=h;replace u:=A_ u;(try dsimp only at h))))
 all_goals obtain rfl:=aA h
 all_goals go_ret
 all_goals exact⟨(by first|rfl|(simp_all;done)),From.out⟩
end P
namespace Q
open Go.RowKit P WW.bc WW.bZ
def hZ (x:Int) (p:List ag):List ag×Int×List Int×Int×Int×List S64×Bool:=
  if(kU x p).2.2.2=true then((kU x p).1,(kU x p).2.1,(kU x p).2.2.1,15,0,[],true)else([],0,[],0,0,[],false)
theorem um (x:Int) (p:List ag):Ev (fun k=>kp.f k x p) (hZ x p):=by
  unfold kp.f hZ;refine Ev.bind (zC x p) ?_;by_cases h:(kU x p).2.2.2=true
  · exact bE h<|ak h (Ev.now _)
  · exact bq h<|aH h (Ev.now _)
def vk:List ag×Int×List Int×Int×Int×List S64:=((hZ 264000 (iP 700)).1,(hZ 264000 (iP 700)).2.1,(hZ 264000 (iP 700)).2.2.1,(hZ 264000 (iP 700)).2.2.2.1,(hZ 264000 (iP 700)).2.2.2.2.1,(hZ 264000 (iP 700)).2.2.2.2.2.1)
theorem Bh:Ev (fun k=>mA.f k) vk:=by
  unfold mA.f;exact Ev.bind (vP 700) (Ev.bind (um 264000 _) (Ev.now _))
theorem yN (a:Int):fC.f a=some (decide (-10≤a∧a≤40)):=by
  unfold fC.f;rw[iQ];rfl
def fA (n a b c:Int):Bool:=
  if n=1∨n=5∨n=6 then decide (a=0∧b=0∧c=0)
  else if n=2 then decide ((-10≤a∧a≤40)∧b=0∧c=0)
  else if n=3 then decide ((0≤a∧a≤3)∧(0≤b∧b≤39)∧(0≤c∧c≤2))
  else if n=4 then decide ((0≤a∧a≤11)∧(-100000≤b∧b≤100000)∧c=0)
  else if n=7 then decide ((0≤a∧a≤11)∧b=0∧c=0)else false
theorem xl (n a b c:Int):Ev (fun k=>gf.f k n a b c) (fA n a b c):=by
  have J:∀x:Bool,x=decide (n=1∨n=5∨n=6)→Ev (fun k=>gf.j0 k n x n a b c) (fA n a b c):=by
    intro x hx;refine Ev.step (fun k=>by rw[gf.j0]) ?_;unfold fA;by_cases h:n=1∨n=5∨n=6
    · refine ak (by simp[hx,h]) (evs ?_);rw[ai h,Bool.eq_iff_iff];simp
    rw[aj h];refine aH (by simp[hx,h]) ?_;by_cases h2:n=2
    · refine ak h2 ?_;rw[ai h2];by_cases hz:b=0∧c=0
      · refine ak (by simp[hz]) (aQ (yN _) (evs ?_));simp[hz]
      · refine aH (by simpa using hz) (evs ?_);rw[Bool.eq_iff_iff];simp;intros;omega
    refine aH h2 ?_;rw[aj h2];by_cases h3:n=3
    · refine ak h3 ?_;rw[ai h3];refine aQ (iQ _ _ _) ?_;by_cases p1:0≤a∧a≤3;rotate_left
      · exact aH (by simpa using p1) (evs (by simp[p1]))
      refine ak (by simpa using p1) (aQ (iQ _ _ _) ?_);by_cases p2:0≤b∧b≤39;rotate_left
      · exact aH (by simpa using p2) (evs (by simp[p2]))
      refine ak (by simpa using p2) (aQ (iQ _ _ _) (evs ?_));simp[p1,p2]
    refine aH h3 ?_;rw[aj h3];by_cases h4:n=4
    · refine ak h4 ?_;rw[ai h4];by_cases p0:c=0;rotate_left
      · exact aH (by simpa using p0) (evs (by simp[p0]))
      refine ak (by simpa using p0) (aQ (iQ _ _ _) ?_);by_cases p1:0≤a∧a≤11;rotate_left
      · exact aH (by simpa using p1) (evs (by simp[p1]))
      refine ak (by simpa using p1) (aQ (iQ _ _ _) (evs ?_));simp[p0,p1]
    refine aH h4 ?_;rw[aj h4];by_cases h7:n=7
    · refine ak h7 ?_;rw[ai h7];by_cases hz:b=0∧c=0
      · refine ak (by simp[hz]) (aQ (iQ _ _ _) (evs ?_));simp[hz]
      · refine aH (by simpa using hz) (evs ?_);rw[Bool.eq_iff_iff];simp;intros;omega
    refine aH h7 ?_;rw[aj h7];exact Ev.now _
  unfold gf.f;refine oa (fun h=>J _ (by simp[h])) (fun h=>oa (fun h5=>J _ (by simp[h5])) (fun h5=>J _ ?_));rw[Bool.eq_iff_iff];simp[h,h5]
theorem xn (n a b c:Int):Ev (fun k=>gl.f k n a b c) (fA n a b c):=by
  have Z:∀(p:Prop) [Decidable p],p→Ev (fun _=>if b=0 then some (c==0)else some false) (decide (p∧b=0∧c=0)):=by
    intro p _ hp;by_cases hb:b=0
    · refine ak hb (evs ?_);rw[Bool.eq_iff_iff];simp[hp,hb]
    · refine aH hb (evs ?_);simp[hb]
  have J:∀x:Bool,x=decide (n=1∨n=5∨n=6)→Ev (fun k=>gl.j0 k n x n a b c) (fA n a b c):=by
    intro x hx;refine Ev.step (fun k=>by rw[gl.j0]) ?_;unfold fA;by_cases h:n=1∨n=5∨n=6
    · rw[ai h];refine ak (by simp[hx,h]) ?_;by_cases ha:a=0
      · exact ak ha (Z (a=0) ha)
      · exact aH ha (evs (by simp[ha]))
    rw[aj h];refine aH (by simp[hx,h]) ?_;by_cases h2:n=2
    · refine ak h2 ?_;rw[ai h2];refine aQ (gI _ _ _) ?_;by_cases p1: -10≤a∧a≤40
      · exact ak (by simpa using p1) (Z _ p1)
      · exact aH (by simpa using p1) (evs (by simp[p1]))
    refine aH h2 ?_;rw[aj h2];by_cases h3:n=3
    · refine ak h3 ?_;rw[ai h3];refine aQ (gI _ _ _) ?_;by_cases p1:0≤a∧a≤3;rotate_left
      · exact aH (by simpa using p1) (evs (by simp[p1]))
      refine ak (by simpa using p1) (aQ (gI _ _ _) ?_);by_cases p2:0≤b∧b≤39;rotate_left
      · exact aH (by simpa using p2) (evs (by simp[p2]))
      refine ak (by simpa using p2) (aQ (gI _ _ _) (evs ?_));simp[p1,p2]
    refine aH h3 ?_;rw[aj h3];by_cases h4:n=4
    · refine ak h4 ?_;rw[ai h4];refine aQ (gI _ _ _) ?_;by_cases p1:0≤a∧a≤11;rotate_left
      · exact aH (by simpa using p1) (evs (by simp[p1]))
      refine ak (by simpa using p1) (aQ (gI _ _ _) ?_);by_cases p2: -100000≤b∧b≤100000
      · refine ak (by simpa using p2) (evs ?_);rw[Bool.eq_iff_iff];simp[p1,p2]
      · refine aH (by simpa using p2) (evs ?_);simp[p2]
    refine aH h4 ?_;rw[aj h4];by_cases h7:n=7
    · refine ak h7 ?_;rw[ai h7];refine aQ (gI _ _ _) ?_;by_cases p1:0≤a∧a≤11
      · exact ak (by simpa using p1) (Z _ p1)
      · exact aH (by simpa using p1) (evs (by simp[p1]))
    refine aH h7 ?_;rw[aj h7];exact Ev.now _
  unfold gl.f;refine oa (fun h=>J _ (by simp[h])) (fun h=>oa (fun h5=>J _ (by simp[h5])) (fun h5=>J _ ?_));rw[Bool.eq_iff_iff];simp[h,h5]
theorem xm {n a b c:Int} (h:fA n a b c=true):1≤n∧n≤7:=by
  unfold fA at h;by_cases h1:n=1∨n=5∨n=6
  · omega
  rw[aj h1]at h;by_cases h2:n=2
  · omega
  rw[aj h2]at h;by_cases h3:n=3
  · omega
  rw[aj h3]at h;by_cases h4:n=4
  · omega
  rw[aj h4]at h;by_cases h7:n=7
  · omega
  rw[aj h7]at h;cases h
end Q
namespace P
set_option maxRecDepth 100000
open Go.RowKit WW.bc WW.bY WW.bZ V
attribute [local go_sem] dB dC
attribute [local go_sem] cP cT cS cW cR cV cQ cU
def l8.f (a0:Int):Option (ByteArray):=if-9223372036854775808≤a0∧a0≤9223372036854775807 then some ⟨(Go.Lib.itoa a0).toArray⟩else none
theorem l8.c (a0:Int) (r:ByteArray) (w:World) (h:l8.f a0=some r) (u:ae (kJ w)):
  Calls Tryz.prog 18 #[.int .i64 a0] w fun e w'=>e= .returned (.string r)∧Below w.heap.size w w':=by
 unfold l8.f at h;by_cases hc: -9223372036854775808≤a0∧a0≤9223372036854775807
 ·rw[ai hc]at h;obtain rfl:=aA h;go_enter Tryz.func18,Tryz.ntmps18
  go_wp2_with (go_at_call 44;refine(Any.strconv_Itoa BC a0 hc.1 hc.2 _ u.out).mono ?_;rintro e w' ⟨rfl,k,os,rfl⟩)
  go_ret;exact⟨rfl,Go.Lib.below_grow _ _ (Nat.le_refl _) _ _⟩
 ·rw[aj hc]at h;cases h
end P
namespace P
open Go.RowKit WW.bc WW.bY WW.bZ V
attribute [local go_sem] dB dC
attribute [local go_sem] cP cT cS cW cR cV cQ cU
def strings_Join.f (l0:List ByteArray) (a1:ByteArray):Option (ByteArray):=if l0.length≤140737488355328∧(Go.Lib.join (l0.map (·.data.toList)) a1.data.toList).length≤140737488355328 then some ⟨(Go.Lib.join (l0.map (·.data.toList)) a1.data.toList).toArray⟩else none
theorem strings_Join.c (A0:Option Addr) (c0:Nat) (l0:List ByteArray) (a1:ByteArray) (r:ByteArray) (w:World) (u:Kd.C Kd.string w A0 l0.length l0) (hc0:l0.length≤c0) (h:strings_Join.f l0 a1=some r):
  Calls Tryz.prog 82 #[.slice A0 l0.length c0,.string a1] w fun e w'=>e= .returned (.string r)∧Below w.heap.size w w':=by
 unfold strings_Join.f at h;by_cases hc:l0.length≤140737488355328∧(Go.Lib.join (l0.map (·.data.toList)) a1.data.toList).length≤140737488355328;rotate_left
 ·rw[aj hc]at h;cases h
 rw[ai hc]at h;obtain rfl:=aA h;by_cases hz:l0.length=0
 ·obtain rfl:l0=[]:=List.eq_nil_of_length_eq_zero hz;exact(Any.strings_Join_none vy vE A0 c0 a1 w).mono fun e w' ⟨he,hw⟩=>⟨he,hw▸Below.refl _ _⟩
 ·obtain⟨ad,rfl,hcell⟩:=(Kd.rK (d:=ByteArray.empty) u).2.2 (by omega);have h0:=hcell 0 (by omega);obtain⟨bk,o,sp⟩:=ad
  obtain rfl:sp=none:=by
   cases sp with
   |none=>rfl
   |some x=>unfold World.cell? at h0;simp only[Addr.add]at h0;split at h0<;>simp at h0
  refine Any.strings_Join vy vE bk o c0 l0 a1 w (fun j x hx=> ?_) (World.block_lt_of_cell? w _ h0) hc.1 hc0 hc.2
  have hj:j<l0.length:=by
   rcases Nat.lt_or_ge j l0.length with h'|h'
   ·exact h'
   ·rw[List.getElem?_eq_none h']at hx;cases hx
  have h1:=hcell j hj;rw[List.getD_eq_getElem?_getD,hx]at h1;by_cases hj0:j=0
  ·subst hj0;simpa[Addr.add]using h1
  ·simpa[Addr.add,hj0]using h1
end P
namespace P
set_option maxHeartbeats 8000000
set_option maxRecDepth 100000
open Go.RowKit WW.bc WW.bY WW.bZ V
attribute [local go_sem] dB dC
attribute [local go_sem] cP cT cS cW cR cV cQ cU
def cN.l0:Nat→List ByteArray→List Int→Int→Int→Option (ByteArray)
 |0,_,_,_,_=>none
 |k+1,x3,z,D,u=>if u<D then(if 0≤u then(if u<(z.length:Int)then((l8.f (rd z u)).bind fun F=>(if x3.length<8796093022208 then(cN.l0 k (x3++[F]) z D (wrap64 (u+1)))else(none)))else(none))else(none))else((strings_Join.f x3 (⟨#[32]⟩:ByteArray)).bind fun G=>(some G))
def cN.f (k:Nat) (l0:List Int):Option (ByteArray):=cN.l0 k (([]:List ByteArray)) l0 (l0.length:Int) 0
theorem cN.c (k:Nat) (A0:Option Addr) (c0:Nat) (l0:List Int) (r:ByteArray) (w:World) (ap:Kd.C (Kd.int .i64) w A0 l0.length l0) (hc0:l0.length≤c0) (h:cN.f k l0=some r) (a2:ae (kJ w)):
  Calls Tryz.prog 33 #[.slice A0 l0.length c0] w fun e w'=>e= .returned (.string r)∧Below w.heap.size w w':=by
 have aK:=A_ ap;have a4:=A_ hc0;clear ap hc0;have u:=A_ (Below.refl w.heap.size w);have H:(cN.l0 k (([]:List ByteArray)) l0 (l0.length:Int) 0)=some r:=h;clear h;obtain⟨au,O⟩:∃ag:List ByteArray,ag=(([]:List ByteArray)):=⟨_,rfl⟩;replace H:(cN.l0 k au l0 (l0.length:Int) 0)=some r:=by first|(rw[O];with_reducible exact H)|(have J:=(az _ _).symm.trans H;rw[O];with_reducible exact J)|(have J:=(az _ _).symm.trans H;with_reducible exact J)|with_reducible exact H|(rw[O];exact H)|exact H
 have ao:=A_ O;clear O;have H':=A_ H;clear H;go_enter Tryz.func33,Tryz.ntmps33
 go_wp2_with (first|((with_reducible refine aC (N:=6) rfl ?_);refine Kd.dR Kd.string _ 9 ?hg (N:=6) ?hd (xs:=([]:List ByteArray)) (inner:=[]) (ok:=fun _=>True) (bD:=fun _=>True) ?hr ?hp (fun _ hk=>hk) trivial (Below.refl _ _) (Nat.le_refl _) (by simp) ?_;(case hd=>rfl);(case hg=>rfl);(case hr=>first|(go_simp;done)|(go_simp;rfl));(case hp=>exact(aI.none _ _));intro a9 w2 K hb a0 a1;clear a0 a1;(first|rw[←ao.out]at K|(simp only[Int.reduceToNat]at K;rw[←ao.out]at K));have F:=A_ (Kd.cD K (aZ (oB u)));have G:=A_ (aV (oB u) hb);clear u;have aH:=F;have u:=G;clear F G hb K))
 go_loopg [3,9] k (fun ar v3 v9 w'=>∃(I:List ByteArray) (z:Int),v9= .int .i64 z∧ae (cN.l0 ar I l0 (l0.length:Int) z=some r)∧ae (ar≤k)∧ae (Kd.R Kd.string 9 w' w.heap.size (fun _=>True) v3 I)∧ae (Below w.heap.size w w'))
 case atStart=>exact⟨(au),(0),eS,H',⟨Nat.le_refl _⟩,⟨oR aH⟩,⟨oB u⟩⟩
 case round=>
  clear H'
  try clear p2
  try clear c3
  obtain⟨I,z,rfl,X,am,D,u⟩:=hrel;cases gk with
  |zero=>exact absurd X.out (by simp[cN.l0])
  |succ k1=>
   have H:=X.out;clear X;simp only[cN.l0]at H;by_cases c4:z<(l0.length:Int)
   ·rw[ai c4]at H;have aQ:decide (z<(l0.length:Int))=true:=ah c4;clear c4;by_cases c5:0≤z
    ·rw[ai c5]at H;have a6:decide (0≤z)=true:=ah c5;clear c5;by_cases c6:z<(l0.length:Int)
     ·rw[ai c6]at H;have a7:decide (z<(l0.length:Int))=true:=ah c6;clear c6;replace H:=ay H;obtain⟨V,al,H⟩:=H
      (try dsimp only at H)
      have aE:=A_ al;clear al;by_cases c8:I.length<8796093022208
      ·rw[ai c8]at H;have aM:=A_ c8;clear c8;obtain⟨av,U⟩:∃ag:List ByteArray,ag=(I++[V]):=⟨_,rfl⟩;replace H:(cN.l0 k1 av l0 (l0.length:Int) (wrap64 (z+1)))=some r:=by first|(rw[U];with_reducible exact H)|(have J:=(az _ _).symm.trans H;rw[U];with_reducible exact J)|(have J:=(az _ _).symm.trans H;with_reducible exact J)|with_reducible exact H|(rw[U];exact H)|exact H
       have aN:=A_ U;clear U;have H':=A_ H;clear H;have ad:0≤(z:Int):=oD;have af:z<(l0.length:Int):=oD;obtain⟨a5,aW,aq⟩:=Kd.dY aK.out z ad af;cases aW;replace aq:=hW u aq;replace ad:=aw ad;replace af:=aw af
       go_wp2_with (first|((with_reducible refine bp (f:=18) rfl ?_);refine gL (some 15) Tryz.func18 #[.int .i64 (rd l0 z)] ?_;(with_reducible refine(l8.c (rd l0 z) V _ aE.out ?jO).mono ?_);(case jO=>exact⟨mE a2.out (oB u)⟩);rintro e bd ⟨rfl,hb⟩;refine⟨_,rfl,?_⟩;have F:=A_ (Kd.b6 (oR D) hb);have G:=A_ (aV (oB u) hb);clear D u;have D:=F;have u:=G;clear F G;(try clear hb);(try clear hb2);(try clear hk);(try clear hi))|((with_reducible refine fI (b:= .append) (xs:= #[.tmp 13,.tmp 16]) rfl ?_);at_builtin;refine Kd.gS Kd.string (w0:=w) w.heap.size rfl (.tmp 13) (.tmp 16) 38 9 (.string ⟨#[]⟩) 16 rfl Tryz.underlying38 rq rfl (by decide) (by omega) u3 I V [.string V] (fun _=>True) (fun _=>False) rfl rfl ?aP (fun _ hk=>hk.elim) ?aF ?aO ?aB ?aS ?aL ?_;(case aP=>exact rfl);(case aB=>exact(oB u));(case aF=>exact(fun _ _=>trivial));(case aO=>exact(oR D));(case aS=>exact(aZ (oB u)));(case aL=>have:=aM.out;omega);intro a_ bb ho hb hg hat;rw[←aN.out]at ho;have F:=A_ (hb);have G:=A_ (ho);clear u D;have u:=F;have aJ:=G;clear F G ho hb hg hat))
       go_roundg k1
       case measure=>have:=am.out;omega
       case rel=>exact⟨(av),(wrap64 (z+1)),eS,H',⟨by have:=am.out;omega⟩,⟨oR aJ⟩,⟨oB u⟩⟩
      ·rw[aj c8]at H;exact absurd H (by simp)
     ·rw[aj c6]at H;exact absurd H (by simp)
    ·rw[aj c5]at H;exact absurd H (by simp)
   ·rw[aj c4]at H;have aQ:decide (z<(l0.length:Int))=false:=ax c4;clear c4;replace H:=ay H;obtain⟨a3,ak,H⟩:=H
    (try dsimp only at H)
    have aD:=A_ ak;clear ak;obtain rfl:=aA H;obtain⟨aG,aR,aY⟩:=Kd.cJ D.out;subst aY
    go_wp2_with (first|((with_reducible refine bp (f:=82) rfl ?_);refine gL (some 20) Tryz.func82 #[.slice aG I.length aR,.string (⟨#[32]⟩:ByteArray)] ?_;(with_reducible refine(strings_Join.c _ _ I (⟨#[32]⟩:ByteArray) a3 _ ?aT ?aU aD.out).mono ?_);(case aT=>repeat(first|exact(Kd.cr D.out).2.2|(with_reducible refine Kd.lv ?_ _)|(with_reducible refine Kd.lT ?_ _)|(with_reducible refine Kd.lS ?_)));(case aU=>exact(Kd.cr D.out).2.1);rintro e bc ⟨rfl,hb⟩;refine⟨_,rfl,?_⟩;have F:=A_ (Kd.b6 (oR D) hb);have G:=A_ (aV (oB u) hb);clear D u;have D:=F;have u:=G;clear F G;(try clear hb);(try clear hb2);(try clear hk);(try clear hi)))
    go_ret;exact⟨eR,oB u⟩
end P
namespace Q
open Go.RowKit P WW.bc
def txt (l:List UInt8):ByteArray:=⟨l.toArray⟩
theorem mF (a b:List UInt8):txt a++txt b=txt (a++b):=by
  apply ByteArray.ext;simp[txt]
theorem gP (a:List UInt8):(txt a).size=a.length:=by simp[txt,ByteArray.size]
theorem Ci (a:List UInt8):(txt a).data.toList=a:=by simp[txt]
theorem zG (t:Int):strOfNums [t]=txt [UInt8.ofNat t.toNat]:=rfl
def dd (u:Nat):List UInt8:=if u=0 then[]else Go.Lib.decDigits u
theorem xX (u:Nat) (h:u≠0):dd u=dd (u/10)++[UInt8.ofNat (48+u%10)]:=by
  unfold dd;rw[aj h];by_cases h1:u<10
  · rw[Go.Lib.decDigits,dif_pos h1,ai (by omega),show u%10=u by omega];rfl
  · rw[Go.Lib.decDigits,dif_neg h1,aj (by omega)]
theorem yn {a:Int} (h0:0≤a) (h1:a<10):lg.f a=some (48+a):=by
  unfold lg.f;rw[ai h1,bU (by omega) (by omega)]
  congr 1
  omega
theorem yq (neg:Bool):∀(m:Nat) (x:Int) (s:List UInt8),x.natAbs<10^m→ -9223372036854775808≤x→x≤9223372036854775807→s.length+m≤1000→
    Ev (fun k=>dE.l0 k x neg (txt s)) (txt ((if neg=true then[45]else[])++(dd x.natAbs++s))):=by
  intro m
  induction m with
  |zero=>
   intro x s h h1 h2 hs;obtain rfl:x=0:=(by simp at h;omega);refine Ev.step (fun k=>by rw[dE.l0]) (ak rfl ?_);cases neg with
   |true=>exact ak rfl (ak (by rw[gP];omega) (evs (by rw[show(⟨#[45]⟩:ByteArray)=txt [45]from rfl,mF];rfl)))
   |false=>exact aH (by decide) (evs rfl)
  |succ m ih=>
   intro x s h h1 h2 hs;by_cases hx:x=0
   · subst hx;refine Ev.step (fun k=>by rw[dE.l0]) (ak rfl ?_);cases neg with
     |true=>exact ak rfl (ak (by rw[gP];omega) (evs (by rw[show(⟨#[45]⟩:ByteArray)=txt [45]from rfl,mF];rfl)))
     |false=>exact aH (by decide) (evs rfl)
   · have hn:x.natAbs≠0:=(by omega);have e1:(x.tdiv 10).natAbs=x.natAbs/10:=(by rw[Int.natAbs_tdiv];rfl);have e2:(x.tmod 10).natAbs=x.natAbs%10:=(by rw[Int.natAbs_tmod];rfl);have hb: -9223372036854775808≤x.tdiv 10∧x.tdiv 10≤9223372036854775807:=by omega
     have hlt:(x.tdiv 10).natAbs<10^m:=by
       rw[e1];rw[Nat.pow_succ]at h;omega
     have key:∀t:Int,0≤t→t<10→t.natAbs=x.natAbs%10→Ev (fun k=>(lg.f t).bind fun t109=>((some (([t109]:List Int):List Int)).bind fun u=>(if(strOfNums u).size+(txt s).size≤9223372036854775807 then(dE.l0 k (wrap64 (Int.tdiv x 10)) neg ((strOfNums u)++(txt s)))else(none)))) (txt ((if neg=true then[45]else[])++(dd x.natAbs++s))):=by
       intro t ht0 ht1 ht;refine aQ (yn ht0 ht1) (aQ rfl (ak (by rw[strOfNums_size,gP];simp only[List.length_singleton];omega) ?_));have:=ih (x.tdiv 10) (UInt8.ofNat (48+x.natAbs%10)::s) hlt hb.1 hb.2 (by simp only[List.length_cons];omega);rw[e1]at this;rw[bU hb.1 hb.2,zG,mF,show(48+t).toNat=48+x.natAbs%10 by omega,xX x.natAbs hn];simpa using this
     refine Ev.step (fun k=>by rw[dE.l0]) (aH hx ?_);by_cases hneg:x.tmod 10<0
     · have hw:wrap64 (-(x.tmod 10))= -(x.tmod 10):=bU (by omega) (by omega);refine ak hneg ?_;rw[hw];exact key _ (by omega) (by omega) (by omega)
     · exact aH hneg (key _ (by omega) (by omega) (by omega))
def num (n:Int):List UInt8:=Go.Lib.itoa n
theorem od (n:Int) (h1: -9223372036854775808≤n) (h2:n≤9223372036854775807):Ev (fun k=>dE.f k n) (txt (num n)):=by
  unfold dE.f;refine oa (fun h=>evs ?_) (fun h=> ?_)
  · subst h;rw[show num 0=[48]from by unfold num Go.Lib.itoa;rw[aj (by omega),Go.Lib.decDigits];rfl];rfl
  · refine yg (yq _ 19 n [] (by have:(10:Nat)^19=10000000000000000000:=by decide
                                omega) h1 h2 (by decide)) ?_
    unfold num Go.Lib.itoa dd;rw[aj (show n.natAbs≠0 by omega)];by_cases hn:n<0
    · simp[hn]
    · simp[hn,show n.toNat=n.natAbs by omega]
theorem yo (n:Int) (h1: -9223372036854775808≤n) (h2:n≤9223372036854775807):l8.f n=some (txt (num n)):=by
  unfold l8.f;rw[ai ⟨h1,h2⟩];rfl
theorem kW (n:Int) (h1: -9223372036854775808≤n) (h2:n≤9223372036854775807):(num n).length≤21:=Go.Lib.itoa_length_le n h1 h2
def ln (l:List Int):List UInt8:=l.flatMap fun n=>32::num n
theorem BV (l:List Int) (h:∀n∈l,-9223372036854775808≤n∧n≤9223372036854775807):(ln l).length≤22*l.length:=by
  induction l with
  |nil=>simp[ln]
  |cons a r ih=>
   have h1:=kW a (h a (by simp)).1 (h a (by simp)).2;have h2:=ih (fun n hn=>h n (by simp[hn]));simp only[ln,List.flatMap_cons,List.length_append,List.length_cons]at h2 ⊢;omega
def line (l:List Int):List UInt8:=Go.Lib.join (l.map num) [32]
theorem pP (a:Int) (r:List Int):line (a::r)=num a++ln r:=by
  unfold line;rw[List.map_cons,Go.Lib.join_cons]
  congr 1
  induction r with
  |nil=>rfl
  |cons b r ih=>
   simp only[Go.Lib.joinTail,List.map_cons,List.flatten_cons,ln,List.flatMap_cons]at ih ⊢;rw[ih];rfl
theorem pQ (l:List Int) (h:∀n∈l,-9223372036854775808≤n∧n≤9223372036854775807):(line l).length≤22*l.length:=by
  cases l with
  |nil=>simp[line,Go.Lib.join_nil]
  |cons a r=>
   rw[pP];have h1:=kW a (h a (by simp)).1 (h a (by simp)).2;have h2:=BV r (fun n hn=>h n (by simp[hn]));simp only[List.length_append,List.length_cons];omega
theorem Co (l:List Int) (h:∀n∈l,-9223372036854775808≤n∧n≤9223372036854775807) (hl:l.length≤1048576):∀(d i:Nat),i+d=l.length→
    Ev (fun k=>cN.l0 k ((l.take i).map fun n=>txt (num n)) l (l.length:Int) (i:Int)) (txt (line l)):=by
  intro d
  induction d with
  |zero=>
   intro i hi;obtain rfl:i=l.length:=(by omega);refine Ev.step (fun k=>by rw[cN.l0]) (aH (by omega) ?_);refine aQ (a:=txt (line l)) ?_ (evs rfl);unfold strings_Join.f;rw[List.take_length]
   have e:((l.map fun n=>txt (num n)).map fun x=>x.data.toList)=l.map num:=by
     rw[List.map_map];exact List.map_congr_left (fun n _=>Ci _)
   rw[e];have h3:=pQ l h;rw[ai ⟨by simp;omega,by unfold line at h3;show(Go.Lib.join (l.map num) [32]).length≤_;omega⟩];rfl
  |succ d ih=>
   intro i hi;have hlt:i<l.length:=(by omega);have hm:=h l[i] (List.getElem_mem hlt);refine Ev.step (fun k=>by rw[cN.l0]) (ak (by omega) (ak (by omega) (ak (by omega) ?_)));rw[oC l i hlt];refine aQ (yo _ hm.1 hm.2) (ak (by simp;omega) ?_);have:=ih (i+1) (by omega);rw[List.take_succ_eq_append_getElem hlt,List.map_append]at this;rw[bU (by omega) (by omega)];exact this
theorem sf (l:List Int) (h:∀n∈l,-9223372036854775808≤n∧n≤9223372036854775807) (hl:l.length≤1048576):Ev (fun k=>cN.f k l) (txt (line l)):=by
  unfold cN.f;exact Co l h hl l.length 0 (by omega)
end Q
namespace Q
open Go.RowKit P WW.bc WW.bZ
theorem Bg (l:List ByteArray) (hl:l.length≤9000000000000000000):Ev (fun k=>fR.f k l l) true:=by
  have key:∀i,i≤l.length→Ev (fun k=>fR.l0 k l l (i:Int)) true:=by
    refine down (n:=l.length) ?_ ?_
    · exact Ev.step (fun k=>by rw[fR.l0]) (aH (by omega) (evs rfl))
    · intro i hi ih;refine Ev.step (fun k=>by rw[fR.l0]) (ak (by omega) (ak (by omega) (ak (by omega) (ak rfl ?_))));rw[bU (by omega) (by omega)];exact ih
  unfold fR.f;exact ak rfl (key 0 (Nat.zero_le _))
end Q
namespace P
set_option maxHeartbeats 8000000
set_option maxRecDepth 100000
set_option synthInstance.maxHeartbeats 400000
set_option synthInstance.maxSize 100000
open Go.RowKit WW.bc WW.bY WW.bZ V
attribute [local go_sem] dB dC
attribute [local go_sem] cP cT cS cW cR cV cQ cU
def iy.f (k:Nat) (l0:List (S64)):Option (Bool):=some (Q.cO l0)
attribute [local go_sem] gT
theorem iy.c (k:Nat) (A0:Option Addr) (c0:Nat) (l0:List (S64)) (r:Bool) (w:World) (ag:Kd.C aK w A0 l0.length l0) (hc0:l0.length≤c0) (h:iy.f k l0=some r):
  Calls Tryz.prog 71 #[.slice A0 l0.length c0] w fun e w'=>e= .returned (.bool r)∧Below w.heap.size w w':=by
 have win:∀(a b c:Int) (d:Bool),decide (b≤a∧a≤c)=d→ae (∀W:World,Calls Tryz.prog 72 #[.int .i64 a,.int .i64 b,.int .i64 c] W fun e w'=>e= .returned (.bool d)∧bf W w'):=fun a b c d hd=>
  ⟨fun W=>cA.c a b c d W (by rw[←hd];unfold cA.f;by_cases hh:a≥b<;>simp[hh]<;>omega)⟩
 have hm:l0.length≤9223372036854775807:=Kd.nH ag;have u:ae ((Q.fg (Q.eE l0 0) (l0.drop 0)&&decide (l0.length≤30))=r):=⟨aA h⟩;have F:=A_ ag;have K:=A_ win;clear ag h win;have hu:=Tryz.underlying64;go_enter Tryz.func71,Tryz.ntmps71;go_wp2
 go_loopg [3] (l0.length+1) (fun ar v3 w'=>∃(i:Nat),v3= .int .i64 (i:Int)∧ae (i+ar=l0.length+1)∧ae (i≤l0.length)∧ae ((Q.fg (Q.eE l0 i) (l0.drop i)&&decide (l0.length≤30))=r)∧ae (Below w.heap.size w w'))
 case atStart=>exact⟨0,rfl,⟨by omega⟩,⟨by omega⟩,u,⟨by repeat(first|exact Below.refl _ _|apply bM|apply dp|apply cv)⟩⟩
 case round=>
  clear u;obtain⟨i,rfl,ak,al,u,G⟩:=hrel;have aB:From w wr:=⟨G.out⟩;have aD:Sz w wr:=⟨G.out.size⟩;by_cases hlt:i<l0.length;rotate_left
  ·have hb3:decide ((i:Int)<(l0.length:Int))=false:=ax (by omega);have hb4:decide (i<l0.length)=false:=ax (by omega);obtain rfl:i=l0.length:=(by have:=al.out;omega);have am:ae (decide (l0.length≤30)=r):=⟨by rw[←u.out,List.drop_eq_nil_of_le (Nat.le_refl _)];simp[Q.fg]⟩;have hx1:decide ((l0.length:Int)≤30)=r:=(by rw[←am.out];exact decide_eq_decide.mpr (by omega));clear u F K;go_wp2;go_ret;exact⟨by first|rfl|(simp[hx1];done),G.out⟩
  ·have hb3:decide ((i:Int)<(l0.length:Int))=true:=ah (by omega);have hb4:decide (i<l0.length)=true:=ah hlt;obtain⟨ad,e,hx0,hx1,hx2,hx3⟩:=eA F.out (i:Int) (by omega) (by omega);cases e;obtain⟨x,hx⟩:∃x,aq l0 (i:Int)=x:=⟨_,rfl⟩;rw[hx]at hx0 hx1 hx2 hx3;simp only[Int.toNat_natCast]at hx0 hx1 hx2 hx3;have j0:dP wr _ _:=⟨hW G hx0⟩;have j1:dP wr _ _:=⟨hW G hx1⟩;have j2:dP wr _ _:=⟨hW G hx2⟩;have J:dP wr _ _:=⟨hW G hx3⟩;have e0:l0[i]=x:=(by rw[←hx];simp[aq,List.getD_eq_getElem?_getD,hlt]);have HD:=A_ (Q.tX l0 i hlt);rw[e0]at HD;obtain⟨b1,hb1⟩:∃b,decide (0≤x.f0.f0∧x.f0.f0≤3)=b:=⟨_,rfl⟩;obtain⟨b2,hb2⟩:∃b,decide (0≤x.f0.f1∧x.f0.f1≤39)=b:=⟨_,rfl⟩;obtain⟨b3,af⟩:∃b,decide (0≤x.f1∧x.f1≤2)=b:=⟨_,rfl⟩;obtain⟨b4,U⟩:∃b,decide (0≤x.f2∧x.f2≤100000)=b:=⟨_,rfl⟩;have W1:=K.out _ _ _ _ hb1;have W2:=K.out _ _ _ _ hb2;have W3:=K.out _ _ _ _ af;have D:=K.out _ _ _ _ U;have z:ae (Q.lZ x=(b1&&(b2&&(b3&&b4)))):=⟨by rw[←hb1,←hb2,←af,←U];rfl⟩;have I:ae (0<i→Q.eE l0 i=(aq l0 ((i-1:Nat):Int)).f2):=⟨fun h0=>by rw[Q.uK l0 i h0 hlt];simp[aq,List.getD_eq_getElem?_getD,show i-1<l0.length by omega]⟩;have H:ae (b4=true→i=0→Q.eE l0 i≤x.f2):=⟨fun h4 h0=>by subst h0;rw[h4,decide_eq_true_eq]at U;exact U.1⟩;clear hx hx0 hx1 hx2 hx3 e0 K hb1 hb2 af U;cases b1 with
   |false=>
    obtain rfl:false=r:=(by rw[←u.out,HD.out,z.out];rfl);clear F u HD z I H
    go_wp2_with (first|((with_reducible refine aC (N:=4) rfl ?_);refine bV #[.int .i64 0,.int .i64 0,.int .i64 0,.int .i64 0] 64 fun g w1 j1 j2 J=> ?_)|(go_at_call 72;(first|(with_reducible refine(W1.out _).mono ?_)|(with_reducible refine(W2.out _).mono ?_)|(with_reducible refine(W3.out _).mono ?_)|(with_reducible refine(D.out _).mono ?_));rintro e w' ⟨rfl,⟨nd,rfl⟩⟩))
    repeat(go_quiet (first|(go_at_call 72;(first|(with_reducible refine(W1.out _).mono ?_)|(with_reducible refine(W2.out _).mono ?_)|(with_reducible refine(W3.out _).mono ?_)|(with_reducible refine(D.out _).mono ?_));rintro e w' ⟨rfl,⟨nd,rfl⟩⟩;exact⟨rfl,_,World.drewN_drewN _ _ _⟩));try go_wp2)
    go_ret;exact⟨rfl,From.out⟩
   |true=>
    cases b2 with
    |false=>
     obtain rfl:false=r:=(by rw[←u.out,HD.out,z.out];rfl);clear F u HD z I H
     go_wp2_with (first|((with_reducible refine aC (N:=4) rfl ?_);refine bV #[.int .i64 0,.int .i64 0,.int .i64 0,.int .i64 0] 64 fun g w1 j1 j2 J=> ?_)|(go_at_call 72;(first|(with_reducible refine(W1.out _).mono ?_)|(with_reducible refine(W2.out _).mono ?_)|(with_reducible refine(W3.out _).mono ?_)|(with_reducible refine(D.out _).mono ?_));rintro e w' ⟨rfl,⟨nd,rfl⟩⟩))
     repeat(go_quiet (first|(go_at_call 72;(first|(with_reducible refine(W1.out _).mono ?_)|(with_reducible refine(W2.out _).mono ?_)|(with_reducible refine(W3.out _).mono ?_)|(with_reducible refine(D.out _).mono ?_));rintro e w' ⟨rfl,⟨nd,rfl⟩⟩;exact⟨rfl,_,World.drewN_drewN _ _ _⟩));try go_wp2)
     go_ret;exact⟨rfl,From.out⟩
    |true=>
     cases b3 with
     |false=>
      obtain rfl:false=r:=(by rw[←u.out,HD.out,z.out];rfl);clear F u HD z I H
      go_wp2_with (first|((with_reducible refine aC (N:=4) rfl ?_);refine bV #[.int .i64 0,.int .i64 0,.int .i64 0,.int .i64 0] 64 fun g w1 j1 j2 J=> ?_)|(go_at_call 72;(first|(with_reducible refine(W1.out _).mono ?_)|(with_reducible refine(W2.out _).mono ?_)|(with_reducible refine(W3.out _).mono ?_)|(with_reducible refine(D.out _).mono ?_));rintro e w' ⟨rfl,⟨nd,rfl⟩⟩))
      repeat(go_quiet (first|(go_at_call 72;(first|(with_reducible refine(W1.out _).mono ?_)|(with_reducible refine(W2.out _).mono ?_)|(with_reducible refine(W3.out _).mono ?_)|(with_reducible refine(D.out _).mono ?_));rintro e w' ⟨rfl,⟨nd,rfl⟩⟩;exact⟨rfl,_,World.drewN_drewN _ _ _⟩));try go_wp2)
      go_ret;exact⟨rfl,From.out⟩
     |true=>
      cases b4 with
      |false=>
       obtain rfl:false=r:=(by rw[←u.out,HD.out,z.out];rfl);clear F u HD z I H
       go_wp2_with (first|((with_reducible refine aC (N:=4) rfl ?_);refine bV #[.int .i64 0,.int .i64 0,.int .i64 0,.int .i64 0] 64 fun g w1 j1 j2 J=> ?_)|(go_at_call 72;(first|(with_reducible refine(W1.out _).mono ?_)|(with_reducible refine(W2.out _).mono ?_)|(with_reducible refine(W3.out _).mono ?_)|(with_reducible refine(D.out _).mono ?_));rintro e w' ⟨rfl,⟨nd,rfl⟩⟩))
       repeat(go_quiet (first|(go_at_call 72;(first|(with_reducible refine(W1.out _).mono ?_)|(with_reducible refine(W2.out _).mono ?_)|(with_reducible refine(W3.out _).mono ?_)|(with_reducible refine(D.out _).mono ?_));rintro e w' ⟨rfl,⟨nd,rfl⟩⟩;exact⟨rfl,_,World.drewN_drewN _ _ _⟩));try go_wp2)
       go_ret;exact⟨rfl,From.out⟩
      |true=>
       have hs:(i:Int)+1≤9223372036854775807:=(by omega);by_cases hz:i=0
       ·have hz1:decide ((i:Int)>0)=false:=ax (by omega);have hz2:decide ((0:Int)<(i:Int))=false:=ax (by omega);have hz3:decide (0<i)=false:=ax (by omega);have X:ae ((Q.fg (Q.eE l0 (i+1)) (l0.drop (i+1))&&decide (l0.length≤30))=r):=⟨by rw[←u.out,HD.out,z.out,show decide (Q.eE l0 i≤x.f2)=true from ah (H.out rfl hz)];rfl⟩;clear u HD z I H hz
        go_wp2_with (first|((with_reducible refine aC (N:=4) rfl ?_);refine bV #[.int .i64 0,.int .i64 0,.int .i64 0,.int .i64 0] 64 fun g w1 j1 j2 J=> ?_)|(go_at_call 72;(first|(with_reducible refine(W1.out _).mono ?_)|(with_reducible refine(W2.out _).mono ?_)|(with_reducible refine(W3.out _).mono ?_)|(with_reducible refine(D.out _).mono ?_));rintro e w' ⟨rfl,⟨nd,rfl⟩⟩))
        repeat(go_quiet (first|(go_at_call 72;(first|(with_reducible refine(W1.out _).mono ?_)|(with_reducible refine(W2.out _).mono ?_)|(with_reducible refine(W3.out _).mono ?_)|(with_reducible refine(D.out _).mono ?_));rintro e w' ⟨rfl,⟨nd,rfl⟩⟩;exact⟨rfl,_,World.drewN_drewN _ _ _⟩));try go_wp2)
        go_roundg (l0.length-i)
        case measure=>have:=ak.out;omega
        case rel=>exact⟨i+1,by go_num,⟨by omega⟩,⟨by omega⟩,X,⟨From.out⟩⟩
       ·obtain⟨j,hj⟩:∃j,j=i-1:=⟨_,rfl⟩;have hz1:decide ((i:Int)>0)=true:=ah (by omega);have hz2:decide ((0:Int)<(i:Int))=true:=ah (by omega);have hz3:decide (0<i)=true:=ah (by omega);have hw1:wrap64 ((i:Int)-1)=(j:Int):=(by unfold wrap64;omega);have hw2:IntKind.i64.wrap ((i:Int)-1)=(j:Int):=(by rw[bJ];exact hw1);have hj1:(j:Int)<(l0.length:Int):=(by omega);have hj2:j<l0.length:=(by omega);have hl1:decide ((j:Int)<(l0.length:Int))=true:=ah (by omega);have hl2:decide (j<l0.length)=true:=ah (by omega);obtain⟨au,e2,_,_,_,V⟩:=eA F.out (j:Int) (by omega) (by omega);cases e2;obtain⟨y,hy⟩:∃y,aq l0 (j:Int)=y:=⟨_,rfl⟩;have O:=A_ (I.out (by omega));rw[←hj,hy]at O;rw[hy]at V;simp only[Int.toNat_natCast]at V;have av:dP wr _ _:=⟨hW G V⟩;clear hy V I hj;by_cases h5:y.f2≤x.f2
        ·have ao:decide (y.f2>x.f2)=false:=ax (by omega);have ap:decide (x.f2<y.f2)=false:=ax (by omega);have X:ae ((Q.fg (Q.eE l0 (i+1)) (l0.drop (i+1))&&decide (l0.length≤30))=r):=⟨by rw[←u.out,HD.out,z.out,show decide (Q.eE l0 i≤x.f2)=true from ah (by rw[O.out];exact h5)];rfl⟩;clear u HD z O H F
         go_wp2_with (first|((with_reducible refine aC (N:=4) rfl ?_);refine bV #[.int .i64 0,.int .i64 0,.int .i64 0,.int .i64 0] 64 fun g w1 j1 j2 J=> ?_)|(go_at_call 72;(first|(with_reducible refine(W1.out _).mono ?_)|(with_reducible refine(W2.out _).mono ?_)|(with_reducible refine(W3.out _).mono ?_)|(with_reducible refine(D.out _).mono ?_));rintro e w' ⟨rfl,⟨nd,rfl⟩⟩))
         repeat(go_quiet (first|(go_at_call 72;(first|(with_reducible refine(W1.out _).mono ?_)|(with_reducible refine(W2.out _).mono ?_)|(with_reducible refine(W3.out _).mono ?_)|(with_reducible refine(D.out _).mono ?_));rintro e w' ⟨rfl,⟨nd,rfl⟩⟩;exact⟨rfl,_,World.drewN_drewN _ _ _⟩));try go_wp2)
         go_roundg (l0.length-i)
         case measure=>have:=ak.out;omega
         case rel=>exact⟨i+1,by go_num,⟨by omega⟩,⟨by omega⟩,X,⟨From.out⟩⟩
        ·have ao:decide (y.f2>x.f2)=true:=ah (by omega);have ap:decide (x.f2<y.f2)=true:=ah (by omega);obtain rfl:false=r:=(by rw[←u.out,HD.out,z.out,show decide (Q.eE l0 i≤x.f2)=false from ax (by rw[O.out];exact h5)];rfl);clear u HD z O H F
         go_wp2_with (first|((with_reducible refine aC (N:=4) rfl ?_);refine bV #[.int .i64 0,.int .i64 0,.int .i64 0,.int .i64 0] 64 fun g w1 j1 j2 J=> ?_)|(go_at_call 72;(first|(with_reducible refine(W1.out _).mono ?_)|(with_reducible refine(W2.out _).mono ?_)|(with_reducible refine(W3.out _).mono ?_)|(with_reducible refine(D.out _).mono ?_));rintro e w' ⟨rfl,⟨nd,rfl⟩⟩))
         repeat(go_quiet (first|(go_at_call 72;(first|(with_reducible refine(W1.out _).mono ?_)|(with_reducible refine(W2.out _).mono ?_)|(with_reducible refine(W3.out _).mono ?_)|(with_reducible refine(D.out _).mono ?_));rintro e w' ⟨rfl,⟨nd,rfl⟩⟩;exact⟨rfl,_,World.drewN_drewN _ _ _⟩));try go_wp2)
         go_ret;exact⟨rfl,From.out⟩
end P
namespace P
set_option maxHeartbeats 8000000
set_option maxRecDepth 100000
open Go.RowKit WW.bc WW.bY WW.bZ
attribute [local go_sem] cP cT cS cW cR cV cQ cU
attribute [local go_sem high] yf
mutual
def br.l0:Nat→List (S64)→List (S64)→Int→Option ((List (S64)))
 |0,_,_,_=>none
 |k+1,x0,x3,u=>if u<(x0.length:Int)then((iy.f k x0).bind fun z=>(br.j1 k x0 x3 u z))else(br.j1 k x0 x3 u false)
def br.j1:Nat→List (S64)→List (S64)→Int→Bool→Option ((List (S64)))
 |0,_,_,_,_=>none
 |k+1,x0,x3,u,z=>if z=true then(if 0≤u then(if u<(x0.length:Int)then(br.l1 k x0 x3 u (((aq x0 u).f1) != 0) (wrap64 (u+1)))else(none))else(none))else(some x3)
def br.l1:Nat→List (S64)→List (S64)→Int→Bool→Int→Option ((List (S64)))
 |0,_,_,_,_,_=>none
 |k+1,x0,x3,u,D,z=>if z<(x0.length:Int)then(if D=true then(if 0≤z then(if 0≤u then(if u<(x0.length:Int)then(br.l1 k x0 x3 u (!(((aq x0 z).f0.f0)==((aq x0 u).f0.f0))||(!(((aq x0 z).f0.f1)==((aq x0 u).f0.f1)))) (wrap64 (z+1)))else(none))else(none))else(none))else(br.l1 k x0 x3 u false (wrap64 (z+1))))else(if D=true then(if 0≤u then(if u<(x0.length:Int)then(if x3.length<4398046511104 then(br.l2 k x0 (x3++[(⟨(⟨(aq x0 u).f0.f0,(aq x0 u).f0.f1⟩:bH),(aq x0 u).f1,(aq x0 u).f2⟩:S64)]) u (x3.length:Int))else(none))else(none))else(none))else(br.l0 k x0 x3 (wrap64 (u+1))))
def br.l2:Nat→List (S64)→List (S64)→Int→Int→Option ((List (S64)))
 |0,_,_,_,_=>none
 |k+1,x0,x3,z,u=>if u>0 then(if 0≤z then(if z<(x0.length:Int)then(if 0≤(wrap64 (u-1))then(if(wrap64 (u-1))<(x3.length:Int)then((lM.f ((aq x0 z).f0.f0) ((aq x0 z).f0.f1) ((aq x0 z).f1) ((aq x0 z).f2) ((aq x3 (wrap64 (u-1))).f0.f0) ((aq x3 (wrap64 (u-1))).f0.f1) ((aq x3 (wrap64 (u-1))).f1) ((aq x3 (wrap64 (u-1))).f2)).bind fun D=>(if D=true then(if 0≤u then(if u<(x3.length:Int)then(br.l2 k x0 (x3.set (u:Int).toNat (⟨(⟨(aq x3 (wrap64 (u-1))).f0.f0,(aq x3 (wrap64 (u-1))).f0.f1⟩:bH),(aq x3 (wrap64 (u-1))).f1,(aq x3 (wrap64 (u-1))).f2⟩:S64)) z (wrap64 (u-1)))else(none))else(none))else(if 0≤u then(if u<(x3.length:Int)then(br.l0 k x0 (x3.set (u:Int).toNat (⟨(⟨(aq x0 z).f0.f0,(aq x0 z).f0.f1⟩:bH),(aq x0 z).f1,(aq x0 z).f2⟩:S64)) (wrap64 (z+1)))else(none))else(none))))else(none))else(none))else(none))else(none))else(if 0≤z then(if z<(x0.length:Int)then(if 0≤u then(if u<(x3.length:Int)then(br.l0 k x0 (x3.set (u:Int).toNat (⟨(⟨(aq x0 z).f0.f0,(aq x0 z).f0.f1⟩:bH),(aq x0 z).f1,(aq x0 z).f2⟩:S64)) (wrap64 (z+1)))else(none))else(none))else(none))else(none))
end
def br.f (k:Nat) (l0:List (S64)):Option ((List (S64))):=br.l0 k l0 (([]:List (S64))) 0
def br.T9:Bool×List (List Nat×List Nat):=(true,[([],[]),([0],[0]),([1],[1]),([1],[1]),([2,3,1],[1,2,3]),([4,1],[1,4]),([5,1],[1,5]),([1],[1]),([1],[1]),([7,8,1],[1,7,8]),([9,1],[1,9]),([10,1],[1,10]),([6,11,1],[1,6,11]),([1,12],[1,12]),([13,1,0,1,2,3,4,5,6,7,8,9,10,11,12,13],[0,13])])
def br.B9:List Nat:=[0,1,3,3,15,31,63,3,3,387,899,1923,4095,8191,16383]
theorem br.mD:aW .any (opsOf Tryz.f135 9)=br.T9:=by kernel_rfl
theorem br.lX:bL br.T9.2 br.B9=true:=by kernel_rfl
def br.sJ:Bool×List (List Nat×List Nat):=(true,[([],[]),([0],[0]),([1],[1]),([2],[2]),([2],[2]),([3,4,2],[2,3,4]),([5,2],[2,5]),([2],[2]),([2],[2]),([8,2],[2,8]),([7,9,2],[2,7,9]),([10,2],[2,10]),([6,11,2,2],[2,6,11]),([2,12],[2,12])])
def br.vZ:List Nat:=[0,1,3,7,7,31,63,7,7,263,903,1927,4095,8191]
theorem br.rU:aW .any (opsOf Tryz.f135 13)=br.sJ:=by kernel_rfl
theorem br.qV:bL br.sJ.2 br.vZ=true:=by kernel_rfl
theorem br.c (k:Nat) (A0:Option Addr) (c0:Nat) (l0:List (S64)) (r:List (S64)) (w:World) (dP:Kd.C aK w A0 l0.length l0) (hc0:l0.length≤c0) (h:br.f k l0=some r):
  Calls Tryz.prog 135 #[.slice A0 l0.length c0] w fun e w'=>∃d4:Value,e= .returned (d4)∧Kd.R aK 64 w' w.heap.size (fun _=>True) d4 r∧Below w.heap.size w w':=by
 have gf:=Tryz.underlying62;have hu64:=Tryz.underlying64;have aM:=A_ dP;have d9:=A_ hc0;clear dP hc0;have z:=A_ (Below.refl w.heap.size w);have H:(br.l0 k l0 (([]:List (S64))) 0)=some r:=h;clear h;obtain⟨d5,bR⟩:∃aY:List (S64),aY=(([]:List (S64))):=⟨_,rfl⟩;replace H:(br.l0 k l0 d5 0)=some r:=by first|(rw[bR];with_reducible exact H)|(have ad:=(az _ _).symm.trans H;rw[bR];with_reducible exact ad)|(have ad:=(az _ _).symm.trans H;with_reducible exact ad)|with_reducible exact H|(rw[bR];exact H)|exact H
 have dl:=A_ bR;clear bR;have H':=A_ H;clear H;go_enter Tryz.func135,Tryz.ntmps135
 go_wp2_with (first|((with_reducible refine aC (N:=8) rfl ?_);refine Kd.dR aK _ 64 ?hg (N:=8) ?hd (xs:=([]:List (S64))) (inner:=[]) (ok:=fun _=>True) (bD:=fun _=>True) ?hr ?hp (fun _ hk=>hk) trivial (Below.refl _ _) (Nat.le_refl _) (by simp) ?_;(case hd=>rfl);(case hg=>rfl);(case hr=>first|(go_simp;done)|(go_simp;rfl));(case hp=>exact(aI.none _ _));intro gA w2 bz hb e1 e2;clear e1 e2;(first|rw[←dl.out]at bz|(simp only[Int.reduceToNat]at bz;rw[←dl.out]at bz));have O:=A_ (Kd.cD bz (aZ (oB z)));have U:=A_ (aV (oB z) hb);clear z;have d_:=O;have z:=U;clear O U hb bz))
 go_loopg [3,4] k (fun au v3 v4 w'=>∃(ar:List (S64)) (u:Int),v4= .int .i64 u∧ae (br.l0 au l0 ar u=some r)∧ae (au≤k)∧ae (Kd.R aK 64 w' w.heap.size (fun _=>True) v3 ar)∧ae (Below w.heap.size w w'))
 case atStart=>exact⟨(d5),(0),eS,H',⟨Nat.le_refl _⟩,⟨oR d_⟩,⟨oB z⟩⟩
 case round=>
  clear H'
  try clear c1
  try clear p2
  obtain⟨ar,u,rfl,ag,ao,J,z⟩:=hrel;cases gk with
  |zero=>exact absurd ag.out (by simp[br.l0])
  |succ k1=>
   have H:=ag.out;clear ag;simp only[br.l0]at H;have cp:=A_ H;clear H
   go_upto_region 3 with (fail)
   go_cut [16] (fun v16 wc=>∃(au:Nat) (co:Bool),v16= .bool co∧ae (br.j1 au l0 ar u co=some r)∧ae (au≤k1)∧ae (Kd.R aK 64 wc w.heap.size (fun _=>True) u3 ar)∧ae (Below w.heap.size w wc))
   case first=>
    have H:=cp.out;clear cp;by_cases c5:u<(l0.length:Int)
    ·rw[ai c5]at H;have a0:decide (u<(l0.length:Int))=true:=ah c5;clear c5
     (first|rw[a0]|(simp only[bJ,cu];rw[a0])|skip)
     replace H:=ay H;obtain⟨d3,de,H⟩:=H
     (try dsimp only at H)
     have d7:=A_ de;clear de;have H':=A_ H;clear H
     go_wp2_with (first|(go_at_call 71;(with_reducible refine(iy.c k1 _ _ l0 d3 _ ?aT ?aU d7.out).mono ?_);(case aT=>exact bF aM.out);(case aU=>exact d9.out);rintro e w7 ⟨rfl,hb⟩;have O:=A_ (Kd.b6 (oR J) hb);have U:=A_ (aV (oB z) hb);clear J z;have J:=O;have z:=U;clear O U;(try clear hb);(try clear hb2);(try clear hk);(try clear hi)))
     go_meet
     case rel=>exact⟨_,(d3),eS,H',⟨by have:=ao.out;first|omega|exact Nat.le_refl _⟩,⟨oR J⟩,⟨oB z⟩⟩
    ·rw[aj c5]at H;have a0:decide (u<(l0.length:Int))=false:=ax c5;clear c5
     (first|rw[a0]|(simp only[bJ,cu];rw[a0])|skip)
     have H':=A_ H;clear H;go_wp2
     go_meet
     case rel=>exact⟨_,(false),eS,H',⟨by have:=ao.out;first|omega|exact Nat.le_refl _⟩,⟨oR J⟩,⟨oB z⟩⟩
   case rest=>
    clear cp
    try clear c1
    try clear p2
    try clear c5
    try clear a0
    try clear p2
    obtain⟨au,co,rfl,ag,av,J,z⟩:=hcut;cases au with
    |zero=>exact absurd ag.out (by simp[br.j1])
    |succ d1=>
     have H:=ag.out;clear ag;simp only[br.j1]at H;by_cases c8:co=true
     ·subst c8;rw[ai rfl]at H;by_cases c9:0≤u
      ·rw[ai c9]at H;have dq:decide (0≤u)=true:=ah c9;clear c9;by_cases c10:u<(l0.length:Int)
       ·rw[ai c10]at H;have dm:decide (u<(l0.length:Int))=true:=ah c10;clear c10;have H':=A_ H;clear H;have bW:0≤(u:Int):=oD;have bX:u<(l0.length:Int):=oD;obtain⟨V,ex,ce,cf,cg,ch⟩:=eA aM.out u bW bX;cases ex;replace ce:=hW z ce;replace cf:=hW z cf;replace cg:=hW z cg;replace ch:=hW z ch;replace bW:=aw bW;replace bX:=aw bX;go_wp2
        go_loopg [5,6] d1 (fun au v5 v6 w'=>∃(bY:Bool) (X:Int),v5= .bool bY∧v6= .int .i64 X∧ae (br.l1 au l0 ar u bY X=some r)∧ae (au≤d1)∧ae (Kd.R aK 64 w' w.heap.size (fun _=>True) u3 ar)∧ae (Below w.heap.size w w'))
        case atStart=>exact⟨((((aq l0 u).f1) != 0)),(wrap64 (u+1)),eS,eS,H',⟨Nat.le_refl _⟩,⟨oR J⟩,⟨oB z⟩⟩
        case round=>
         clear H'
         try clear c1
         try clear p1
         try clear q1
         try clear hx1
         try clear p2
         try clear c5
         try clear a0
         try clear d2
         try clear c8
         try clear c9
         try clear dq
         try clear c10
         try clear dm
         try clear ce
         try clear cf
         try clear cg
         try clear ch
         try clear bW
         try clear p2
         try clear bX
         obtain⟨bY,X,rfl,rfl,ag,aD,J,z⟩:=hrel;cases gk with
         |zero=>exact absurd ag.out (by simp[br.l1])
         |succ k3=>
          have H:=ag.out;clear ag;simp only[br.l1]at H;by_cases c11:X<(l0.length:Int)
          ·rw[ai c11]at H;have dn:decide (X<(l0.length:Int))=true:=ah c11;clear c11;by_cases c12:bY=true
           ·subst c12;rw[ai rfl]at H;by_cases c13:0≤X
            ·rw[ai c13]at H;have ep:decide (0≤X)=true:=ah c13;clear c13;by_cases c14:0≤u
             ·rw[ai c14]at H;have er:decide (0≤u)=true:=ah c14;clear c14;by_cases c15:u<(l0.length:Int)
              ·rw[ai c15]at H;have es:decide (u<(l0.length:Int))=true:=ah c15;clear c15;have H':=A_ H;clear H
               try go_wp2
               have O:=A_ (Kd.cq J.out);have U:=A_ (cv z.out);clear J z;have J:=O;have z:=U;clear O U;have ci:0≤(X:Int):=oD;have cl:X<(l0.length:Int):=oD;obtain⟨ei,ey,bG,bI,bK,bL⟩:=eA aM.out X ci cl;have e6:=bL;have e5:=bK;have e4:=bI;have e3:=bG;obtain rfl:V=ei:=(by injection ey);replace bG:=hW z bG;replace bI:=hW z bI;replace bK:=hW z bK;replace bL:=hW z bL;replace ci:=aw ci;replace cl:=aw cl;have cj:0≤(u:Int):=oD;have cm:u<(l0.length:Int):=oD;obtain⟨ej,ez,bN,bO,bP,bQ⟩:=eA aM.out u cj cm;have e':=bQ;have e9:=bP;have e8:=bO;have e7:=bN;obtain rfl:V=ej:=(by injection ez);replace bN:=hW z bN;replace bO:=hW z bO;replace bP:=hW z bP;replace bQ:=hW z bQ;replace cj:=aw cj;replace cm:=aw cm;refine fX (n:=15) (S:=fun w'=>w'.cell? (V.add ((X).toNat*4))=some (.int .i64 ((aq l0 X).f0.f0))∧w'.cell? ⟨(V.add ((X).toNat*4)).block,(V.add ((X).toNat*4)).off+1,none⟩=some (.int .i64 ((aq l0 X).f0.f1))∧w'.cell? ⟨(V.add ((X).toNat*4)).block,(V.add ((X).toNat*4)).off+2,none⟩=some (.int .i64 ((aq l0 X).f1))∧w'.cell? ⟨(V.add ((X).toNat*4)).block,(V.add ((X).toNat*4)).off+3,none⟩=some (.int .i64 ((aq l0 X).f2))∧w'.cell? (V.add ((u).toNat*4))=some (.int .i64 ((aq l0 u).f0.f0))∧w'.cell? ⟨(V.add ((u).toNat*4)).block,(V.add ((u).toNat*4)).off+1,none⟩=some (.int .i64 ((aq l0 u).f0.f1))∧w'.cell? ⟨(V.add ((u).toNat*4)).block,(V.add ((u).toNat*4)).off+2,none⟩=some (.int .i64 ((aq l0 u).f1))∧w'.cell? ⟨(V.add ((u).toNat*4)).block,(V.add ((u).toNat*4)).off+3,none⟩=some (.int .i64 ((aq l0 u).f2))) (ds:=[]) #[false,false,false,false,false,false,false,false,false,false,false,false,false,false,false] (by kernel_rfl) rfl rfl ⟨(hW z e3),(hW z e4),(hW z e5),(hW z e6),(hW z e7),(hW z e8),(hW z e9),(hW z e')⟩ (fun hHeld=> ?_);refine gQ br.mD br.lX (fun I aJ=> ?_);generalize wr.drew=gB at J z bG bI bK bL bN bO bP bQ hHeld ⊢;refine pA 0 (some 33) I.out ?_;refine pA 1 (some 34) I.out ?_;refine pA 2 (some 35) I.out ?_;refine pA 3 (some 36) I.out ?_;refine pA 4 (some 37) I.out ?_;refine pA 5 (some 38) I.out ?_;refine pA 7 (some 40) I.out ?_;refine pA 8 (some 41) I.out ?_;refine pA 9 (some 42) I.out ?_;refine pA 10 (some 43) I.out ?_;refine pT 6 (some 39) I.out aJ.out hHeld ?_;refine pT 11 (some 44) I.out aJ.out hHeld ?_;refine pA 12 (some 45) I.out ?_;refine pA 13 (some 46) I.out ?_;refine pA 14 (some 5) I.out ?_;refine fH (gb I.out (by kernel_rfl)) ?_
               try go_wp2
               go_roundg k3
               case measure=>have:=ao.out;have:=av.out;have:=aD.out;omega
               case rel=>exact⟨((!(((aq l0 X).f0.f0)==((aq l0 u).f0.f0))||(!(((aq l0 X).f0.f1)==((aq l0 u).f0.f1))))),(wrap64 (X+1)),eS,eS,H',⟨by have:=ao.out;have:=av.out;have:=aD.out;omega⟩,⟨oR J⟩,⟨oB z⟩⟩
              ·rw[aj c15]at H;exact absurd H (by simp)
             ·rw[aj c14]at H;exact absurd H (by simp)
            ·rw[aj c13]at H;exact absurd H (by simp)
           ·replace c12:=Bool.eq_false_iff.mpr c12;subst c12;rw[aj (show¬(false=true)by decide)]at H;have H':=A_ H;clear H
            try go_wp2
            have O:=A_ (Kd.cq J.out);have U:=A_ (cv z.out);clear J z;have J:=O;have z:=U;clear O U;refine fX (n:=15) (S:=fun w'=>True) (ds:=[]) #[false,false,false,false,false,false,false,false,false,false,false,false,false,false,false] (by kernel_rfl) rfl rfl trivial (fun hHeld=> ?_);refine gQ br.mD br.lX (fun I aJ=> ?_);generalize wr.drew=gD at J z hHeld ⊢;refine pA 0 (some 33) I.out ?_;refine pA 1 (some 34) I.out ?_;refine pU 2 (some 35) I.out ?_;refine pU 3 (some 36) I.out ?_;refine pU 4 (some 37) I.out ?_;refine pU 5 (some 38) I.out ?_;refine pU 6 (some 39) I.out ?_;refine pU 7 (some 40) I.out ?_;refine pU 8 (some 41) I.out ?_;refine pU 9 (some 42) I.out ?_;refine pU 10 (some 43) I.out ?_;refine pU 11 (some 44) I.out ?_;refine pU 12 (some 45) I.out ?_;refine pA 13 (some 46) I.out ?_;refine pA 14 (some 5) I.out ?_;refine fH (gb I.out (by kernel_rfl)) ?_
            try go_wp2
            go_roundg k3
            case measure=>have:=ao.out;have:=av.out;have:=aD.out;omega
            case rel=>exact⟨(false),(wrap64 (X+1)),eS,eS,H',⟨by have:=ao.out;have:=av.out;have:=aD.out;omega⟩,⟨oR J⟩,⟨oB z⟩⟩
          ·rw[aj c11]at H;have dn:decide (X<(l0.length:Int))=false:=ax c11;clear c11;by_cases c18:bY=true
           ·subst c18;rw[ai rfl]at H;by_cases c19:0≤u
            ·rw[ai c19]at H;have et:decide (0≤u)=true:=ah c19;clear c19;by_cases c20:u<(l0.length:Int)
             ·rw[ai c20]at H;have eu:decide (u<(l0.length:Int))=true:=ah c20;clear c20;by_cases bj:ar.length<4398046511104
              ·rw[ai bj]at H;have ea:=A_ bj;clear bj;obtain⟨d6,bS⟩:∃aY:List (S64),aY=(ar++[(⟨(⟨(aq l0 u).f0.f0,(aq l0 u).f0.f1⟩:bH),(aq l0 u).f1,(aq l0 u).f2⟩:S64)]):=⟨_,rfl⟩;replace H:(br.l2 k3 l0 d6 u (ar.length:Int))=some r:=by first|(rw[bS];with_reducible exact H)|(have ad:=(az _ _).symm.trans H;rw[bS];with_reducible exact ad)|(have ad:=(az _ _).symm.trans H;with_reducible exact ad)|with_reducible exact H|(rw[bS];exact H)|exact H
               have eb:=A_ bS;clear bS;have H':=A_ H;clear H;obtain⟨d8,ew,eF⟩:=Kd.cJ J.out;subst eF;have ck:0≤(u:Int):=oD;have cn:u<(l0.length:Int):=oD;obtain⟨el,eB,cL,cM,cN,cO⟩:=eA aM.out u ck cn;obtain rfl:V=el:=(by injection eB);replace cL:=hW z cL;replace cM:=hW z cM;replace cN:=hW z cN;replace cO:=hW z cO;replace ck:=aw ck;replace cn:=aw cn
               go_wp2_with (first|((with_reducible refine fI (b:= .append) (xs:= #[.tmp 51,.tmp 56]) rfl ?_);at_builtin;refine Kd.gS aK (w0:=w) w.heap.size rfl (.tmp 51) (.tmp 56) 28 64 (.agg #[(.int .i64 0),(.int .i64 0),(.int .i64 0),(.int .i64 0)]) 32 rfl Tryz.underlying28 m_ rfl (by decide) (by omega) (.slice d8 ar.length ew) ar (⟨(⟨(aq l0 u).f0.f0,(aq l0 u).f0.f1⟩:bH),(aq l0 u).f1,(aq l0 u).f2⟩:S64) [.int .i64 ((aq l0 u).f0.f0),.int .i64 ((aq l0 u).f0.f1),.int .i64 ((aq l0 u).f1),.int .i64 ((aq l0 u).f2)] (fun _=>True) (fun _=>False) rfl rfl ?aP (fun _ hk=>hk.elim) ?aF ?aO ?aB ?aS ?aL ?_;(case aP=>exact ke _ _ _ (⟨(⟨(aq l0 u).f0.f0,(aq l0 u).f0.f1⟩:bH),(aq l0 u).f1,(aq l0 u).f2⟩:S64));(case aB=>exact(oB z));(case aF=>exact(fun _ _=>trivial));(case aO=>exact(oR J));(case aS=>exact(aZ (oB z)));(case aL=>have:=ea.out;omega);intro fs gE ho hb hg hat;rw[←eb.out]at ho;have O:=A_ (hb);have U:=A_ (ho);clear z J;have z:=O;have d':=U;clear O U ho hb hg hat))
               go_loopg [7] k3 (fun au v7 w'=>∃(D:List (S64)) (F:Int),v7= .int .i64 F∧ae (br.l2 au l0 D u F=some r)∧ae (au≤k3)∧ae (Kd.R aK 64 w' w.heap.size (fun _=>True) fs D)∧ae (Below w.heap.size w w'))
               case atStart=>exact⟨(d6),((ar.length:Int)),eS,H',⟨Nat.le_refl _⟩,⟨oR d'⟩,⟨oB z⟩⟩
               case round=>
                clear H'
                try clear c1
                try clear p1
                try clear q1
                try clear hx1
                try clear c2
                try clear p2
                try clear c5
                try clear a0
                try clear d2
                try clear c8
                try clear c9
                try clear dq
                try clear c10
                try clear dm
                try clear c11
                try clear dn
                try clear gx
                try clear gy
                try clear gg
                try clear c12
                try clear c13
                try clear ep
                try clear c14
                try clear er
                try clear c15
                try clear es
                try clear c18
                try clear c19
                try clear et
                try clear c20
                try clear eu
                try clear bj
                try clear ce
                try clear cf
                try clear cg
                try clear ch
                try clear bG
                try clear bI
                try clear bK
                try clear bL
                try clear bN
                try clear bO
                try clear bP
                try clear bQ
                try clear cL
                try clear cM
                try clear cN
                try clear cO
                try clear p1
                try clear bW
                try clear ci
                try clear cj
                try clear ck
                try clear p2
                try clear d2
                try clear q1
                try clear bX
                try clear cl
                try clear cm
                try clear cn
                obtain⟨D,F,rfl,ag,bb,J,z⟩:=hrel;cases gk with
                |zero=>exact absurd ag.out (by simp[br.l2])
                |succ k4=>
                 have H:=ag.out;clear ag;simp only[br.l2]at H;by_cases bc:F>0
                 ·rw[ai bc]at H;have ev:decide (0<F)=true:=ah bc;clear bc;by_cases b2:0≤u
                  ·rw[ai b2]at H;have fy:decide (0≤u)=true:=ah b2;clear b2;by_cases b3:u<(l0.length:Int)
                   ·rw[ai b3]at H;have fA:decide (u<(l0.length:Int))=true:=ah b3;clear b3;obtain⟨G,bg⟩:∃fr:Int,(wrap64 (F-1))=fr:=⟨_,rfl⟩;replace H:(if 0≤(G)then(if(G)<(D.length:Int)then((lM.f ((aq l0 u).f0.f0) ((aq l0 u).f0.f1) ((aq l0 u).f1) ((aq l0 u).f2) ((aq D (G)).f0.f0) ((aq D (G)).f0.f1) ((aq D (G)).f1) ((aq D (G)).f2)).bind fun c4=>(if c4=true then(if 0≤F then(if F<(D.length:Int)then(br.l2 k4 l0 (D.set (F:Int).toNat (⟨(⟨(aq D (G)).f0.f0,(aq D (G)).f0.f1⟩:bH),(aq D (G)).f1,(aq D (G)).f2⟩:S64)) u G)else(none))else(none))else(if 0≤F then(if F<(D.length:Int)then(br.l0 k4 l0 (D.set (F:Int).toNat (⟨(⟨(aq l0 u).f0.f0,(aq l0 u).f0.f1⟩:bH),(aq l0 u).f1,(aq l0 u).f2⟩:S64)) (wrap64 (u+1)))else(none))else(none))))else(none))else(none))=some r:=by first|(rw[bg]at H;exact H)|(simp only[bg]at H ⊢;exact H)
                    have gd:(IntKind.i64.wrap (F-1))=G:=(bJ _).trans bg;by_cases b4:0≤(G)
                    ·rw[ai b4]at H;have fB:decide (0≤(G))=true:=ah b4;clear b4;by_cases b5:(G)<(D.length:Int)
                     ·rw[ai b5]at H;have fC:decide ((G)<(D.length:Int))=true:=ah b5;clear b5;replace H:=ay H;obtain⟨c4,dd,H⟩:=H
                      (try dsimp only at H)
                      have dc:=A_ dd;clear dd;by_cases b7:c4=true
                      ·subst b7;rw[ai rfl]at H;by_cases b8:0≤F
                       ·rw[ai b8]at H;have fD:decide (0≤F)=true:=ah b8;clear b8;by_cases b9:F<(D.length:Int)
                        ·rw[ai b9]at H;have fE:decide (F<(D.length:Int))=true:=ah b9;clear b9;obtain⟨c',bT⟩:∃aY:List (S64),aY=(D.set (F:Int).toNat (⟨(⟨(aq D (G)).f0.f0,(aq D (G)).f0.f1⟩:bH),(aq D (G)).f1,(aq D (G)).f2⟩:S64)):=⟨_,rfl⟩;replace H:(br.l2 k4 l0 c' u G)=some r:=by first|(rw[bT];with_reducible exact H)|(have ad:=(az _ _).symm.trans H;rw[bT];with_reducible exact ad)|(have ad:=(az _ _).symm.trans H;with_reducible exact ad)|with_reducible exact H|(rw[bT];exact H)|exact H
                         have ec:=A_ bT;clear bT;have H':=A_ H;clear H
                         try go_wp2
                         have O:=A_ (Kd.cq J.out);have U:=A_ (cv z.out);clear J z;have J:=O;have z:=U;clear O U;have a6:0≤(u:Int):=oD;have a9:u<(l0.length:Int):=oD;obtain⟨cC,cE,aN,aQ,aR,aW⟩:=eA aM.out u a6 a9;have bE:=aW;have bC:=aR;have bB:=aQ;have bA:=aN;obtain rfl:V=cC:=(by injection cE);replace aN:=hW z aN;replace aQ:=hW z aQ;replace aR:=hW z aR;replace aW:=hW z aW;replace a6:=aw a6;replace a9:=aw a9;obtain⟨ft,dt,dx⟩:=Kd.cJ J.out
                         (first|subst dx|(injection dx with bm cH bn;have cI:=bm.symm;have cK:=bn.symm;clear bm cH bn;subst cI;subst cK))
                         have a7:0≤((G):Int):=oD;have a_:(G)<(D.length:Int):=oD;obtain⟨af,cF,a2,a3,a4,a5⟩:=eA (Kd.cr J.out).2.2 (G) a7 a_;cases cF;replace a7:=aw a7;replace a_:=aw a_;refine fX (n:=14) (S:=fun w'=>w'.cell? (V.add ((u).toNat*4))=some (.int .i64 ((aq l0 u).f0.f0))∧w'.cell? ⟨(V.add ((u).toNat*4)).block,(V.add ((u).toNat*4)).off+1,none⟩=some (.int .i64 ((aq l0 u).f0.f1))∧w'.cell? ⟨(V.add ((u).toNat*4)).block,(V.add ((u).toNat*4)).off+2,none⟩=some (.int .i64 ((aq l0 u).f1))∧w'.cell? ⟨(V.add ((u).toNat*4)).block,(V.add ((u).toNat*4)).off+3,none⟩=some (.int .i64 ((aq l0 u).f2))∧w'.cell? (af.add (((G)).toNat*4))=some (.int .i64 ((aq D (G)).f0.f0))∧w'.cell? ⟨(af.add (((G)).toNat*4)).block,(af.add (((G)).toNat*4)).off+1,none⟩=some (.int .i64 ((aq D (G)).f0.f1))∧w'.cell? ⟨(af.add (((G)).toNat*4)).block,(af.add (((G)).toNat*4)).off+2,none⟩=some (.int .i64 ((aq D (G)).f1))∧w'.cell? ⟨(af.add (((G)).toNat*4)).block,(af.add (((G)).toNat*4)).off+3,none⟩=some (.int .i64 ((aq D (G)).f2))) (ds:=[]) #[false,false,false,false,false,false,false,false,false,false,false,false,false,false] (by kernel_rfl) rfl rfl ⟨(hW z bA),(hW z bB),(hW z bC),(hW z bE),a2,a3,a4,a5⟩ (fun hHeld=> ?_);refine gQ br.rU br.qV (fun I aJ=> ?_);generalize wr.drew=gF at J z aN aQ aR aW a2 a3 a4 a5 hHeld ⊢;refine pA 0 (some 58) I.out ?_;refine pA 1 (some 59) I.out ?_;refine pA 2 (some 60) I.out ?_;refine pA 3 (some 61) I.out ?_;refine pA 4 (some 62) I.out ?_;refine pA 5 (some 63) I.out ?_;refine pA 7 (some 65) I.out ?_;refine pA 8 (some 66) I.out ?_;refine pA 9 (some 67) I.out ?_;refine pA 10 (some 68) I.out ?_;refine pT 6 (some 64) I.out aJ.out hHeld ?_;refine pT 11 (some 69) I.out aJ.out hHeld ?_;refine dN (i:=12) (N:=some 70) #[true,true,true,true,true,true,true,true,true,true,true,true,true,false] rfl rfl (dF I.out (by kernel_rfl)) (by decide) (fun K hK=> ?_);refine cG Tryz.func155 (by kernel_rfl) rfl #[.agg #[.int .i64 ((aq l0 u).f0.f0),.int .i64 ((aq l0 u).f0.f1),.int .i64 ((aq l0 u).f1),.int .i64 ((aq l0 u).f2)],.agg #[.int .i64 ((aq D (G)).f0.f0),.int .i64 ((aq D (G)).f0.f1),.int .i64 ((aq D (G)).f1),.int .i64 ((aq D (G)).f2)]] (by rfl) rfl rfl (by(try simp only[List.map_toArray,List.map_cons,List.map_nil]);first|done|(simp only[bg];rfl)|rfl|(simp only[List.length_drop,List.length_take];rfl)) ?_
                         with_reducible refine(lM.c ((aq l0 u).f0.f0) ((aq l0 u).f0.f1) ((aq l0 u).f1) ((aq l0 u).f2) ((aq D (G)).f0.f0) ((aq D (G)).f0.f1) ((aq D (G)).f1) ((aq D (G)).f2) true _ dc.out).mono ?_
                         rintro e aE ⟨rfl,hb⟩;have cy:=(hb.cell (World.block_lt_of_cell? _ _ (hHeld.2.2.2.2.1))).trans (hHeld.2.2.2.2.1);have cz:=(hb.cell (World.block_lt_of_cell? _ _ (hHeld.2.2.2.2.2.1))).trans (hHeld.2.2.2.2.2.1);have cA:=(hb.cell (World.block_lt_of_cell? _ _ (hHeld.2.2.2.2.2.2.1))).trans (hHeld.2.2.2.2.2.2.1);have cB:=(hb.cell (World.block_lt_of_cell? _ _ (hHeld.2.2.2.2.2.2.2))).trans (hHeld.2.2.2.2.2.2.2);refine⟨_,rfl,?_⟩;have O:=A_ (Kd.b6 (oR J) hb);have U:=A_ (aV (oB z) hb);clear J z;have J:=O;have z:=U;clear O U
                         (try clear hb)
                         (try clear hb2)
                         (try clear hk)
                         (try clear hi)
                         refine hK.out _ _ ⟨(hW z bA),(hW z bB),(hW z bC),(hW z bE),cy,cz,cA,cB⟩ (fun hHeld=> ?_);clear hK K;refine dS (a':= ?_) ?_ ?_;rotate_left
                         ·show Act.put _ (some 70) _=_;simp only[Act.put,List.setIfInBounds_toArray,List.set_cons_zero,List.set_cons_succ,bJ,cu];rfl
                         refine pA 13 (some 71) I.out ?_;refine fH (gb I.out (by kernel_rfl)) ?_;have cP:0≤((G):Int):=oD;have cV:(G)<(D.length:Int):=oD;obtain⟨em,eC,fa,fb,fc,fd⟩:=eA (Kd.cr J.out).2.2 (G) cP cV;obtain rfl:af=em:=(by injection eC);replace cP:=aw cP;replace cV:=aw cV;have cS:0≤(F:Int):=oD;have cY:(F:Int)<((D.length:Int):Int):=oD;obtain⟨ak,fW,dw,dB,eG,fT,df⟩:=Kd.kH J.out (by omega)
                         (first|cases dw|(injection dw with ap bl bk;(first|subst ap|(injection ap with ap;subst ap));subst bk;clear bl))
                         have bZ:=A_ dB;have fv:=A_ df;clear dB eG df
                         (first|simp only[add_plain]at a2|skip)
                         (first|simp only[add_plain]at a3|skip)
                         (first|simp only[add_plain]at a4|skip)
                         (first|simp only[add_plain]at a5|skip)
                         (first|simp only[add_plain]at fa|skip)
                         (first|simp only[add_plain]at fb|skip)
                         (first|simp only[add_plain]at fc|skip)
                         (first|simp only[add_plain]at fd|skip)
                         obtain⟨fN,eJ,dE,bo,bs⟩:=Kd.iR J.out z64 (F:Int) cS cY;obtain rfl:=nb dE;have gh:aE.cell? ⟨ak,(F:Int).toNat*4,none⟩=some (.int .i64 ((aq D F).f0.f0)):=bo 0 _ rfl;have gi:aE.cell? ⟨ak,(F:Int).toNat*4+1,none⟩=some (.int .i64 ((aq D F).f0.f1)):=bo 1 _ rfl;have gj:aE.cell? ⟨ak,(F:Int).toNat*4+2,none⟩=some (.int .i64 ((aq D F).f1)):=bo 2 _ rfl;have gl:aE.cell? ⟨ak,(F:Int).toNat*4+3,none⟩=some (.int .i64 ((aq D F).f2)):=bo 3 _ rfl;have fZ:aE.frozen? ⟨ak,(F:Int).toNat*4,none⟩=false:=bs 0;have f3:aE.frozen? ⟨ak,(F:Int).toNat*4+1,none⟩=false:=bs 1;have f4:aE.frozen? ⟨ak,(F:Int).toNat*4+2,none⟩=false:=bs 2;have f5:aE.frozen? ⟨ak,(F:Int).toNat*4+3,none⟩=false:=bs 3;clear eJ bo bs dE;replace cS:=aw cS;replace cY:=aw cY;have di:=A_ (show Kd.R aK 64 aE w.heap.size (fun _=>True) (.slice (some ⟨ak,0,none⟩) D.length dt) D from(oR J));obtain⟨fO,dL,dG,bd,bt⟩:=Kd.iR di.out z64 (F:Int) (oD) (by have h_:(F:Int)<((D.length:Int):Int):=oD;first|exact h_|(have e_:=(Kd.cr J.out).1;omega)|simpa using h_);obtain rfl:=nb dG;have ct:=Kd.mP di.out (F:Int) (oD) (by have h_:(F:Int)<((D.length:Int):Int):=oD;first|exact h_|(have e_:=(Kd.cr J.out).1;omega)|simpa using h_) (seg:=[.int .i64 ((aq D (G)).f0.f0),.int .i64 ((aq D (G)).f0.f1),.int .i64 ((aq D (G)).f1),.int .i64 ((aq D (G)).f2)]) (j:=0) dL bd (show 4≤4 from by decide) (x':=(⟨(⟨(aq D (G)).f0.f0,(aq D (G)).f0.f1⟩:bH),(aq D (G)).f1,(aq D (G)).f2⟩:S64)) (ke _ _ _ (⟨(⟨(aq D (G)).f0.f0,(aq D (G)).f0.f1⟩:bH),(aq D (G)).f1,(aq D (G)).f2⟩:S64)) (fun _ hk=>hk);have fe:=bd 0 _ rfl
                         (try simp only[show(aK).sz=4 from rfl,Nat.mul_one,Nat.add_zero]at fe)
                         have eM:=bt 0
                         (try simp only[show(aK).sz=4 from rfl,Nat.mul_one,Nat.add_zero]at eM)
                         have ff:=bd 1 _ rfl
                         (try simp only[show(aK).sz=4 from rfl,Nat.mul_one,Nat.add_zero]at ff)
                         have eN:=bt 1
                         (try simp only[show(aK).sz=4 from rfl,Nat.mul_one,Nat.add_zero]at eN)
                         have fg:=bd 2 _ rfl
                         (try simp only[show(aK).sz=4 from rfl,Nat.mul_one,Nat.add_zero]at fg)
                         have eO:=bt 2
                         (try simp only[show(aK).sz=4 from rfl,Nat.mul_one,Nat.add_zero]at eO)
                         have fh:=bd 3 _ rfl
                         (try simp only[show(aK).sz=4 from rfl,Nat.mul_one,Nat.add_zero]at fh)
                         have eQ:=bt 3
                         (try simp only[show(aK).sz=4 from rfl,Nat.mul_one,Nat.add_zero]at eQ)
                         clear dL bd bt dG
                         try go_wp2_with (first|((with_reducible refine lC (t:=64) (p:=79) rfl ?_);refine lN (t:=64) (p:=79) (v:= ?CJ) (w1:=((((aE.setCell ⟨ak,(F:Int).toNat*4,none⟩ (.int .i64 ((aq D (G)).f0.f0))).setCell ⟨ak,(F:Int).toNat*4+1,none⟩ (.int .i64 ((aq D (G)).f0.f1))).setCell ⟨ak,(F:Int).toNat*4+2,none⟩ (.int .i64 ((aq D (G)).f1))).setCell ⟨ak,(F:Int).toNat*4+3,none⟩ (.int .i64 ((aq D (G)).f2)))) ?hg ?ho ?hn ?hr ?_;(case ho=>rfl);(case hg=>rfl);(case hn=>rfl);(case hr=>first|(go_simp;done)|(go_simp;rfl));intro c6 hw;have hg:aE.grownBy c6 (some ak):=(by rw[hw];exact ct.2);have a1:Kd.R aK 64 c6 w.heap.size (fun _=>True) (.slice (some ⟨ak,0,none⟩) D.length dt) c':=(by rw[hw,ec.out];exact ct.1);clear ct;have O:=A_ (a1);have U:=A_ ((by rw[hw];exact dZ (dZ (dZ (dZ (z.out) bZ.out) bZ.out) bZ.out) bZ.out:Below w.heap.size w c6));clear J z;have J:=O;have z:=U;clear O U hg hw a1))
                         go_roundg k4
                         case measure=>have:=ao.out;have:=av.out;have:=aD.out;have:=bb.out;omega
                         case rel=>exact⟨(c'),(G),(by first|rfl|(simp;done)|(simp only[←bg]<;>(first|rfl|simp))|(simp[*];done)),H',⟨by have:=ao.out;have:=av.out;have:=aD.out;have:=bb.out;omega⟩,⟨oR J⟩,⟨oB z⟩⟩
                        ·rw[aj b9]at H;exact absurd H (by simp)
                       ·rw[aj b8]at H;exact absurd H (by simp)
                      ·replace b7:=Bool.eq_false_iff.mpr b7;subst b7;rw[aj (show¬(false=true)by decide)]at H;by_cases b_:0≤F
                       ·rw[ai b_]at H;have fF:decide (0≤F)=true:=ah b_;clear b_;by_cases b':F<(D.length:Int)
                        ·rw[ai b']at H;have fG:decide (F<(D.length:Int))=true:=ah b';clear b';obtain⟨da,bU⟩:∃aY:List (S64),aY=(D.set (F:Int).toNat (⟨(⟨(aq l0 u).f0.f0,(aq l0 u).f0.f1⟩:bH),(aq l0 u).f1,(aq l0 u).f2⟩:S64)):=⟨_,rfl⟩;replace H:(br.l0 k4 l0 da (wrap64 (u+1)))=some r:=by first|(rw[bU];with_reducible exact H)|(have ad:=(az _ _).symm.trans H;rw[bU];with_reducible exact ad)|(have ad:=(az _ _).symm.trans H;with_reducible exact ad)|with_reducible exact H|(rw[bU];exact H)|exact H
                         have ef:=A_ bU;clear bU;have H':=A_ H;clear H
                         try go_wp2
                         have O:=A_ (Kd.cq J.out);have U:=A_ (cv z.out);clear J z;have J:=O;have z:=U;clear O U;have a6:0≤(u:Int):=oD;have a9:u<(l0.length:Int):=oD;obtain⟨cC,cE,aN,aQ,aR,aW⟩:=eA aM.out u a6 a9;have bE:=aW;have bC:=aR;have bB:=aQ;have bA:=aN;obtain rfl:V=cC:=(by injection cE);replace aN:=hW z aN;replace aQ:=hW z aQ;replace aR:=hW z aR;replace aW:=hW z aW;replace a6:=aw a6;replace a9:=aw a9;obtain⟨fu,du,dz⟩:=Kd.cJ J.out
                         (first|subst dz|(injection dz with bm cH bn;have cI:=bm.symm;have cK:=bn.symm;clear bm cH bn;subst cI;subst cK))
                         have a7:0≤((G):Int):=oD;have a_:(G)<(D.length:Int):=oD;obtain⟨af,cF,a2,a3,a4,a5⟩:=eA (Kd.cr J.out).2.2 (G) a7 a_;cases cF;replace a7:=aw a7;replace a_:=aw a_;refine fX (n:=14) (S:=fun w'=>w'.cell? (V.add ((u).toNat*4))=some (.int .i64 ((aq l0 u).f0.f0))∧w'.cell? ⟨(V.add ((u).toNat*4)).block,(V.add ((u).toNat*4)).off+1,none⟩=some (.int .i64 ((aq l0 u).f0.f1))∧w'.cell? ⟨(V.add ((u).toNat*4)).block,(V.add ((u).toNat*4)).off+2,none⟩=some (.int .i64 ((aq l0 u).f1))∧w'.cell? ⟨(V.add ((u).toNat*4)).block,(V.add ((u).toNat*4)).off+3,none⟩=some (.int .i64 ((aq l0 u).f2))∧w'.cell? (af.add (((G)).toNat*4))=some (.int .i64 ((aq D (G)).f0.f0))∧w'.cell? ⟨(af.add (((G)).toNat*4)).block,(af.add (((G)).toNat*4)).off+1,none⟩=some (.int .i64 ((aq D (G)).f0.f1))∧w'.cell? ⟨(af.add (((G)).toNat*4)).block,(af.add (((G)).toNat*4)).off+2,none⟩=some (.int .i64 ((aq D (G)).f1))∧w'.cell? ⟨(af.add (((G)).toNat*4)).block,(af.add (((G)).toNat*4)).off+3,none⟩=some (.int .i64 ((aq D (G)).f2))) (ds:=[]) #[false,false,false,false,false,false,false,false,false,false,false,false,false,false] (by kernel_rfl) rfl rfl ⟨(hW z bA),(hW z bB),(hW z bC),(hW z bE),a2,a3,a4,a5⟩ (fun hHeld=> ?_);refine gQ br.rU br.qV (fun I aJ=> ?_);generalize wr.drew=gG at J z aN aQ aR aW a2 a3 a4 a5 hHeld ⊢;refine pA 0 (some 58) I.out ?_;refine pA 1 (some 59) I.out ?_;refine pA 2 (some 60) I.out ?_;refine pA 3 (some 61) I.out ?_;refine pA 4 (some 62) I.out ?_;refine pA 5 (some 63) I.out ?_;refine pA 7 (some 65) I.out ?_;refine pA 8 (some 66) I.out ?_;refine pA 9 (some 67) I.out ?_;refine pA 10 (some 68) I.out ?_;refine pT 6 (some 64) I.out aJ.out hHeld ?_;refine pT 11 (some 69) I.out aJ.out hHeld ?_;refine dN (i:=12) (N:=some 70) #[true,true,true,true,true,true,true,true,true,true,true,true,true,false] rfl rfl (dF I.out (by kernel_rfl)) (by decide) (fun K hK=> ?_);refine cG Tryz.func155 (by kernel_rfl) rfl #[.agg #[.int .i64 ((aq l0 u).f0.f0),.int .i64 ((aq l0 u).f0.f1),.int .i64 ((aq l0 u).f1),.int .i64 ((aq l0 u).f2)],.agg #[.int .i64 ((aq D (G)).f0.f0),.int .i64 ((aq D (G)).f0.f1),.int .i64 ((aq D (G)).f1),.int .i64 ((aq D (G)).f2)]] (by rfl) rfl rfl (by(try simp only[List.map_toArray,List.map_cons,List.map_nil]);first|done|(simp only[bg];rfl)|rfl|(simp only[List.length_drop,List.length_take];rfl)) ?_
                         with_reducible refine(lM.c ((aq l0 u).f0.f0) ((aq l0 u).f0.f1) ((aq l0 u).f1) ((aq l0 u).f2) ((aq D (G)).f0.f0) ((aq D (G)).f0.f1) ((aq D (G)).f1) ((aq D (G)).f2) false _ dc.out).mono ?_
                         rintro e aG ⟨rfl,hb⟩;have cy:=(hb.cell (World.block_lt_of_cell? _ _ (hHeld.2.2.2.2.1))).trans (hHeld.2.2.2.2.1);have cz:=(hb.cell (World.block_lt_of_cell? _ _ (hHeld.2.2.2.2.2.1))).trans (hHeld.2.2.2.2.2.1);have cA:=(hb.cell (World.block_lt_of_cell? _ _ (hHeld.2.2.2.2.2.2.1))).trans (hHeld.2.2.2.2.2.2.1);have cB:=(hb.cell (World.block_lt_of_cell? _ _ (hHeld.2.2.2.2.2.2.2))).trans (hHeld.2.2.2.2.2.2.2);refine⟨_,rfl,?_⟩;have O:=A_ (Kd.b6 (oR J) hb);have U:=A_ (aV (oB z) hb);clear J z;have J:=O;have z:=U;clear O U
                         (try clear hb)
                         (try clear hb2)
                         (try clear hk)
                         (try clear hi)
                         refine hK.out _ _ ⟨(hW z bA),(hW z bB),(hW z bC),(hW z bE),cy,cz,cA,cB⟩ (fun hHeld=> ?_);clear hK K;refine dS (a':= ?_) ?_ ?_;rotate_left
                         ·show Act.put _ (some 70) _=_;simp only[Act.put,List.setIfInBounds_toArray,List.set_cons_zero,List.set_cons_succ,bJ,cu];rfl
                         refine pA 13 (some 71) I.out ?_;refine fH (gb I.out (by kernel_rfl)) ?_;have cQ:0≤(u:Int):=oD;have cW:u<(l0.length:Int):=oD;obtain⟨en,eD,dQ,dT,dU,dV⟩:=eA aM.out u cQ cW;obtain rfl:V=en:=(by injection eD);replace dQ:=hW z dQ;replace dT:=hW z dT;replace dU:=hW z dU;replace dV:=hW z dV;replace cQ:=aw cQ;replace cW:=aw cW;have cT:0≤(F:Int):=oD;have cZ:(F:Int)<((D.length:Int):Int):=oD;obtain⟨al,fY,dy,dC,eH,fU,dg⟩:=Kd.kH J.out (by omega)
                         (first|cases dy|(injection dy with ap bl bk;(first|subst ap|(injection ap with ap;subst ap));subst bk;clear bl))
                         have b0:=A_ dC;have fw:=A_ dg;clear dC eH dg
                         (first|simp only[add_plain]at a2|skip)
                         (first|simp only[add_plain]at a3|skip)
                         (first|simp only[add_plain]at a4|skip)
                         (first|simp only[add_plain]at a5|skip)
                         obtain⟨fP,eK,dH,bp,bu⟩:=Kd.iR J.out z64 (F:Int) cT cZ;obtain rfl:=nb dH;have gm:aG.cell? ⟨al,(F:Int).toNat*4,none⟩=some (.int .i64 ((aq D F).f0.f0)):=bp 0 _ rfl;have gn:aG.cell? ⟨al,(F:Int).toNat*4+1,none⟩=some (.int .i64 ((aq D F).f0.f1)):=bp 1 _ rfl;have gp:aG.cell? ⟨al,(F:Int).toNat*4+2,none⟩=some (.int .i64 ((aq D F).f1)):=bp 2 _ rfl;have gq:aG.cell? ⟨al,(F:Int).toNat*4+3,none⟩=some (.int .i64 ((aq D F).f2)):=bp 3 _ rfl;have f6:aG.frozen? ⟨al,(F:Int).toNat*4,none⟩=false:=bu 0;have f7:aG.frozen? ⟨al,(F:Int).toNat*4+1,none⟩=false:=bu 1;have f8:aG.frozen? ⟨al,(F:Int).toNat*4+2,none⟩=false:=bu 2;have f9:aG.frozen? ⟨al,(F:Int).toNat*4+3,none⟩=false:=bu 3;clear eK bp bu dH;replace cT:=aw cT;replace cZ:=aw cZ;have dj:=A_ (show Kd.R aK 64 aG w.heap.size (fun _=>True) (.slice (some ⟨al,0,none⟩) D.length du) D from(oR J));obtain⟨fQ,dM,dI,be,bv⟩:=Kd.iR dj.out z64 (F:Int) (oD) (by have h_:(F:Int)<((D.length:Int):Int):=oD;first|exact h_|(have e_:=(Kd.cr J.out).1;omega)|simpa using h_);obtain rfl:=nb dI;have cw:=Kd.mP dj.out (F:Int) (oD) (by have h_:(F:Int)<((D.length:Int):Int):=oD;first|exact h_|(have e_:=(Kd.cr J.out).1;omega)|simpa using h_) (seg:=[.int .i64 ((aq l0 u).f0.f0),.int .i64 ((aq l0 u).f0.f1),.int .i64 ((aq l0 u).f1),.int .i64 ((aq l0 u).f2)]) (j:=0) dM be (show 4≤4 from by decide) (x':=(⟨(⟨(aq l0 u).f0.f0,(aq l0 u).f0.f1⟩:bH),(aq l0 u).f1,(aq l0 u).f2⟩:S64)) (ke _ _ _ (⟨(⟨(aq l0 u).f0.f0,(aq l0 u).f0.f1⟩:bH),(aq l0 u).f1,(aq l0 u).f2⟩:S64)) (fun _ hk=>hk);have fi:=be 0 _ rfl
                         (try simp only[show(aK).sz=4 from rfl,Nat.mul_one,Nat.add_zero]at fi)
                         have eT:=bv 0
                         (try simp only[show(aK).sz=4 from rfl,Nat.mul_one,Nat.add_zero]at eT)
                         have fj:=be 1 _ rfl
                         (try simp only[show(aK).sz=4 from rfl,Nat.mul_one,Nat.add_zero]at fj)
                         have eU:=bv 1
                         (try simp only[show(aK).sz=4 from rfl,Nat.mul_one,Nat.add_zero]at eU)
                         have fk:=be 2 _ rfl
                         (try simp only[show(aK).sz=4 from rfl,Nat.mul_one,Nat.add_zero]at fk)
                         have eV:=bv 2
                         (try simp only[show(aK).sz=4 from rfl,Nat.mul_one,Nat.add_zero]at eV)
                         have fl:=be 3 _ rfl
                         (try simp only[show(aK).sz=4 from rfl,Nat.mul_one,Nat.add_zero]at fl)
                         have eW:=bv 3
                         (try simp only[show(aK).sz=4 from rfl,Nat.mul_one,Nat.add_zero]at eW)
                         clear dM be bv dI
                         try go_wp2_with (first|((with_reducible refine lC (t:=64) (p:=88) rfl ?_);refine lN (t:=64) (p:=88) (v:= ?CK) (w1:=((((aG.setCell ⟨al,(F:Int).toNat*4,none⟩ (.int .i64 ((aq l0 u).f0.f0))).setCell ⟨al,(F:Int).toNat*4+1,none⟩ (.int .i64 ((aq l0 u).f0.f1))).setCell ⟨al,(F:Int).toNat*4+2,none⟩ (.int .i64 ((aq l0 u).f1))).setCell ⟨al,(F:Int).toNat*4+3,none⟩ (.int .i64 ((aq l0 u).f2)))) ?hg ?ho ?hn ?hr ?_;(case ho=>rfl);(case hg=>rfl);(case hn=>rfl);(case hr=>first|(go_simp;done)|(go_simp;rfl));intro c7 hw;have hg:aG.grownBy c7 (some al):=(by rw[hw];exact cw.2);have a1:Kd.R aK 64 c7 w.heap.size (fun _=>True) (.slice (some ⟨al,0,none⟩) D.length du) da:=(by rw[hw,ef.out];exact cw.1);clear cw;have O:=A_ (a1);have U:=A_ ((by rw[hw];exact dZ (dZ (dZ (dZ (z.out) b0.out) b0.out) b0.out) b0.out:Below w.heap.size w c7));clear J z;have J:=O;have z:=U;clear O U hg hw a1))
                         go_roundg k4
                         case measure=>have:=ao.out;have:=av.out;have:=aD.out;have:=bb.out;omega
                         case rel=>exact⟨(da),(wrap64 (u+1)),eS,H',⟨by have:=ao.out;have:=av.out;have:=aD.out;have:=bb.out;omega⟩,⟨oR J⟩,⟨oB z⟩⟩
                        ·rw[aj b']at H;exact absurd H (by simp)
                       ·rw[aj b_]at H;exact absurd H (by simp)
                     ·rw[aj b5]at H;exact absurd H (by simp)
                    ·rw[aj b4]at H;exact absurd H (by simp)
                   ·rw[aj b3]at H;exact absurd H (by simp)
                  ·rw[aj b2]at H;exact absurd H (by simp)
                 ·rw[aj bc]at H;have ev:decide (0<F)=false:=ax bc;clear bc;by_cases ca:0≤u
                  ·rw[ai ca]at H;have fJ:decide (0≤u)=true:=ah ca;clear ca;by_cases cb:u<(l0.length:Int)
                   ·rw[ai cb]at H;have fK:decide (u<(l0.length:Int))=true:=ah cb;clear cb;by_cases cc:0≤F
                    ·rw[ai cc]at H;have fL:decide (0≤F)=true:=ah cc;clear cc;by_cases cd:F<(D.length:Int)
                     ·rw[ai cd]at H;have fM:decide (F<(D.length:Int))=true:=ah cd;clear cd;obtain⟨db,bV⟩:∃aY:List (S64),aY=(D.set (F:Int).toNat (⟨(⟨(aq l0 u).f0.f0,(aq l0 u).f0.f1⟩:bH),(aq l0 u).f1,(aq l0 u).f2⟩:S64)):=⟨_,rfl⟩;replace H:(br.l0 k4 l0 db (wrap64 (u+1)))=some r:=by first|(rw[bV];with_reducible exact H)|(have ad:=(az _ _).symm.trans H;rw[bV];with_reducible exact ad)|(have ad:=(az _ _).symm.trans H;with_reducible exact ad)|with_reducible exact H|(rw[bV];exact H)|exact H
                      have eg:=A_ bV;clear bV;have H':=A_ H;clear H
                      try go_wp2
                      have O:=A_ (Kd.cq J.out);have U:=A_ (cv z.out);clear J z;have J:=O;have z:=U;clear O U;refine fX (n:=14) (S:=fun w'=>True) (ds:=[]) #[false,false,false,false,false,false,false,false,false,false,false,false,false,false] (by kernel_rfl) rfl rfl trivial (fun hHeld=> ?_);refine gQ br.rU br.qV (fun I aJ=> ?_);generalize wr.drew=aH at J z hHeld ⊢;refine pA 0 (some 58) I.out ?_;refine pA 1 (some 59) I.out ?_;refine pA 2 (some 60) I.out ?_;refine pU 3 (some 61) I.out ?_;refine pU 4 (some 62) I.out ?_;refine pU 5 (some 63) I.out ?_;refine pU 6 (some 64) I.out ?_;refine pU 7 (some 65) I.out ?_;refine pU 8 (some 66) I.out ?_;refine pU 9 (some 67) I.out ?_;refine pU 10 (some 68) I.out ?_;refine pU 11 (some 69) I.out ?_;refine pU 12 (some 70) I.out ?_;refine pA 13 (some 71) I.out ?_;refine fH (gb I.out (by kernel_rfl)) ?_;have cR:0≤(u:Int):=oD;have cX:u<(l0.length:Int):=oD;obtain⟨eo,eE,dW,dX,dY,d0⟩:=eA aM.out u cR cX;obtain rfl:V=eo:=(by injection eE);replace dW:=hW z dW;replace dX:=hW z dX;replace dY:=hW z dY;replace d0:=hW z d0;replace cR:=aw cR;replace cX:=aw cX;have cU:0≤(F:Int):=oD;have c3:(F:Int)<((D.length:Int):Int):=oD;obtain⟨am,dv,dA,dD,eI,fV,dh⟩:=Kd.kH J.out (by omega)
                      (first|cases dA|(injection dA with ap bl bk;(first|subst ap|(injection ap with ap;subst ap));subst bk;clear bl))
                      have b1:=A_ dD;have fx:=A_ dh;clear dD eI dh;obtain⟨fR,eL,dJ,bq,bw⟩:=Kd.iR J.out z64 (F:Int) cU c3;obtain rfl:=nb dJ;have gs:aH.cell? ⟨am,(F:Int).toNat*4,none⟩=some (.int .i64 ((aq D F).f0.f0)):=bq 0 _ rfl;have gu:aH.cell? ⟨am,(F:Int).toNat*4+1,none⟩=some (.int .i64 ((aq D F).f0.f1)):=bq 1 _ rfl;have gv:aH.cell? ⟨am,(F:Int).toNat*4+2,none⟩=some (.int .i64 ((aq D F).f1)):=bq 2 _ rfl;have gw:aH.cell? ⟨am,(F:Int).toNat*4+3,none⟩=some (.int .i64 ((aq D F).f2)):=bq 3 _ rfl;have f_:aH.frozen? ⟨am,(F:Int).toNat*4,none⟩=false:=bw 0;have f':aH.frozen? ⟨am,(F:Int).toNat*4+1,none⟩=false:=bw 1;have ga:aH.frozen? ⟨am,(F:Int).toNat*4+2,none⟩=false:=bw 2;have gc:aH.frozen? ⟨am,(F:Int).toNat*4+3,none⟩=false:=bw 3;clear eL bq bw dJ;replace cU:=aw cU;replace c3:=aw c3;have dk:=A_ (show Kd.R aK 64 aH w.heap.size (fun _=>True) (.slice (some ⟨am,0,none⟩) D.length dv) D from(oR J));obtain⟨fS,dO,dK,bf,bx⟩:=Kd.iR dk.out z64 (F:Int) (oD) (by have h_:(F:Int)<((D.length:Int):Int):=oD;first|exact h_|(have e_:=(Kd.cr J.out).1;omega)|simpa using h_);obtain rfl:=nb dK;have cx:=Kd.mP dk.out (F:Int) (oD) (by have h_:(F:Int)<((D.length:Int):Int):=oD;first|exact h_|(have e_:=(Kd.cr J.out).1;omega)|simpa using h_) (seg:=[.int .i64 ((aq l0 u).f0.f0),.int .i64 ((aq l0 u).f0.f1),.int .i64 ((aq l0 u).f1),.int .i64 ((aq l0 u).f2)]) (j:=0) dO bf (show 4≤4 from by decide) (x':=(⟨(⟨(aq l0 u).f0.f0,(aq l0 u).f0.f1⟩:bH),(aq l0 u).f1,(aq l0 u).f2⟩:S64)) (ke _ _ _ (⟨(⟨(aq l0 u).f0.f0,(aq l0 u).f0.f1⟩:bH),(aq l0 u).f1,(aq l0 u).f2⟩:S64)) (fun _ hk=>hk);have fm:=bf 0 _ rfl
                      (try simp only[show(aK).sz=4 from rfl,Nat.mul_one,Nat.add_zero]at fm)
                      have eX:=bx 0
                      (try simp only[show(aK).sz=4 from rfl,Nat.mul_one,Nat.add_zero]at eX)
                      have fo:=bf 1 _ rfl
                      (try simp only[show(aK).sz=4 from rfl,Nat.mul_one,Nat.add_zero]at fo)
                      have eY:=bx 1
                      (try simp only[show(aK).sz=4 from rfl,Nat.mul_one,Nat.add_zero]at eY)
                      have fp:=bf 2 _ rfl
                      (try simp only[show(aK).sz=4 from rfl,Nat.mul_one,Nat.add_zero]at fp)
                      have eZ:=bx 2
                      (try simp only[show(aK).sz=4 from rfl,Nat.mul_one,Nat.add_zero]at eZ)
                      have fq:=bf 3 _ rfl
                      (try simp only[show(aK).sz=4 from rfl,Nat.mul_one,Nat.add_zero]at fq)
                      have e0:=bx 3
                      (try simp only[show(aK).sz=4 from rfl,Nat.mul_one,Nat.add_zero]at e0)
                      clear dO bf bx dK
                      try go_wp2_with (first|((with_reducible refine lC (t:=64) (p:=88) rfl ?_);refine lN (t:=64) (p:=88) (v:= ?CL) (w1:=((((aH.setCell ⟨am,(F:Int).toNat*4,none⟩ (.int .i64 ((aq l0 u).f0.f0))).setCell ⟨am,(F:Int).toNat*4+1,none⟩ (.int .i64 ((aq l0 u).f0.f1))).setCell ⟨am,(F:Int).toNat*4+2,none⟩ (.int .i64 ((aq l0 u).f1))).setCell ⟨am,(F:Int).toNat*4+3,none⟩ (.int .i64 ((aq l0 u).f2)))) ?hg ?ho ?hn ?hr ?_;(case ho=>rfl);(case hg=>rfl);(case hn=>rfl);(case hr=>first|(go_simp;done)|(go_simp;rfl));intro c_ hw;have hg:aH.grownBy c_ (some am):=(by rw[hw];exact cx.2);have a1:Kd.R aK 64 c_ w.heap.size (fun _=>True) (.slice (some ⟨am,0,none⟩) D.length dv) db:=(by rw[hw,eg.out];exact cx.1);clear cx;have O:=A_ (a1);have U:=A_ ((by rw[hw];exact dZ (dZ (dZ (dZ (z.out) b1.out) b1.out) b1.out) b1.out:Below w.heap.size w c_));clear J z;have J:=O;have z:=U;clear O U hg hw a1))
                      go_roundg k4
                      case measure=>have:=ao.out;have:=av.out;have:=aD.out;have:=bb.out;omega
                      case rel=>exact⟨(db),(wrap64 (u+1)),eS,H',⟨by have:=ao.out;have:=av.out;have:=aD.out;have:=bb.out;omega⟩,⟨oR J⟩,⟨oB z⟩⟩
                     ·rw[aj cd]at H;exact absurd H (by simp)
                    ·rw[aj cc]at H;exact absurd H (by simp)
                   ·rw[aj cb]at H;exact absurd H (by simp)
                  ·rw[aj ca]at H;exact absurd H (by simp)
              ·rw[aj bj]at H;exact absurd H (by simp)
             ·rw[aj c20]at H;exact absurd H (by simp)
            ·rw[aj c19]at H;exact absurd H (by simp)
           ·replace c18:=Bool.eq_false_iff.mpr c18;subst c18;rw[aj (show¬(false=true)by decide)]at H;have H':=A_ H;clear H;go_wp2
            go_roundg k3
            case measure=>have:=ao.out;have:=av.out;have:=aD.out;omega
            case rel=>exact⟨(ar),(wrap64 (u+1)),eS,H',⟨by have:=ao.out;have:=av.out;have:=aD.out;omega⟩,⟨oR J⟩,⟨oB z⟩⟩
       ·rw[aj c10]at H;exact absurd H (by simp)
      ·rw[aj c9]at H;exact absurd H (by simp)
     ·replace c8:=Bool.eq_false_iff.mpr c8;subst c8;rw[aj (show¬(false=true)by decide)]at H;obtain rfl:=aA H;go_wp2;go_ret;exact⟨_,eR,oR J,oB z⟩
mutual
def dX.l0:Nat→List (S64)→Int→Int→Int→Int→Option (Int)
 |0,_,_,_,_,_=>none
 |k+1,x0,F,u,z,D=>if u<(x0.length:Int)then((iy.f k x0).bind fun G=>(dX.j1 k x0 F u G z D))else(dX.j1 k x0 F u false z D)
def dX.j1:Nat→List (S64)→Int→Int→Bool→Int→Int→Option (Int)
 |0,_,_,_,_,_,_=>none
 |k+1,x0,F,u,G,z,D=>if G=true then(if 0≤u then(if u<(x0.length:Int)then(if(((aq x0 u).f0.f0)==z&&(((aq x0 u).f0.f1)==D))=true then(dX.l0 k x0 ((aq x0 u).f1) (wrap64 (u+1)) z D)else(dX.l0 k x0 F (wrap64 (u+1)) z D))else(none))else(none))else(some F)
end
def dX.f (k:Nat) (l0:List (S64)) (u:Int) (z:Int):Option (Int):=dX.l0 k l0 0 0 u z
theorem dX.c (k:Nat) (A0:Option Addr) (c0:Nat) (l0:List (S64)) (F:Int) (G:Int) (r:Int) (w:World) (aR:Kd.C aK w A0 l0.length l0) (hc0:l0.length≤c0) (h:dX.f k l0 F G=some r):
  Calls Tryz.prog 118 #[.slice A0 l0.length c0,.agg #[.int .i64 F,.int .i64 G]] w fun e w'=>e= .returned (.int .i64 r)∧Below w.heap.size w w':=by
 have bm:=Tryz.underlying62;have al:=A_ aR;have aH:=A_ hc0;clear aR hc0;have u:=A_ (Below.refl w.heap.size w);have H:(dX.l0 k l0 0 0 F G)=some r:=h;clear h;have H':=A_ H;clear H;go_enter Tryz.func118,Tryz.ntmps118
 go_wp2_with (first|((with_reducible refine aC (N:=3) rfl ?_);refine bX (N:=3) (cs:= #[.int .i64 F,.int .i64 G]) (t:=62) ?_;intro K hg w3 O hb;have I:=A_ (aV (oB u) hb);have J:=A_ (O);have U:=A_ ((by rw[hg];exact(aZ (oB u)):w.heap.size≤K));have V:=A_ ((by rw[hg];exact(aZ (oB u)):w.heap.size≤K));clear u;have u:=I;have D:=J;have aP:=U;have aO:=V;clear I J U V hb O hg))
 repeat(go_quiet (first|((with_reducible refine aC (N:=3) rfl ?_);refine bX (N:=3) (cs:= #[.int .i64 F,.int .i64 G]) (t:=62) ?_;intro K hg w3 O hb;have I:=A_ (aV (oB u) hb);have J:=A_ (O);have U:=A_ ((by rw[hg];exact(aZ (oB u)):w.heap.size≤K));have V:=A_ ((by rw[hg];exact(aZ (oB u)):w.heap.size≤K));clear u;have u:=I;have D:=J;have aP:=U;have aO:=V;clear I J U V hb O hg));try go_wp2_with (first|((with_reducible refine aC (N:=3) rfl ?_);refine bX (N:=3) (cs:= #[.int .i64 F,.int .i64 G]) (t:=62) ?_;intro K hg w3 O hb;have I:=A_ (aV (oB u) hb);have J:=A_ (O);have U:=A_ ((by rw[hg];exact(aZ (oB u)):w.heap.size≤K));have V:=A_ ((by rw[hg];exact(aZ (oB u)):w.heap.size≤K));clear u;have u:=I;have D:=J;have aP:=U;have aO:=V;clear I J U V hb O hg)))
 go_loopg [5,6] k (fun ad v5 v6 w'=>∃(av:Int) (z:Int),v5= .int .i64 av∧v6= .int .i64 z∧ae (dX.l0 ad l0 av z F G=some r)∧ae (ad≤k)∧ae (w'.heap[K]? =some (.cells #[.int .i64 F,.int .i64 G] 62 (0,0)))∧ae (Below w.heap.size w w'))
 case atStart=>exact⟨(0),(0),eS,eS,H',⟨Nat.le_refl _⟩,⟨oK D⟩,⟨oB u⟩⟩
 case round=>
  clear H'
  try clear c1
  try clear p2
  obtain⟨av,z,rfl,rfl,X,ak,D,u⟩:=hrel;cases gk with
  |zero=>exact absurd X.out (by simp[dX.l0])
  |succ k1=>
   have H:=X.out;clear X;simp only[dX.l0]at H;have aI:=A_ H;clear H
   go_upto_region 3 with (fail)
   repeat(go_quiet (fail);go_upto_region 3 with (fail))
   go_cut [14] (fun v14 wc=>∃(ad:Nat) (aF:Bool),v14= .bool aF∧ae (dX.j1 ad l0 av z aF F G=some r)∧ae (ad≤k1)∧ae (wc.heap[K]? =some (.cells #[.int .i64 F,.int .i64 G] 62 (0,0)))∧ae (Below w.heap.size w wc))
   case first=>
    have H:=aI.out;clear aI;by_cases c5:z<(l0.length:Int)
    ·rw[ai c5]at H;have am:decide (z<(l0.length:Int))=true:=ah c5;clear c5
     (first|rw[am]|(simp only[bJ,cu];rw[am])|skip)
     replace H:=ay H;obtain⟨aE,aN,H⟩:=H
     (try dsimp only at H)
     have aG:=A_ aN;clear aN;have H':=A_ H;clear H
     go_wp2_with (first|(go_at_call 71;(with_reducible refine(iy.c k1 _ _ l0 aE _ ?aT ?aU aG.out).mono ?_);(case aT=>exact bF al.out);(case aU=>exact aH.out);rintro e w7 ⟨rfl,hb⟩;have I:=A_ (bb D hb);have J:=A_ (aV (oB u) hb);clear D u;have D:=I;have u:=J;clear I J;(try clear hb);(try clear hb2);(try clear hk);(try clear hi)))
     repeat(go_quiet (first|(go_at_call 71;(with_reducible refine(iy.c k1 _ _ l0 aE _ ?aT ?aU aG.out).mono ?_);(case aT=>exact bF al.out);(case aU=>exact aH.out);rintro e w7 ⟨rfl,hb⟩;have I:=A_ (bb D hb);have J:=A_ (aV (oB u) hb);clear D u;have D:=I;have u:=J;clear I J;(try clear hb);(try clear hb2);(try clear hk);(try clear hi)));try go_wp2_with (first|(go_at_call 71;(with_reducible refine(iy.c k1 _ _ l0 aE _ ?aT ?aU aG.out).mono ?_);(case aT=>exact bF al.out);(case aU=>exact aH.out);rintro e w7 ⟨rfl,hb⟩;have I:=A_ (bb D hb);have J:=A_ (aV (oB u) hb);clear D u;have D:=I;have u:=J;clear I J;(try clear hb);(try clear hb2);(try clear hk);(try clear hi))))
     go_meet
     case rel=>exact⟨_,(aE),eS,H',⟨by have:=ak.out;first|omega|exact Nat.le_refl _⟩,⟨oK D⟩,⟨oB u⟩⟩
    ·rw[aj c5]at H;have am:decide (z<(l0.length:Int))=false:=ax c5;clear c5
     (first|rw[am]|(simp only[bJ,cu];rw[am])|skip)
     have H':=A_ H;clear H;go_wp2
     repeat(go_quiet (fail);try go_wp2)
     go_meet
     case rel=>exact⟨_,(false),eS,H',⟨by have:=ak.out;first|omega|exact Nat.le_refl _⟩,⟨oK D⟩,⟨oB u⟩⟩
   case rest=>
    clear aI
    try clear c1
    try clear p2
    try clear c5
    try clear am
    try clear p2
    obtain⟨ad,aF,rfl,X,aB,D,u⟩:=hcut;cases ad with
    |zero=>exact absurd X.out (by simp[dX.j1])
    |succ a1=>
     have H:=X.out;clear X;simp only[dX.j1]at H;by_cases c8:aF=true
     ·subst c8;rw[ai rfl]at H;by_cases c9:0≤z
      ·rw[ai c9]at H;have a_:decide (0≤z)=true:=ah c9;clear c9;by_cases c10:z<(l0.length:Int)
       ·rw[ai c10]at H;have a7:decide (z<(l0.length:Int))=true:=ah c10;clear c10;by_cases c11:(((aq l0 z).f0.f0)==F&&(((aq l0 z).f0.f1)==G))=true
        ·rw[ai c11]at H;have a3:(((aq l0 z).f0.f0)==F&&(((aq l0 z).f0.f1)==G))=true:=c11
         (try(have a4:decide (((aq l0 z).f0.f0)=F&&(((aq l0 z).f0.f1)==G))=true:=by simpa using c11))
         (try(have a5:(((aq l0 z).f0.f0)==F&&(((aq l0 z).f0.f1)==G))=true:=by simpa using c11))
         clear c11;have H':=A_ H;clear H;have af:0≤(z:Int):=oD;have ag:z<(l0.length:Int):=oD;obtain⟨aQ,aJ,ao,ap,ar,au⟩:=eA al.out z af ag;cases aJ;replace ao:=hW u ao;replace ap:=hW u ap;replace ar:=hW u ar;replace au:=hW u au;replace af:=aw af;replace ag:=aw ag;have bc:=cz D 0;have bd:=cz D 1;have bg:=aD D.out 0;have bj:=aD D.out 1;have aL:0≤(z:Int):=oD;have aM:z<(l0.length:Int):=oD;obtain⟨a2,a6,aS,aW,aY,a0⟩:=eA al.out z aL aM;obtain rfl:aQ=a2:=(by injection a6);replace aS:=hW u aS;replace aW:=hW u aW;replace aY:=hW u aY;replace a0:=hW u a0;replace aL:=aw aL;replace aM:=aw aM;go_wp2
         repeat(go_quiet (fail);try go_wp2)
         go_roundg a1
         case measure=>have:=ak.out;have:=aB.out;omega
         case rel=>exact⟨((aq l0 z).f1),(wrap64 (z+1)),eS,eS,H',⟨by have:=ak.out;have:=aB.out;omega⟩,⟨oK D⟩,⟨oB u⟩⟩
        ·rw[aj c11]at H;have a3:(((aq l0 z).f0.f0)==F&&(((aq l0 z).f0.f1)==G))=false:=by simpa using c11
         (try(have a4:decide (((aq l0 z).f0.f0)=F&&(((aq l0 z).f0.f1)==G))=false:=by simpa using c11))
         (try(have a5:(((aq l0 z).f0.f0)==F&&(((aq l0 z).f0.f1)==G))=false:=by simpa using c11))
         (try(have a9:¬(((aq l0 z).f0.f0)=F&&(((aq l0 z).f0.f1)==G)):=by simpa using c11))
         clear c11;have H':=A_ H;clear H;have af:0≤(z:Int):=oD;have ag:z<(l0.length:Int):=oD;obtain⟨aQ,aJ,ao,ap,ar,au⟩:=eA al.out z af ag;cases aJ;replace ao:=hW u ao;replace ap:=hW u ap;replace ar:=hW u ar;replace au:=hW u au;replace af:=aw af;replace ag:=aw ag;have be:=cz D 0;have bf:=cz D 1;have bk:=aD D.out 0;have bl:=aD D.out 1;go_wp2
         repeat(go_quiet (fail);try go_wp2)
         go_roundg a1
         case measure=>have:=ak.out;have:=aB.out;omega
         case rel=>exact⟨(av),(wrap64 (z+1)),eS,eS,H',⟨by have:=ak.out;have:=aB.out;omega⟩,⟨oK D⟩,⟨oB u⟩⟩
       ·rw[aj c10]at H;exact absurd H (by simp)
      ·rw[aj c9]at H;exact absurd H (by simp)
     ·replace c8:=Bool.eq_false_iff.mpr c8;subst c8;rw[aj (show¬(false=true)by decide)]at H;obtain rfl:=aA H;go_wp2
      repeat(go_quiet (fail);try go_wp2)
      go_ret;exact⟨eR,oB u⟩
end P
namespace P
set_option maxHeartbeats 8000000
set_option maxRecDepth 100000
set_option synthInstance.maxHeartbeats 400000
set_option synthInstance.maxSize 100000
open Go.RowKit WW.bc WW.bY WW.bZ V
attribute [local go_sem] dB dC gT iV iW jI jJ
attribute [local go_sem] cP cT cS cW cR cV cQ cU
def fU.f (k:Nat) (l0:List (S64)) (F:Int) (G:Int) (H:Int) (I:Int):Option ((List (S64))×Bool):=(iz.f l0).bind fun u=>((some (([(⟨(⟨F,G⟩:bH),H,I⟩:S64)]:List (S64)):List (S64))).bind fun z=>(if u.length+z.length<4398046511104 then((some (u++z:List (S64))).bind fun D=>((iy.f k l0).bind fun J=>(if J=true then((iy.f k D).bind fun K=>(if K=true then(some (D,true))else((iz.f l0).bind fun O=>(some (O,false)))))else((iz.f l0).bind fun U=>(some (U,false))))))else(none)))
noncomputable def fU.T1:Bool×List (List Nat×List Nat):=aW .any (opsOf Tryz.f115 1)
def fU.B1:List Nat:=[0,1,0,4,15,31]
theorem fU.oL:aW .any (opsOf Tryz.f115 1)=fU.T1:=rfl
theorem fU.nR:bL fU.T1.2 fU.B1=true:=by kernel_rfl
theorem fU.c (k:Nat) (A0:Option Addr) (c0:Nat) (l0:List (S64)) (u:Int) (z:Int) (D:Int) (F:Int) (r1:List (S64)) (r2:Bool) (w:World) (U:Kd.C aK w A0 l0.length l0) (hc0:l0.length≤c0) (h:fU.f k l0 u z D F=some (r1,r2)):
  Calls Tryz.prog 115 #[.slice A0 l0.length c0,.agg #[.int .i64 u,.int .i64 z,.int .i64 D,.int .i64 F]] w fun e w'=>∃X:Value,e= .returned (.tuple #[X,.bool r2])∧Kd.R aK 64 w' w.heap.size (fun _=>True) X r1∧Below w.heap.size w w':=by
 replace U:=a6.mk U;replace hc0:=af.mk hc0;unfold fU.f at h;have hu64:=Tryz.underlying64
 all_goals go_enter Tryz.func115,Tryz.ntmps115
 all_goals go_wp2_with ((first
  |((with_reducible refine aC (N:=3) rfl ?_);refine bV #[.int .i64 u,.int .i64 z,.int .i64 D,.int .i64 F] 64 fun g w1 j1 j2 aD=> ?_)
  |(go_at_call 69;(try rw[I.out]);replace h:=bI h;obtain⟨t,A,h⟩:=h;(try dsimp only at h);refine(iz.c _ _ _ _ _ Rd.out af.out A).mono ?_;rintro e w2 ⟨v0,rfl,H,hb⟩;obtain⟨O,b0,rfl,j0,q0⟩:=av H;have J:=au.mk hb;clear A H hb)
  |(go_at_call 71;(try rw[I.out]);replace h:=bI h;obtain⟨t,A,h⟩:=h;(try dsimp only at h);refine(iy.c _ _ _ _ _ _ Rd.out af.out A).mono ?_;rintro e w2 ⟨rfl,hb⟩;have J:=au.mk hb;clear A hb)
  |(refine qR (id:=1) (ds:=[]) (l:= #[false,false,false,false,false,false]) fU.oL fU.nR ?_;intro G ad w3 aF u0 aB hHeld;refine qA 0 (some 7) G ?_;refine qT 2 (some 9) G ad hHeld ?_;replace h:=bI h;obtain⟨t,A,h⟩:=h;(try dsimp only at h);simp only[az]at h;(repeat' first|((with_reducible replace h:=bC h);rcases h with ⟨hc,h⟩|⟨hc,h⟩<;>first|exact(bo h).elim|exact absurd hc (by decide)|subst hc|(replace hc:=aM hc;subst hc)|(replace hc:=bR hc;subst hc)|(replace hc:=bS hc;subst hc)|(have hd:(_==_)=true:=hc)|(have hd:(_==_)=false:=aM hc)|(have hd:=bw hc;have he:=bz hc;clear hc)|(have hd:=bA hc;have he:=bB hc)|(have hd:=ax hc)|(have hd:=ah hc;(try(have hn:=Int.natCast_pos.mp hc;have hm:=ah hn;replace hn:=aw hn));first|(obtain⟨al,e_,i_⟩:=bQ (by assumption) (by first|assumption|decide) hc;cases e_)|(obtain⟨ag,e_,c_⟩:=bO (by assumption) (by first|assumption|decide) hc;cases e_))|(have hd:=ah hc)|skip)|((with_reducible replace h:=bP h);obtain⟨I,h⟩:=h;replace I:=A_ I;(try dsimp only at h)));refine ld 1 3 (some 8) (some 10) G (fun K hK=> ?_) (fun K hK=> ?_);(focus (refine cG Tryz.func69 (by kernel_rfl) rfl _ (by rfl) rfl rfl (by(try simp only[List.map_toArray,List.map_cons,List.map_nil]);rfl) ?_;refine(iz.c _ _ _ _ _ Rd.out af.out A).mono ?_;rintro e u1 ⟨v0,rfl,H,hb⟩;obtain⟨O,b0,rfl,j0,q0⟩:=av H;have J:=au.mk hb;(try clear H hb);refine⟨_,rfl,hK.out _ _ From.out fun hHeld=> ?_⟩;clear hK K;refine qN ?_;refine qI aK 3 64 10 ([(⟨(⟨u,z⟩:bH),D,F⟩:S64)]:List (S64)) [.int .i64 u,.int .i64 z,.int .i64 D,.int .i64 F] G hHeld (aI.c4 (show Kd.M aK _ _ _ (⟨(⟨u,z⟩:bH),D,F⟩:S64) [.int .i64 u,.int .i64 z,.int .i64 D,.int .i64 F]from(ke _ _ _ (⟨(⟨u,z⟩:bH),D,F⟩:S64))) (aI.none _ _)) ?_;intro B9 ak aq am ao hHeld));rotate_left;(focus (refine rI aK 64 10 ([(⟨(⟨u,z⟩:bH),D,F⟩:S64)]:List (S64)) [.int .i64 u,.int .i64 z,.int .i64 D,.int .i64 F] (aI.c4 (show Kd.M aK _ _ _ (⟨(⟨u,z⟩:bH),D,F⟩:S64) [.int .i64 u,.int .i64 z,.int .i64 D,.int .i64 F]from(ke _ _ _ (⟨(⟨u,z⟩:bH),D,F⟩:S64))) (aI.none _ _)) ?_;intro B9 ak aq am ao;refine hK.out _ _ From.out fun hHeld=> ?_;clear hK K;refine qN ?_;refine qC 1 8 Tryz.func69 G fun K hK=> ?_;refine(iz.c _ _ _ _ _ Rd.out af.out A).mono ?_;rintro e u1 ⟨v0,rfl,H,hb⟩;obtain⟨O,b0,rfl,j0,q0⟩:=av H;have J:=au.mk hb;(try clear H hb);refine⟨_,rfl,hK _ _ From.out fun hHeld=> ?_⟩;clear hK K;refine qN ?_));all_goals(refine qP aK t ([(⟨(⟨u,z⟩:bH),D,F⟩:S64)]:List (S64)) 4 11 (.tmp 8) (.tmp 10) 28 (.agg #[(.int .i64 0),(.int .i64 0),(.int .i64 0),(.int .i64 0)]) 32 G hHeld Tryz.underlying28 m_ rfl (by decide) (by omega) (fun _ _ h=>h) (by simp at hc ⊢;omega) ?_;intro B8 ar u8 V aE hHeld;have ap:=af.mk (ia V);generalize t++([(⟨(⟨u,z⟩:bH),D,F⟩:S64)]:List (S64))=aG at h V ap ⊢;refine qA 5 (some 6) G ?_;refine qD G ?_)));(repeat' first|((with_reducible replace h:=bC h);rcases h with ⟨hc,h⟩|⟨hc,h⟩<;>first|exact(bo h).elim|exact absurd hc (by decide)|subst hc|(replace hc:=aM hc;subst hc)|(replace hc:=bR hc;subst hc)|(replace hc:=bS hc;subst hc)|(have hd:(_==_)=true:=hc)|(have hd:(_==_)=false:=aM hc)|(have hd:=bw hc;have he:=bz hc;clear hc)|(have hd:=bA hc;have he:=bB hc)|(have hd:=ax hc)|(have hd:=ah hc;(try(have hn:=Int.natCast_pos.mp hc;have hm:=ah hn;replace hn:=aw hn));first|(obtain⟨al,e_,i_⟩:=bQ (by assumption) (by first|assumption|decide) hc;cases e_)|(obtain⟨ag,e_,c_⟩:=bO (by assumption) (by first|assumption|decide) hc;cases e_))|(have hd:=ah hc)|skip)|((with_reducible replace h:=bP h);obtain⟨I,h⟩:=h;replace I:=A_ I;(try dsimp only at h)));all_goals(try have hn:decide (0<t.length)=true:=ah (by omega));all_goals(try have hn:decide (0<t.length)=false:=ax (by omega)))
 all_goals simp only[Option.some.injEq,Prod.mk.injEq]at h
 all_goals obtain⟨rfl,rfl⟩:=h
 all_goals go_ret2
 all_goals exact⟨_,rfl,(by first|exact a8|exact Kd.aY _ _ _ _ _|exact bG|exact dD (by simp)),From.out⟩
end P
namespace P
set_option maxHeartbeats 8000000
set_option maxRecDepth 100000
open Go.RowKit WW.bc WW.bY WW.bZ
attribute [local go_sem] cP cT cS cW cR cV cQ cU
def ny.f (k:Nat) (l0:List (S64)):Option (Int×Int×Bool):=(br.f k l0).bind fun u=>(if(u.length:Int)=0 then(some (0,0,false))else(if 0<(u.length:Int)then(some ((aq u 0).f0.f0,(aq u 0).f0.f1,true))else(none)))
theorem ny.c (k:Nat) (A0:Option Addr) (c0:Nat) (l0:List (S64)) (r1:Int) (r2:Int) (r3:Bool) (w:World) (ar:Kd.C aK w A0 l0.length l0) (hc0:l0.length≤c0) (h:ny.f k l0=some (r1,r2,r3)):
  Calls Tryz.prog 117 #[.slice A0 l0.length c0] w fun e w'=>e= .returned (.tuple #[.agg #[.int .i64 r1,.int .i64 r2],.bool r3])∧Below w.heap.size w w':=by
 have a5:=Tryz.underlying62;have ap:=A_ ar;have ao:=A_ hc0;clear ar hc0;have z:=A_ (Below.refl w.heap.size w);have H:((br.f k l0).bind fun u=>(if(u.length:Int)=0 then(some (0,0,false))else(if 0<(u.length:Int)then(some ((aq u 0).f0.f0,(aq u 0).f0.f1,true))else(none))))=some (r1,r2,r3):=h;clear h;replace H:=ay H;obtain⟨u,am,H⟩:=H
 (try dsimp only at H)
 have A2:=A_ am;clear am;by_cases c3:(u.length:Int)=0
 ·rw[ai c3]at H;have aB:((u.length:Int)==0)=true:=beq_iff_eq.mpr c3;have aE:((u.length:Int) != 0)=false:=bne_eq_false_iff_eq.mpr c3;clear c3;simp only[Option.some.injEq,Prod.mk.injEq]at H;obtain⟨rfl,rfl,rfl⟩:=H;go_enter Tryz.func117,Tryz.ntmps117
  go_wp2_with (first|((with_reducible refine aC (N:=2) rfl ?_);refine bX (N:=2) (cs:= #[.int .i64 0,.int .i64 0]) (t:=62) ?_;intro J hg w4 K hb;have F:=A_ (aV (oB z) hb);have G:=A_ (K);have I:=A_ ((by rw[hg];exact(aZ (oB z)):w.heap.size≤J));have U:=A_ ((by rw[hg];exact(aZ (oB z)):w.heap.size≤J));clear z;have z:=F;have D:=G;have av:=I;have au:=U;clear F G I U hb K hg)|((with_reducible refine bp (f:=135) rfl ?_);refine gL (some 6) Tryz.func135 #[.slice A0 l0.length c0] ?_;(with_reducible refine(br.c k _ _ l0 u _ ?aT ?aU A2.out).mono ?_);(case aT=>exact bF ap.out);(case aU=>exact ao.out);rintro e a9 ⟨aI,rfl,O,hb⟩;refine⟨_,rfl,?_⟩;have F:=A_ (Kd.cD O (aZ (oB z)));have G:=A_ (bb D hb);have I:=A_ (aV (oB z) hb);clear D z;have V:=F;have D:=G;have z:=I;clear F G I;(try clear hb);(try clear hb2);(try clear hk);(try clear hi);(try clear O);obtain⟨aL,aR,aH⟩:=Kd.cJ V.out;subst aH;have aY:=cz D 0;have a0:=cz D 1;have a3:=aD D.out 0;have a4:=aD D.out 1))
  refine bodyPost_ret (dW rfl _ _ J 62 #[.int .i64 0,.int .i64 0] (0,0) _ rfl (by(with_reducible repeat(first|refine bt ?_ _|refine bn ?_|refine bl ?_ _));refine cE (cs:= #[.int .i64 0,.int .i64 0]) ?_ 1 _ rfl;(with_reducible repeat(first|refine bt ?_ _|refine bn ?_|refine bl ?_ _));refine cE (cs:= #[.int .i64 0,.int .i64 0]) ?_ 0 _ rfl;(with_reducible repeat(first|refine bt ?_ _|refine bn ?_|refine bl ?_ _));exact D.out) Tryz.underlying62 rfl (by kernel_rfl)) rfl ?_;exact⟨eR,oB z⟩
 ·rw[aj c3]at H;have aB:((u.length:Int)==0)=false:=beq_eq_false_iff_ne.mpr c3;have aE:((u.length:Int) != 0)=true:=bne_iff_ne.mpr c3;have aN:¬(u=[]):=fun h_=>c3 (by rw[h_];rfl);by_cases c8:0<(u.length:Int)
  ·rw[ai c8]at H;have aO:decide (0<(u.length:Int))=true:=ah c8;have aP:decide (0<u.length)=true:=ah (by omega);clear c8;simp only[Option.some.injEq,Prod.mk.injEq]at H;obtain⟨rfl,rfl,rfl⟩:=H;go_enter Tryz.func117,Tryz.ntmps117
   go_wp2_with (first|((with_reducible refine aC (N:=2) rfl ?_);refine bX (N:=2) (cs:= #[.int .i64 0,.int .i64 0]) (t:=62) ?_;intro J hg a_ K hb;have F:=A_ (aV (oB z) hb);have G:=A_ (K);have I:=A_ ((by rw[hg];exact(aZ (oB z)):w.heap.size≤J));have U:=A_ ((by rw[hg];exact(aZ (oB z)):w.heap.size≤J));clear z;have z:=F;have D:=G;have av:=I;have au:=U;clear F G I U hb K hg)|((with_reducible refine bp (f:=135) rfl ?_);refine gL (some 6) Tryz.func135 #[.slice A0 l0.length c0] ?_;(with_reducible refine(br.c k _ _ l0 u _ ?aT ?aU A2.out).mono ?_);(case aT=>exact bF ap.out);(case aU=>exact ao.out);rintro e a7 ⟨aI,rfl,O,hb⟩;refine⟨_,rfl,?_⟩;have F:=A_ (Kd.cD O (aZ (oB z)));have G:=A_ (bb D hb);have I:=A_ (aV (oB z) hb);clear D z;have V:=F;have D:=G;have z:=I;clear F G I;(try clear hb);(try clear hb2);(try clear hk);(try clear hi);(try clear O);obtain⟨aJ,aQ,aG⟩:=Kd.cJ V.out;subst aG;have ak:0≤(0:Int):=(by omega);have al:0<(u.length:Int):=oD;obtain⟨aM,aF,X,ad,af,ag⟩:=eA (Kd.cr V.out).2.2 0 ak al;cases aF;have a6:(0<u.length)=True:=aw (by omega);(try rw[show((0:Int)).toNat=0 from rfl]at X);(try rw[show 0*4=0 from rfl]at X);(try rw[Addr.add_zero']at X);(try rw[show((0:Int)).toNat=0 from rfl]at ad);(try rw[show 0*4=0 from rfl]at ad);(try rw[Addr.add_zero']at ad);(try rw[show((0:Int)).toNat=0 from rfl]at af);(try rw[show 0*4=0 from rfl]at af);(try rw[Addr.add_zero']at af);(try rw[show((0:Int)).toNat=0 from rfl]at ag);(try rw[show 0*4=0 from rfl]at ag);(try rw[Addr.add_zero']at ag);replace ak:=aw ak;replace al:=aw al;have aS:=cz D 0;have aW:=cz D 1;have a1:=aD D.out 0;have a2:=aD D.out 1))
   refine bodyPost_ret (dW rfl _ _ J 62 #[.int .i64 ((aq u 0).f0.f0),.int .i64 ((aq u 0).f0.f1)] (0,0) _ rfl (by(with_reducible repeat(first|refine bt ?_ _|refine bn ?_|refine bl ?_ _));refine cE (cs:= #[.int .i64 ((aq u 0).f0.f0),.int .i64 0]) ?_ 1 _ rfl;(with_reducible repeat(first|refine bt ?_ _|refine bn ?_|refine bl ?_ _));refine cE (cs:= #[.int .i64 0,.int .i64 0]) ?_ 0 _ rfl;(with_reducible repeat(first|refine bt ?_ _|refine bn ?_|refine bl ?_ _));exact D.out) Tryz.underlying62 rfl (by kernel_rfl)) rfl ?_;exact⟨eR,oB z⟩
  ·rw[aj c8]at H;exact absurd H (by simp)
end P
namespace P
set_option maxHeartbeats 8000000
set_option maxRecDepth 100000
set_option synthInstance.maxHeartbeats 400000
set_option synthInstance.maxSize 100000
open Go.RowKit WW.bc WW.bY WW.bZ V
attribute [local go_sem] dB dC
attribute [local go_sem] cP cT cS cW cR cV cQ cU
def mz.f (k:Nat) (l0:List (S64)) (a1:Int):Option ((List (S64))×Bool):=(ny.f k l0).bind fun u=>(if u.2.2=true then((fU.f k l0 u.1 u.2.1 0 a1).bind fun z=>(some (z.1,z.2)))else((iz.f l0).bind fun D=>(some (D,false))))
theorem mz.c (k:Nat) (A0:Option Addr) (c0:Nat) (l0:List (S64)) (a1:Int) (r1:List (S64)) (r2:Bool) (w:World) (z:Kd.C aK w A0 l0.length l0) (hc0:l0.length≤c0) (h:mz.f k l0 a1=some (r1,r2)):
  Calls Tryz.prog 78 #[.slice A0 l0.length c0,.int .i64 a1] w fun e w'=>∃F:Value,e= .returned (.tuple #[F,.bool r2])∧Kd.R aK 64 w' w.heap.size (fun _=>True) F r1∧Below w.heap.size w w':=by
 replace z:=a6.mk z;replace hc0:=af.mk hc0;unfold mz.f at h;have H:=Tryz.underlying62
 all_goals go_enter Tryz.func78,Tryz.ntmps78
 all_goals go_wp2_with ((first
  |((with_reducible refine aC (N:=6) rfl ?_);refine bV #[.int .i64 0,.int .i64 0] 62 fun g w1 j1 j2 I=> ?_)
  |(go_at_call 117;replace h:=bI h;obtain⟨⟨t1,t2,t3⟩,A,h⟩:=h;(try dsimp only at h);refine(ny.c _ _ _ _ _ _ _ _ Rd.out af.out A).mono ?_;rintro e w2 ⟨rfl,hb⟩;have D:=au.mk hb;clear A hb)
  |(go_at_call 115;replace h:=bI h;obtain⟨⟨t1,t2⟩,A,h⟩:=h;(try dsimp only at h);refine(fU.c _ _ _ _ _ _ _ _ _ _ _ Rd.out af.out A).mono ?_;rintro e w2 ⟨v0,rfl,u,hb⟩;obtain⟨G,b0,rfl,j0,q0⟩:=av u;have D:=au.mk hb;clear A u hb)
  |(go_at_call 69;replace h:=bI h;obtain⟨t,A,h⟩:=h;(try dsimp only at h);refine(iz.c _ _ _ _ _ Rd.out af.out A).mono ?_;rintro e w2 ⟨v0,rfl,u,hb⟩;obtain⟨G,b0,rfl,j0,q0⟩:=av u;have D:=au.mk hb;clear A u hb));(repeat' first|((with_reducible replace h:=bC h);rcases h with ⟨hc,h⟩|⟨hc,h⟩<;>first|exact(bo h).elim|exact absurd hc (by decide)|subst hc|(replace hc:=aM hc;subst hc)|(have hd:=bw hc;have he:=bz hc;clear hc)|(have hd:=bA hc;have he:=bB hc)|(have hd:=ax hc)|(have hd:=ah hc)|skip));all_goals(try have hn:decide (0<t.length)=true:=ah (by omega));all_goals(try have hn:decide (0<t.length)=false:=ax (by omega)))
 all_goals simp only[Option.some.injEq,Prod.mk.injEq]at h
 all_goals obtain⟨rfl,rfl⟩:=h
 all_goals go_ret2
 all_goals exact⟨_,rfl,(by first|exact a8|exact Kd.aY _ _ _ _ _),From.out⟩
end P
namespace P
set_option maxRecDepth 100000
set_option synthInstance.maxHeartbeats 400000
set_option synthInstance.maxSize 100000
open Go.RowKit WW.bc WW.bY WW.bZ V
attribute [local go_sem] dB dC
attribute [local go_sem] cP cT cS cW cR cV cQ cU
def a7.f (k:Nat) (G:List (ag)) (F:Int) (H:List Int) (z:Int) (u:Int) (D:List (S64)):Option (Bool):=(cI.f k G F H).bind fun b=>some (b&&(Q.cO D&&(decide (-10≤z∧z≤40)&&(decide (0≤u∧u≤100000)&&decide (Q.ja D u)))))
def a7.T2:Bool×List (List Nat×List Nat):=(true,[([],[]),([0],[0]),([1],[1]),([2,2],[2]),([3],[3]),([4,3],[3,4]),([5,3,3],[3,5]),([3,6],[3,6]),([7,6],[7]),([8],[8]),([9,8],[8,9]),([10,8,8],[8,10]),([8,11],[8,11]),([12,11],[12]),([13],[13]),([14,13],[13,14]),([15,13,13],[13,15]),([13,16],[13,16]),([17,16],[17]),([18],[18]),([19,18],[18,19]),([20,18,18],[18,20]),([21],[21]),([22,21],[21,22]),([21],[21]),([24,21],[21,24]),([23,25,21],[21,23,25]),([26,21],[21,26]),([27,21],[21,27]),([21],[21]),([29,21],[21,29]),([28,30,21],[21,28,30]),([21,31,18],[18,21,31]),([18,32],[18,32]),([33,21,0,1,2,3,4,5,6,7,8,9,10,11,12,13,14,15,16,17,18,19,20,21,22,23,24,25,26,27,28,29,30,31,32,33],[33])])
def a7.B2:List Nat:=[0,1,3,7,15,31,63,127,255,511,1023,2047,4095,8191,16383,32767,65535,131071,262143,524287,1048575,2097151,4194303,8388607,4194303,20971519,67108863,134217727,268435455,4194303,541065215,2147483647,4294967295,8589934591,17179869183]
theorem a7.rV:aW .any (opsOf Tryz.f31 2)=a7.T2:=by kernel_rfl
theorem a7.qW:bL a7.T2.2 a7.B2=true:=by kernel_rfl
def a7.m (n:Nat):Array Bool:=((List.range 35).map (fun j=>decide (j<n))).toArray
attribute [local go_sem] gT
set_option maxHeartbeats 4000000 in
theorem a7.calls (k:Nat) (U:Option Addr) (X:Nat) (G:List (ag)) (O:Int) (V:Option Addr) (ad:Nat) (H:List Int) (F:Int) (D:Int) (al:Option Addr) (ak:Nat) (z:List (S64)) (r:Bool) (w:World) (aG:Kd.C aN w U G.length G) (aD:G.length≤X) (aH:Kd.C (Kd.int .i64) w V H.length H) (aE:H.length≤ad) (ao:Kd.C aK w al z.length z) (aF:z.length≤ak) (h:a7.f k G O H F D z=some r):
  Calls Tryz.prog 31 #[.agg #[.slice U G.length X,.int .i64 O,.slice V H.length ad,.int .i64 F,.int .i64 D,.slice al z.length ak]] w fun e w'=>e= .returned (.bool r)∧Below w.heap.size w w':=by
 obtain⟨b1,hb1,h⟩:=ay h;obtain⟨b2,hb2⟩:∃b,Q.cO z=b:=⟨_,rfl⟩;obtain⟨b3,hb3⟩:∃b,decide (-10≤F∧F≤40)=b:=⟨_,rfl⟩;obtain⟨b4,hb4⟩:∃b,decide (0≤D∧D≤100000)=b:=⟨_,rfl⟩;obtain⟨am,ap⟩:∃b,decide (Q.ja z D)=b:=⟨_,rfl⟩;have av:ae ((b1&&(b2&&(b3&&(b4&&am))))=r):=⟨by rw[←hb2,←hb3,←hb4,←ap];exact aA h⟩;have A1:ae (cI.f k G O H=some b1):=⟨hb1⟩;have A2:ae (iy.f k z=some b2):=⟨by rw[←hb2];rfl⟩;have aL:ae (cA.f F (-10) 40=some b3):=⟨by rw[←hb3];unfold cA.f;by_cases hh:F≥ -10<;>simp[hh]<;>omega⟩;have aM:ae (cA.f D 0 100000=some b4):=⟨by rw[←hb4];unfold cA.f;by_cases hh:D≥0<;>simp[hh]<;>omega⟩;have H5:=A_ ap;have aB:=A_ ao;have ar:=A_ (Kd.nH ao);have i0:=a6.mk aG;have i1:=af.mk aD;have i2:=a6.mk aH;have i3:=af.mk aE;have i4:=a6.mk ao;have i5:=af.mk aF;have hu:=Tryz.underlying30;clear aG aD aH aE ao aF h hb1 hb2 hb3 hb4 ap
 have hzz:z.length=0∨∃(J:Addr) (j:Nat) (y:S64),al=some J∧((z.length:Int)==0)=false∧((z.length:Int) != 0)=true∧wrap64 ((z.length:Int)-1)=(j:Int)∧IntKind.i64.wrap ((z.length:Int)-1)=(j:Int)∧(j:Int)<(z.length:Int)∧j<z.length∧dP w ⟨(J.add (j*4)).block,(J.add (j*4)).off+3,none⟩ (.int .i64 y.f2)∧decide (y.f2≤D)=am:=by
  by_cases hz:z.length=0
  ·exact .inl hz
  right;obtain⟨j,hj⟩:∃j,j+1=z.length:=⟨z.length-1,by omega⟩;have hM:=ar.out;obtain⟨J,e2,_,_,_,aI⟩:=eA aB.out (j:Int) (by omega) (by omega);have hw1:wrap64 ((z.length:Int)-1)=(j:Int):=by unfold wrap64;omega
  simp only[Int.toNat_natCast]at aI;refine⟨J,j,aq z (j:Int),e2,beq_eq_false_iff_ne.mpr (by omega),bne_iff_ne.mpr (by omega),hw1,by rw[bJ];exact hw1,by omega,by omega,⟨aI⟩,?_⟩;rw[←H5.out];refine decide_eq_decide.mpr ?_;unfold Q.ja;rw[show z.length-1=j by omega];simp[aq,hz]
 have aO:(b1=false∧r=false)∨(b1=true∧b2=false∧r=false)∨(b1=true∧b2=true∧b3=false∧r=false)∨(b1=true∧b2=true∧b3=true∧b4=false∧r=false)∨(b1=true∧b2=true∧b3=true∧b4=true∧am=r):=by
  have:=av.out;cases b1<;>cases b2<;>cases b3<;>cases b4<;>simp_all
 replace hzz:=hzz.imp (fun hz=>(⟨by rw[←H5.out];exact(ah (.inl hz)).symm,beq_iff_eq.mpr (by omega),bne_eq_false_iff_eq.mpr (by omega)⟩:true=am∧((z.length:Int)==0)=true∧((z.length:Int) != 0)=false)) id;clear av H5 aB ar;rcases aO with ⟨rfl,rfl⟩|⟨rfl,rfl,rfl⟩|⟨rfl,rfl,rfl,rfl⟩|⟨rfl,rfl,rfl,rfl,rfl⟩|⟨rfl,rfl,rfl,rfl,rfl⟩
 rotate_right
 rcases hzz with ⟨rfl,aQ,z2⟩|⟨J,j,y,rfl,aQ,z2,z3,z4,z5,aS,aT,aU⟩
 all_goals try clear hzz
 all_goals go_enter Tryz.func31,Tryz.ntmps31
 all_goals go_wp2_with (first|((with_reducible refine aC (N:=1) rfl ?_);(try(refine iY (by rfl) ?_;dsimp only));(first|refine lY rfl (N:=1) rfl (cs:= #[.slice U G.length X,.int .i64 O,.slice V H.length ad,.int .i64 F,.int .i64 D,.slice al z.length ak]) (t:=30) (by first|(go_simp;done)|(go_simp;rfl)) ?_|refine lY rfl (N:=1) rfl (cs:= #[.slice U G.length X,.int .i64 O,.slice V H.length ad,.int .i64 F,.int .i64 D,.slice (some J) z.length ak]) (t:=30) (by first|(go_simp;done)|(go_simp;rfl)) ?_);intro g hg w1 hk hb;have j1:=fY.mk hg;have j2:=au.mk hb;have aR:=aJ.mk hk;clear hg hb hk))
 all_goals(refine fX (n:=35) (S:=fun w'=>Below w1.heap.size w1 w') (ds:=[]) (a7.m 0) (by kernel_rfl) rfl (by kernel_rfl) From.out (fun hHeld=> ?_);refine gQ a7.rV a7.qW (fun u I=> ?_))
 all_goals first|(refine pA 0 (some 7) u.out ?_ (l':=(a7.m 1)) (hl:=by rfl))|(refine pU 0 (some 7) u.out ?_ (l':=(a7.m 1)) (hl:=by rfl))
 all_goals first|(refine pT 1 (some 8) u.out I.out hHeld ?_ (l':=(a7.m 2)) (hl:=by rfl) (hy:=by intro w' hS;have jS:fz w1 w':=⟨hS⟩;go_simp;with_reducible rfl))|(refine pU 1 (some 8) u.out ?_ (l':=(a7.m 2)) (hl:=by rfl))
 all_goals first|(refine dN (i:=2) (N:=some 9) (a7.m 3) rfl rfl (dF u.out (by kernel_rfl)) (by decide) (fun K hK=> ?_);refine cG Tryz.func70 (by kernel_rfl) rfl #[.agg #[.slice U G.length X,.int .i64 O,.slice V H.length ad]] (by rfl) rfl rfl (by(try simp only[List.map_toArray,List.map_cons,List.map_nil]);first|done|rfl) ?_;refine(cI.c k _ _ _ _ _ _ _ _ _ Rd.out af.out Rd.out af.out A1.out).mono ?_;rintro e w2 ⟨rfl,hb⟩;have aP:=au.mk hb;clear hb;refine⟨_,rfl,?_⟩;refine hK.out _ _ From.out (fun hHeld=> ?_);clear hK K;refine dS (a':= ?_) ?_ ?_;rotate_left;(focus (show Act.put _ (some 9) _=_;simp only[Act.put,List.setIfInBounds_toArray,List.set_cons_zero,List.set_cons_succ,bJ,cu];rfl)))|(refine pU 2 (some 9) u.out ?_ (l':=(a7.m 3)) (hl:=by rfl))
 all_goals first|(refine pA 3 (some 10) u.out ?_ (l':=(a7.m 4)) (hl:=by rfl))|(refine pU 3 (some 10) u.out ?_ (l':=(a7.m 4)) (hl:=by rfl))
 all_goals first|(refine pA 4 (some 11) u.out ?_ (l':=(a7.m 5)) (hl:=by rfl))|(refine pU 4 (some 11) u.out ?_ (l':=(a7.m 5)) (hl:=by rfl))
 all_goals first|(refine pT 5 (some 12) u.out I.out hHeld ?_ (l':=(a7.m 6)) (hl:=by rfl) (hy:=by intro w' hS;have jS:fz w1 w':=⟨hS⟩;go_simp;with_reducible rfl))|(refine pU 5 (some 12) u.out ?_ (l':=(a7.m 6)) (hl:=by rfl))
 all_goals first|(refine dN (i:=6) (N:=some 13) (a7.m 7) rfl rfl (dF u.out (by kernel_rfl)) (by decide) (fun K hK=> ?_);refine cG Tryz.func71 (by kernel_rfl) rfl #[.slice _ z.length ak] (by rfl) rfl rfl (by(try simp only[List.map_toArray,List.map_cons,List.map_nil]);first|done|rfl) ?_;refine(iy.c k _ _ _ _ _ Rd.out af.out A2.out).mono ?_;rintro e w2 ⟨rfl,hb⟩;have aP:=au.mk hb;clear hb;refine⟨_,rfl,?_⟩;refine hK.out _ _ From.out (fun hHeld=> ?_);clear hK K;refine dS (a':= ?_) ?_ ?_;rotate_left;(focus (show Act.put _ (some 13) _=_;simp only[Act.put,List.setIfInBounds_toArray,List.set_cons_zero,List.set_cons_succ,bJ,cu];rfl)))|(refine pU 6 (some 13) u.out ?_ (l':=(a7.m 7)) (hl:=by rfl))
 all_goals first|(refine pA 7 (some 14) u.out ?_ (l':=(a7.m 8)) (hl:=by rfl))|(refine pU 7 (some 14) u.out ?_ (l':=(a7.m 8)) (hl:=by rfl))
 all_goals first|(refine pA 8 (some 15) u.out ?_ (l':=(a7.m 9)) (hl:=by rfl))|(refine pU 8 (some 15) u.out ?_ (l':=(a7.m 9)) (hl:=by rfl))
 all_goals first|(refine pA 9 (some 16) u.out ?_ (l':=(a7.m 10)) (hl:=by rfl))|(refine pU 9 (some 16) u.out ?_ (l':=(a7.m 10)) (hl:=by rfl))
 all_goals first|(refine pT 10 (some 17) u.out I.out hHeld ?_ (l':=(a7.m 11)) (hl:=by rfl) (hy:=by intro w' hS;have jS:fz w1 w':=⟨hS⟩;go_simp;with_reducible rfl))|(refine pU 10 (some 17) u.out ?_ (l':=(a7.m 11)) (hl:=by rfl))
 all_goals first|(refine dN (i:=11) (N:=some 18) (a7.m 12) rfl rfl (dF u.out (by kernel_rfl)) (by decide) (fun K hK=> ?_);refine cG Tryz.func72 (by kernel_rfl) rfl #[.int .i64 F,.int .i64 (-10),.int .i64 40] (by rfl) rfl rfl (by(try simp only[List.map_toArray,List.map_cons,List.map_nil]);first|done|rfl) ?_;refine(cA.c _ _ _ _ _ aL.out).mono ?_;rintro e w2 ⟨rfl,n,rfl⟩;refine⟨_,rfl,?_⟩;refine hK.out _ _ From.out (fun hHeld=> ?_);clear hK K;refine dS (a':= ?_) ?_ ?_;rotate_left;(focus (show Act.put _ (some 18) _=_;simp only[Act.put,List.setIfInBounds_toArray,List.set_cons_zero,List.set_cons_succ,bJ,cu];rfl)))|(refine pU 11 (some 18) u.out ?_ (l':=(a7.m 12)) (hl:=by rfl))
 all_goals first|(refine pA 12 (some 19) u.out ?_ (l':=(a7.m 13)) (hl:=by rfl))|(refine pU 12 (some 19) u.out ?_ (l':=(a7.m 13)) (hl:=by rfl))
 all_goals first|(refine pA 13 (some 20) u.out ?_ (l':=(a7.m 14)) (hl:=by rfl))|(refine pU 13 (some 20) u.out ?_ (l':=(a7.m 14)) (hl:=by rfl))
 all_goals first|(refine pA 14 (some 21) u.out ?_ (l':=(a7.m 15)) (hl:=by rfl))|(refine pU 14 (some 21) u.out ?_ (l':=(a7.m 15)) (hl:=by rfl))
 all_goals first|(refine pT 15 (some 22) u.out I.out hHeld ?_ (l':=(a7.m 16)) (hl:=by rfl) (hy:=by intro w' hS;have jS:fz w1 w':=⟨hS⟩;go_simp;with_reducible rfl))|(refine pU 15 (some 22) u.out ?_ (l':=(a7.m 16)) (hl:=by rfl))
 all_goals first|(refine dN (i:=16) (N:=some 23) (a7.m 17) rfl rfl (dF u.out (by kernel_rfl)) (by decide) (fun K hK=> ?_);refine cG Tryz.func72 (by kernel_rfl) rfl #[.int .i64 D,.int .i64 0,.int .i64 100000] (by rfl) rfl rfl (by(try simp only[List.map_toArray,List.map_cons,List.map_nil]);first|done|rfl) ?_;refine(cA.c _ _ _ _ _ aM.out).mono ?_;rintro e w2 ⟨rfl,n,rfl⟩;refine⟨_,rfl,?_⟩;refine hK.out _ _ From.out (fun hHeld=> ?_);clear hK K;refine dS (a':= ?_) ?_ ?_;rotate_left;(focus (show Act.put _ (some 23) _=_;simp only[Act.put,List.setIfInBounds_toArray,List.set_cons_zero,List.set_cons_succ,bJ,cu];rfl)))|(refine pU 16 (some 23) u.out ?_ (l':=(a7.m 17)) (hl:=by rfl))
 all_goals first|(refine pA 17 (some 24) u.out ?_ (l':=(a7.m 18)) (hl:=by rfl))|(refine pU 17 (some 24) u.out ?_ (l':=(a7.m 18)) (hl:=by rfl))
 all_goals first|(refine pA 18 (some 25) u.out ?_ (l':=(a7.m 19)) (hl:=by rfl))|(refine pU 18 (some 25) u.out ?_ (l':=(a7.m 19)) (hl:=by rfl))
 all_goals first|(refine pA 19 (some 26) u.out ?_ (l':=(a7.m 20)) (hl:=by rfl))|(refine pU 19 (some 26) u.out ?_ (l':=(a7.m 20)) (hl:=by rfl))
 all_goals first|(refine pA 20 (some 27) u.out ?_ (l':=(a7.m 21)) (hl:=by rfl))|(refine pU 20 (some 27) u.out ?_ (l':=(a7.m 21)) (hl:=by rfl))
 all_goals first|(refine pA 21 (some 28) u.out ?_ (l':=(a7.m 22)) (hl:=by rfl))|(refine pU 21 (some 28) u.out ?_ (l':=(a7.m 22)) (hl:=by rfl))
 all_goals first|(refine pA 22 (some 29) u.out ?_ (l':=(a7.m 23)) (hl:=by rfl))|(refine pU 22 (some 29) u.out ?_ (l':=(a7.m 23)) (hl:=by rfl))
 all_goals first|(refine pT 23 (some 30) u.out I.out hHeld ?_ (l':=(a7.m 24)) (hl:=by rfl) (hy:=by intro w' hS;have jS:fz w1 w':=⟨hS⟩;go_simp;with_reducible rfl))|(refine pU 23 (some 30) u.out ?_ (l':=(a7.m 24)) (hl:=by rfl))
 all_goals first|(refine pA 24 (some 31) u.out ?_ (l':=(a7.m 25)) (hl:=by rfl))|(refine pU 24 (some 31) u.out ?_ (l':=(a7.m 25)) (hl:=by rfl))
 all_goals first|(refine pA 25 (some 32) u.out ?_ (l':=(a7.m 26)) (hl:=by rfl))|(refine pU 25 (some 32) u.out ?_ (l':=(a7.m 26)) (hl:=by rfl))
 all_goals first|(refine pA 26 (some 33) u.out ?_ (l':=(a7.m 27)) (hl:=by rfl))|(refine pU 26 (some 33) u.out ?_ (l':=(a7.m 27)) (hl:=by rfl))
 all_goals first|(refine pA 27 (some 34) u.out ?_ (l':=(a7.m 28)) (hl:=by rfl))|(refine pU 27 (some 34) u.out ?_ (l':=(a7.m 28)) (hl:=by rfl))
 all_goals first|(refine pT 28 (some 35) u.out I.out hHeld ?_ (l':=(a7.m 29)) (hl:=by rfl) (hy:=by intro w' hS;have jS:fz w1 w':=⟨hS⟩;go_simp;with_reducible rfl))|(refine pU 28 (some 35) u.out ?_ (l':=(a7.m 29)) (hl:=by rfl))
 all_goals first|(refine pA 29 (some 36) u.out ?_ (l':=(a7.m 30)) (hl:=by rfl))|(refine pU 29 (some 36) u.out ?_ (l':=(a7.m 30)) (hl:=by rfl))
 all_goals first|(refine pT 30 (some 37) u.out I.out hHeld ?_ (l':=(a7.m 31)) (hl:=by rfl) (hy:=by intro w' hS;have jS:fz w1 w':=⟨hS⟩;go_simp;with_reducible rfl))|(refine pU 30 (some 37) u.out ?_ (l':=(a7.m 31)) (hl:=by rfl))
 all_goals first|(refine pA 31 (some 38) u.out ?_ (l':=(a7.m 32)) (hl:=by rfl))|(refine pU 31 (some 38) u.out ?_ (l':=(a7.m 32)) (hl:=by rfl))
 all_goals first|(refine pA 32 (some 39) u.out ?_ (l':=(a7.m 33)) (hl:=by rfl))|(refine pU 32 (some 39) u.out ?_ (l':=(a7.m 33)) (hl:=by rfl))
 all_goals first|(refine pA 33 (some 40) u.out ?_ (l':=(a7.m 34)) (hl:=by rfl))|(refine pU 33 (some 40) u.out ?_ (l':=(a7.m 34)) (hl:=by rfl))
 all_goals first|(refine pA 34 (some 2) u.out ?_ (l':=(a7.m 35)) (hl:=by rfl))|(refine pU 34 (some 2) u.out ?_ (l':=(a7.m 35)) (hl:=by rfl))
 all_goals refine fH (gb u.out (by kernel_rfl)) ?_
 all_goals try go_wp2
 all_goals go_ret
 all_goals exact⟨by first|rfl|(simp[*];done),From.out⟩
end P
namespace P
set_option maxHeartbeats 8000000
set_option maxRecDepth 100000
set_option synthInstance.maxHeartbeats 400000
set_option synthInstance.maxSize 100000
open Go.RowKit WW.bc WW.bY WW.bZ V
attribute [local go_sem] dB dC
attribute [local go_sem] cP cT cS cW cR cV cQ cU
def kv.f (k:Nat) (D:List (ag)) (z:Int) (F:List Int) (I:Int) (J:Int) (K:List (S64)):Option ((List (ag))×Int×List Int×Int×Int×(List (S64))×Bool):=(fp.f D z F I J K).bind fun u=>((a7.f k D z F I J K).bind fun O=>(if O=true then((dz.f k D z F).bind fun U=>(if(U.length:Int)>0 then((eF.f k D z F).bind fun G=>(some (G.1,G.2.1,G.2.2.1,u.2.2.2.1,u.2.2.2.2.1,u.2.2.2.2.2,G.2.2.2)))else((eM.f k D z F).bind fun H=>(some (H.1,H.2.1,H.2.2.1,u.2.2.2.1,u.2.2.2.2.1,u.2.2.2.2.2,H.2.2.2)))))else(some (u.1,u.2.1,u.2.2.1,u.2.2.2.1,u.2.2.2.2.1,u.2.2.2.2.2,false))))
theorem kv.c (k:Nat) (I:Option Addr) (ad:Nat) (D:List (ag)) (U:Int) (J:Option Addr) (ak:Nat) (F:List Int) (V:Int) (X:Int) (K:Option Addr) (al:Nat) (G:List (S64)) (r1:List (ag)) (r2:Int) (r3:List Int) (aF:Int) (aG:Int) (aH:List (S64)) (aI:Bool) (w:World) (ar:Kd.C aN w I D.length D) (am:D.length≤ad) (aB:Kd.C (Kd.int .i64) w J F.length F) (ao:F.length≤ak) (aD:Kd.C aK w K G.length G) (ap:G.length≤al) (h:kv.f k D U F V X G=some (r1,r2,r3,aF,aG,aH,aI)):
  Calls Tryz.prog 74 #[.agg #[.slice I D.length ad,.int .i64 U,.slice J F.length ak,.int .i64 V,.int .i64 X,.slice K G.length al]] w fun e w'=>∃aL aO aP:Value,e= .returned (.tuple #[.agg #[aL,.int .i64 r2,aO,.int .i64 aF,.int .i64 aG,aP],.bool aI])∧Kd.R aN 110 w' w.heap.size (fun _=>True) aL r1∧Kd.R (Kd.int .i64) 3 w' w.heap.size (fun _=>True) aO r3∧Kd.R aK 64 w' w.heap.size (fun _=>True) aP aH∧Below w.heap.size w w':=by
 replace ar:=a6.mk ar;replace am:=af.mk am;replace aB:=a6.mk aB;replace ao:=af.mk ao;replace aD:=a6.mk aD;replace ap:=af.mk ap;unfold kv.f at h;have aQ:=Tryz.underlying30
 all_goals go_enter Tryz.func74,Tryz.ntmps74
 all_goals go_wp2_with ((first
  |((with_reducible refine aC (N:=1) rfl ?_);refine bV #[.slice I D.length ad,.int .i64 U,.slice J F.length ak,.int .i64 V,.int .i64 X,.slice K G.length al] 30 fun g w1 j1 j2 aE=> ?_)
  |((with_reducible refine aC (N:=2) rfl ?_);refine bV #[.slice none 0 0,.int .i64 0,.slice none 0 0,.int .i64 0,.int .i64 0,.slice none 0 0] 30 fun g w1 j1 j2 aE=> ?_)
  |((with_reducible refine aC (N:=4) rfl ?_);refine bV #[.slice none 0 0,.int .i64 0,.slice none 0 0,.int .i64 0,.int .i64 0,.slice none 0 0] 30 fun g w1 j1 j2 aE=> ?_)
  |(go_at_call 30;replace h:=bI h;obtain⟨⟨t1,t2,t3,t4,t5,t6⟩,A,h⟩:=h;(try dsimp only at h);refine(fp.c _ _ _ _ _ _ _ _ _ _ _ _ _ _ _ _ _ _ _ Rd.out af.out Rd.out af.out Rd.out af.out A).mono ?_;rintro e w2 ⟨v0,v1,v2,rfl,u,z,aq,hb⟩;obtain⟨O,b0,rfl,j0,q0⟩:=av u;obtain⟨B1,b1,rfl,j1,q1⟩:=av z;obtain⟨B2,b2,rfl,j2,q2⟩:=av aq;have H:=au.mk hb;clear A u z aq hb)
  |(go_at_call 31;replace h:=bI h;obtain⟨t,A,h⟩:=h;(try dsimp only at h);refine(a7.calls _ _ _ _ _ _ _ _ _ _ _ _ _ _ _ Rd.out af.out Rd.out af.out Rd.out af.out A).mono ?_;rintro e w2 ⟨rfl,hb⟩;have H:=au.mk hb;clear A hb)
  |(go_at_call 112;replace h:=bI h;obtain⟨t,A,h⟩:=h;(try dsimp only at h);refine(dz.c _ _ _ _ _ _ _ _ _ _ Rd.out af.out Rd.out af.out A).mono ?_;rintro e w2 ⟨v0,rfl,u,hb⟩;obtain⟨O,b0,rfl,j0,q0⟩:=av u;have H:=au.mk hb;clear A u hb)
  |(go_at_call 113;replace h:=bI h;obtain⟨⟨t1,t2,t3,t4⟩,A,h⟩:=h;(try dsimp only at h);refine(eF.c _ _ _ _ _ _ _ _ _ _ _ _ _ Rd.out af.out Rd.out af.out A).mono ?_;rintro e w2 ⟨v0,v1,rfl,u,z,hb⟩;obtain⟨O,b0,rfl,j0,q0⟩:=av u;obtain⟨B1,b1,rfl,j1,q1⟩:=av z;have H:=au.mk hb;clear A u z hb)
  |(go_at_call 114;replace h:=bI h;obtain⟨⟨t1,t2,t3,t4⟩,A,h⟩:=h;(try dsimp only at h);refine(eM.c _ _ _ _ _ _ _ _ _ _ _ _ _ Rd.out af.out Rd.out af.out A).mono ?_;rintro e w2 ⟨v0,v1,rfl,u,z,hb⟩;obtain⟨O,b0,rfl,j0,q0⟩:=av u;obtain⟨B1,b1,rfl,j1,q1⟩:=av z;have H:=au.mk hb;clear A u z hb));(repeat' first|((with_reducible replace h:=bC h);rcases h with ⟨hc,h⟩|⟨hc,h⟩<;>first|exact(bo h).elim|exact absurd hc (by decide)|subst hc|(replace hc:=aM hc;subst hc)|(have hd:=bw hc;have he:=bz hc;clear hc)|(have hd:=bA hc;have he:=bB hc)|(have hd:=ax hc)|(have hd:=ah hc)|skip));all_goals(try have hn:decide (0<t.length)=true:=ah (by omega));all_goals(try have hn:decide (0<t.length)=false:=ax (by omega)))
 all_goals simp only[Option.some.injEq,Prod.mk.injEq]at h
 all_goals obtain⟨rfl,rfl,rfl,rfl,rfl,rfl,rfl⟩:=h
 all_goals refine bodyPost_ret (dW rfl _ _ _ _ _ (0,0) _ rfl aJ.out Tryz.underlying30 rfl (by kernel_rfl)) rfl ?_
 all_goals exact⟨_,_,_,rfl,(by first|exact a8|exact Kd.aY _ _ _ _ _),(by first|exact a8|exact Kd.aY _ _ _ _ _),(by first|exact a8|exact Kd.aY _ _ _ _ _),From.out⟩
def ky.f (k:Nat) (J:List (ag)) (H:Int) (K:List Int) (I:Int) (z:Int) (O:List (S64)) (a1:Int):Option ((List (ag))×Int×List Int×Int×Int×(List (S64))×Bool):=(fp.f J H K I z O).bind fun u=>((a7.f k J H K I z O).bind fun U=>(if U=true then(if z=100000 then((fp.f J H K I z O).bind fun D=>(some (D.1,D.2.1,D.2.2.1,D.2.2.2.1,D.2.2.2.2.1,D.2.2.2.2.2,false)))else((a7.f k u.1 u.2.1 u.2.2.1 a1 u.2.2.2.2.1 u.2.2.2.2.2).bind fun V=>(if V=true then(some (u.1,u.2.1,u.2.2.1,a1,wrap64 (z+1),u.2.2.2.2.2,true))else((fp.f J H K I z O).bind fun F=>(some (F.1,F.2.1,F.2.2.1,F.2.2.2.1,F.2.2.2.2.1,F.2.2.2.2.2,false))))))else((fp.f J H K I z O).bind fun G=>(some (G.1,G.2.1,G.2.2.1,G.2.2.2.1,G.2.2.2.2.1,G.2.2.2.2.2,false)))))
theorem ky.c (k:Nat) (F:Option Addr) (O:Nat) (u:List (ag)) (I:Int) (G:Option Addr) (U:Nat) (z:List Int) (J:Int) (K:Int) (H:Option Addr) (V:Nat) (D:List (S64)) (a1:Int) (r1:List (ag)) (r2:Int) (r3:List Int) (aD:Int) (aE:Int) (aF:List (S64)) (aG:Bool) (w:World) (ap:Kd.C aN w F u.length u) (X:u.length≤O) (aq:Kd.C (Kd.int .i64) w G z.length z) (ad:z.length≤U) (ar:Kd.C aK w H D.length D) (ak:D.length≤V) (h:ky.f k u I z J K D a1=some (r1,r2,r3,aD,aE,aF,aG)):
  Calls Tryz.prog 75 #[.agg #[.slice F u.length O,.int .i64 I,.slice G z.length U,.int .i64 J,.int .i64 K,.slice H D.length V],.int .i64 a1] w fun e w'=>∃aH aI aL:Value,e= .returned (.tuple #[.agg #[aH,.int .i64 r2,aI,.int .i64 aD,.int .i64 aE,aL],.bool aG])∧Kd.R aN 110 w' w.heap.size (fun _=>True) aH r1∧Kd.R (Kd.int .i64) 3 w' w.heap.size (fun _=>True) aI r3∧Kd.R aK 64 w' w.heap.size (fun _=>True) aL aF∧Below w.heap.size w w':=by
 replace ap:=a6.mk ap;replace X:=af.mk X;replace aq:=a6.mk aq;replace ad:=af.mk ad;replace ar:=a6.mk ar;replace ak:=af.mk ak;unfold ky.f at h;have aQ:=Tryz.underlying30
 all_goals go_enter Tryz.func75,Tryz.ntmps75
 all_goals go_wp2_with ((first
  |((with_reducible refine aC (N:=2) rfl ?_);refine bV #[.slice F u.length O,.int .i64 I,.slice G z.length U,.int .i64 J,.int .i64 K,.slice H D.length V] 30 fun g w1 j1 j2 aB=> ?_)
  |((with_reducible refine aC (N:=4) rfl ?_);refine bV #[.slice none 0 0,.int .i64 0,.slice none 0 0,.int .i64 0,.int .i64 0,.slice none 0 0] 30 fun g w1 j1 j2 aB=> ?_)
  |((with_reducible refine aC (N:=6) rfl ?_);refine bV #[.slice none 0 0,.int .i64 0,.slice none 0 0,.int .i64 0,.int .i64 0,.slice none 0 0] 30 fun g w1 j1 j2 aB=> ?_)
  |(go_at_call 30;replace h:=bI h;obtain⟨⟨t1,t2,t3,t4,t5,t6⟩,A,h⟩:=h;(try dsimp only at h);refine(fp.c _ _ _ _ _ _ _ _ _ _ _ _ _ _ _ _ _ _ _ Rd.out af.out Rd.out af.out Rd.out af.out A).mono ?_;rintro e w2 ⟨v0,v1,v2,rfl,al,am,ao,hb⟩;obtain⟨aP,b0,rfl,j0,q0⟩:=av al;obtain⟨B1,b1,rfl,j1,q1⟩:=av am;obtain⟨B2,b2,rfl,j2,q2⟩:=av ao;have aO:=au.mk hb;clear A al am ao hb)
  |(go_at_call 31;replace h:=bI h;obtain⟨t,A,h⟩:=h;(try dsimp only at h);refine(a7.calls _ _ _ _ _ _ _ _ _ _ _ _ _ _ _ Rd.out af.out Rd.out af.out Rd.out af.out A).mono ?_;rintro e w2 ⟨rfl,hb⟩;have aO:=au.mk hb;clear A hb));(repeat' first|((with_reducible replace h:=bC h);rcases h with ⟨hc,h⟩|⟨hc,h⟩<;>first|exact(bo h).elim|exact absurd hc (by decide)|subst hc|(replace hc:=aM hc;subst hc)|(have hd:=bw hc;have he:=bz hc;clear hc)|(have hd:=bA hc;have he:=bB hc)|(have hd:=ax hc)|(have hd:=ah hc)|skip)))
 all_goals simp only[Option.some.injEq,Prod.mk.injEq]at h
 all_goals obtain⟨rfl,rfl,rfl,rfl,rfl,rfl,rfl⟩:=h
 all_goals refine bodyPost_ret (dW rfl _ _ _ _ _ (0,0) _ rfl aJ.out Tryz.underlying30 rfl (by kernel_rfl)) rfl ?_
 all_goals exact⟨_,_,_,rfl,(by first|exact a8|exact Kd.aY _ _ _ _ _),(by first|exact a8|exact Kd.aY _ _ _ _ _),(by first|exact a8|exact Kd.aY _ _ _ _ _),From.out⟩
def kr.f (k:Nat) (I:List (ag)) (F:Int) (J:List Int) (G:Int) (z:Int) (D:List (S64)) (K:Int) (O:Int) (a2:Int):Option ((List (ag))×Int×List Int×Int×Int×(List (S64))×Bool):=(fp.f I F J G z D).bind fun u=>((fU.f k D K O a2 z).bind fun H=>((a7.f k I F J G z D).bind fun U=>(if U=true then(if H.2=true then(some (u.1,u.2.1,u.2.2.1,u.2.2.2.1,u.2.2.2.2.1,H.1,true))else(some (u.1,u.2.1,u.2.2.1,u.2.2.2.1,u.2.2.2.2.1,u.2.2.2.2.2,false)))else(some (u.1,u.2.1,u.2.2.1,u.2.2.2.1,u.2.2.2.2.1,u.2.2.2.2.2,false)))))
theorem kr.c (k:Nat) (G:Option Addr) (X:Nat) (u:List (ag)) (J:Int) (H:Option Addr) (ad:Nat) (z:List Int) (K:Int) (O:Int) (I:Option Addr) (ak:Nat) (D:List (S64)) (U:Int) (V:Int) (a2:Int) (r1:List (ag)) (r2:Int) (r3:List Int) (aG:Int) (aH:Int) (aI:List (S64)) (aL:Bool) (w:World) (aB:Kd.C aN w G u.length u) (am:u.length≤X) (aD:Kd.C (Kd.int .i64) w H z.length z) (ao:z.length≤ad) (aE:Kd.C aK w I D.length D) (ap:D.length≤ak) (h:kr.f k u J z K O D U V a2=some (r1,r2,r3,aG,aH,aI,aL)):
  Calls Tryz.prog 76 #[.agg #[.slice G u.length X,.int .i64 J,.slice H z.length ad,.int .i64 K,.int .i64 O,.slice I D.length ak],.agg #[.int .i64 U,.int .i64 V],.int .i64 a2] w fun e w'=>∃aO aP aQ:Value,e= .returned (.tuple #[.agg #[aO,.int .i64 r2,aP,.int .i64 aG,.int .i64 aH,aQ],.bool aL])∧Kd.R aN 110 w' w.heap.size (fun _=>True) aO r1∧Kd.R (Kd.int .i64) 3 w' w.heap.size (fun _=>True) aP r3∧Kd.R aK 64 w' w.heap.size (fun _=>True) aQ aI∧Below w.heap.size w w':=by
 replace aB:=a6.mk aB;replace am:=af.mk am;replace aD:=a6.mk aD;replace ao:=af.mk ao;replace aE:=a6.mk aE;replace ap:=af.mk ap;unfold kr.f at h;have aS:=Tryz.underlying30;have aT:=Tryz.underlying62
 all_goals go_enter Tryz.func76,Tryz.ntmps76
 all_goals go_wp2_with ((first
  |((with_reducible refine aC (N:=3) rfl ?_);refine bV #[.slice G u.length X,.int .i64 J,.slice H z.length ad,.int .i64 K,.int .i64 O,.slice I D.length ak] 30 fun g w1 j1 j2 al=> ?_)
  |((with_reducible refine aC (N:=4) rfl ?_);refine bV #[.int .i64 U,.int .i64 V] 62 fun g w1 j1 j2 al=> ?_)
  |((with_reducible refine aC (N:=6) rfl ?_);refine bV #[.slice none 0 0,.int .i64 0,.slice none 0 0,.int .i64 0,.int .i64 0,.slice none 0 0] 30 fun g w1 j1 j2 al=> ?_)
  |((with_reducible refine aC (N:=8) rfl ?_);refine bV #[.slice none 0 0,.int .i64 0,.slice none 0 0,.int .i64 0,.int .i64 0,.slice none 0 0] 30 fun g w1 j1 j2 al=> ?_)
  |(go_at_call 30;replace h:=bI h;obtain⟨⟨t1,t2,t3,t4,t5,t6⟩,A,h⟩:=h;(try dsimp only at h);refine(fp.c _ _ _ _ _ _ _ _ _ _ _ _ _ _ _ _ _ _ _ Rd.out af.out Rd.out af.out Rd.out af.out A).mono ?_;rintro e w2 ⟨v0,v1,v2,rfl,F,aq,ar,hb⟩;obtain⟨aR,b0,rfl,j0,q0⟩:=av F;obtain⟨B1,b1,rfl,j1,q1⟩:=av aq;obtain⟨B2,b2,rfl,j2,q2⟩:=av ar;have aF:=au.mk hb;clear A F aq ar hb)
  |(go_at_call 115;replace h:=bI h;obtain⟨⟨t1,t2⟩,A,h⟩:=h;(try dsimp only at h);refine(fU.c _ _ _ _ _ _ _ _ _ _ _ Rd.out af.out A).mono ?_;rintro e w2 ⟨v0,rfl,F,hb⟩;obtain⟨aR,b0,rfl,j0,q0⟩:=av F;have aF:=au.mk hb;clear A F hb)
  |(go_at_call 31;replace h:=bI h;obtain⟨t,A,h⟩:=h;(try dsimp only at h);refine(a7.calls _ _ _ _ _ _ _ _ _ _ _ _ _ _ _ Rd.out af.out Rd.out af.out Rd.out af.out A).mono ?_;rintro e w2 ⟨rfl,hb⟩;have aF:=au.mk hb;clear A hb));(repeat' first|((with_reducible replace h:=bC h);rcases h with ⟨hc,h⟩|⟨hc,h⟩<;>first|exact(bo h).elim|exact absurd hc (by decide)|subst hc|(replace hc:=aM hc;subst hc)|(have hd:=bw hc;have he:=bz hc;clear hc)|(have hd:=bA hc;have he:=bB hc)|(have hd:=ax hc)|(have hd:=ah hc)|skip)))
 all_goals simp only[Option.some.injEq,Prod.mk.injEq]at h
 all_goals obtain⟨rfl,rfl,rfl,rfl,rfl,rfl,rfl⟩:=h
 all_goals refine bodyPost_ret (dW rfl _ _ _ _ _ (0,0) _ rfl aJ.out Tryz.underlying30 rfl (by kernel_rfl)) rfl ?_
 all_goals exact⟨_,_,_,rfl,(by first|exact a8|exact Kd.aY _ _ _ _ _),(by first|exact a8|exact Kd.aY _ _ _ _ _),(by first|exact a8|exact Kd.aY _ _ _ _ _),From.out⟩
def ku.f (k:Nat) (F:List (ag)) (D:Int) (G:List Int) (H:Int) (I:Int) (J:List (S64)) (a1:Int) (a2:Int):Option ((List (ag))×Int×List Int×Int×Int×(List (S64))×Bool):=(fp.f F D G H I J).bind fun u=>((a7.f k F D G H I J).bind fun K=>(if K=true then((eu.f k F D G a1 a2).bind fun z=>(some (z.1,z.2.1,z.2.2.1,u.2.2.2.1,u.2.2.2.2.1,u.2.2.2.2.2,z.2.2.2)))else(some (u.1,u.2.1,u.2.2.1,u.2.2.2.1,u.2.2.2.2.1,u.2.2.2.2.2,false))))
theorem ku.c (k:Nat) (H:Option Addr) (V:Nat) (u:List (ag)) (K:Int) (I:Option Addr) (X:Nat) (z:List Int) (O:Int) (U:Int) (J:Option Addr) (ad:Nat) (D:List (S64)) (a1:Int) (a2:Int) (r1:List (ag)) (r2:Int) (r3:List Int) (aE:Int) (aF:Int) (aG:List (S64)) (aH:Bool) (w:World) (aq:Kd.C aN w H u.length u) (al:u.length≤V) (ar:Kd.C (Kd.int .i64) w I z.length z) (am:z.length≤X) (aB:Kd.C aK w J D.length D) (ao:D.length≤ad) (h:ku.f k u K z O U D a1 a2=some (r1,r2,r3,aE,aF,aG,aH)):
  Calls Tryz.prog 77 #[.agg #[.slice H u.length V,.int .i64 K,.slice I z.length X,.int .i64 O,.int .i64 U,.slice J D.length ad],.int .i64 a1,.int .i64 a2] w fun e w'=>∃aI aL aO:Value,e= .returned (.tuple #[.agg #[aI,.int .i64 r2,aL,.int .i64 aE,.int .i64 aF,aO],.bool aH])∧Kd.R aN 110 w' w.heap.size (fun _=>True) aI r1∧Kd.R (Kd.int .i64) 3 w' w.heap.size (fun _=>True) aL r3∧Kd.R aK 64 w' w.heap.size (fun _=>True) aO aG∧Below w.heap.size w w':=by
 replace aq:=a6.mk aq;replace al:=af.mk al;replace ar:=a6.mk ar;replace am:=af.mk am;replace aB:=a6.mk aB;replace ao:=af.mk ao;unfold ku.f at h;have aQ:=Tryz.underlying27;have aR:=Tryz.underlying30
 all_goals go_enter Tryz.func77,Tryz.ntmps77
 all_goals go_wp2_with ((first
  |((with_reducible refine aC (N:=3) rfl ?_);refine bV #[.slice H u.length V,.int .i64 K,.slice I z.length X,.int .i64 O,.int .i64 U,.slice J D.length ad] 30 fun g w1 j1 j2 ak=> ?_)
  |((with_reducible refine aC (N:=6) rfl ?_);refine bV #[.slice none 0 0,.int .i64 0,.slice none 0 0,.int .i64 0,.int .i64 0,.slice none 0 0] 30 fun g w1 j1 j2 ak=> ?_)
  |((with_reducible refine aC (N:=8) rfl ?_);refine bV #[.slice none 0 0,.int .i64 0,.slice none 0 0,.int .i64 0,.int .i64 0,.slice none 0 0] 30 fun g w1 j1 j2 ak=> ?_)
  |((with_reducible refine aC (N:=9) rfl ?_);refine bV #[.slice none 0 0,.int .i64 0,.slice none 0 0] 27 fun g w1 j1 j2 ak=> ?_)
  |(go_at_call 30;replace h:=bI h;obtain⟨⟨t1,t2,t3,t4,t5,t6⟩,A,h⟩:=h;(try dsimp only at h);refine(fp.c _ _ _ _ _ _ _ _ _ _ _ _ _ _ _ _ _ _ _ Rd.out af.out Rd.out af.out Rd.out af.out A).mono ?_;rintro e w2 ⟨v0,v1,v2,rfl,F,G,ap,hb⟩;obtain⟨aP,b0,rfl,j0,q0⟩:=av F;obtain⟨B1,b1,rfl,j1,q1⟩:=av G;obtain⟨B2,b2,rfl,j2,q2⟩:=av ap;have aD:=au.mk hb;clear A F G ap hb)
  |(go_at_call 31;replace h:=bI h;obtain⟨t,A,h⟩:=h;(try dsimp only at h);refine(a7.calls _ _ _ _ _ _ _ _ _ _ _ _ _ _ _ Rd.out af.out Rd.out af.out Rd.out af.out A).mono ?_;rintro e w2 ⟨rfl,hb⟩;have aD:=au.mk hb;clear A hb)
  |(go_at_call 116;replace h:=bI h;obtain⟨⟨t1,t2,t3,t4⟩,A,h⟩:=h;(try dsimp only at h);refine(eu.c _ _ _ _ _ _ _ _ _ _ _ _ _ _ _ Rd.out af.out Rd.out af.out A).mono ?_;rintro e w2 ⟨v0,v1,rfl,F,G,hb⟩;obtain⟨aP,b0,rfl,j0,q0⟩:=av F;obtain⟨B1,b1,rfl,j1,q1⟩:=av G;have aD:=au.mk hb;clear A F G hb));(repeat' first|((with_reducible replace h:=bC h);rcases h with ⟨hc,h⟩|⟨hc,h⟩<;>first|exact(bo h).elim|exact absurd hc (by decide)|subst hc|(replace hc:=aM hc;subst hc)|(have hd:=bw hc;have he:=bz hc;clear hc)|(have hd:=bA hc;have he:=bB hc)|(have hd:=ax hc)|(have hd:=ah hc)|skip)))
 all_goals simp only[Option.some.injEq,Prod.mk.injEq]at h
 all_goals obtain⟨rfl,rfl,rfl,rfl,rfl,rfl,rfl⟩:=h
 all_goals refine bodyPost_ret (dW rfl _ _ _ _ _ (0,0) _ rfl aJ.out Tryz.underlying30 rfl (by kernel_rfl)) rfl ?_
 all_goals exact⟨_,_,_,rfl,(by first|exact a8|exact Kd.aY _ _ _ _ _),(by first|exact a8|exact Kd.aY _ _ _ _ _),(by first|exact a8|exact Kd.aY _ _ _ _ _),From.out⟩
end P

end Go.Proofs.YtnjfiaekdcekgaaGreatDoor
