/- What functions of the program come to (f), that their calls come to just this (calls), and the plain laws over lists and numbers. No condition but those of the given row. -/
import Derived.Test.YtnjfiaekdcekgaaGreatDoorB2
import Derived.Shelf.Strings.Split
import Derived.Lib.ItoaLen
import Derived.Lib.SplitLaws
import Derived.Lib.Bytealg
import Derived.Stop.LaidErr
set_option linter.unusedVariables false
set_option linter.unusedSimpArgs false
namespace Go.Proofs.YtnjfiaekdcekgaaGreatDoor.P
set_option maxHeartbeats 8000000
set_option maxRecDepth 100000
set_option synthInstance.maxHeartbeats 400000
set_option synthInstance.maxSize 100000
open Go.RowKit Go.Proofs.YtnjfiaekdcekgaaGreatDoorW.bS Go.Proofs.YtnjfiaekdcekgaaGreatDoorW.dU Go.Proofs.YtnjfiaekdcekgaaGreatDoorW.dX Go.Proofs.YtnjfiaekdcekgaaGreatDoor.V
attribute [local go_sem] fV fW cellR_c sT sU uh uq
attribute [local go_sem] fE fI fH fL fG fK fF fJ
def jQ.f (k:Nat) (ak:List (ar)) (ax:Int) (aq:List Int):Option ((List (ar))×Int×List Int×Bool):=(oX.f ak ax aq).bind fun sO=>((il.f k ak ax aq).bind fun t274=>(if(t274.length:Int)=0 then(some (sO.1,sO.2.1,sO.2.2,false))else(if 0<(t274.length:Int)then(if 0≤(rd t274 0)then(if(rd t274 0)<(ak.length:Int)then(if 0≤((au ak (rd t274 0)).f0)then(if((au ak (rd t274 0)).f0)<(aq.length:Int)then((eZ.f k (rd aq ((au ak (rd t274 0)).f0)) ((au ak (rd t274 0)).f2) ((au ak (rd t274 0)).f3)).bind fun Wo=>(if Wo=0 then(some (sO.1,sO.2.1,sO.2.2,false))else(if 0≤((au ak (rd t274 0)).f1)then(if((au ak (rd t274 0)).f1)<(sO.2.2.length:Int)then(some (sO.1,sO.2.1,(sO.2.2.set (((au ak (rd t274 0)).f1):Int).toNat Wo),true))else(none))else(none))))else(none))else(none))else(none))else(none))else(none))))
def jQ.T5:Bool×List (List Nat×List Nat):=(true,[([],[]),([0],[0]),([],[]),([2],[2]),([3],[3]),([1,4],[1,4]),([5],[5]),([],[]),([7,6,0,1,2,3,4,5,6,7],[6,7])])
def jQ.B5:List Nat:=[0,1,0,4,12,31,63,0,255]
theorem jQ.FP:rtab .any (opsOf Tryz.f113 5)=jQ.T5:=by kernel_rfl
theorem jQ.Cv:eN jQ.T5.2 jQ.B5=true:=by kernel_rfl
def jQ.T6:Bool×List (List Nat×List Nat):=(true,[([],[]),([0],[0]),([],[]),([2],[2]),([1,3],[1,3]),([4],[4]),([],[]),([6],[6]),([],[]),([8],[8]),([5,7,9],[5,7,9]),([10,10,0,1,2,3,4,5,6,7,8,9,10],[10])])
def jQ.B6:List Nat:=[0,1,0,4,15,31,0,64,0,256,1023,2047]
theorem jQ.Om:rtab .any (opsOf Tryz.f113 6)=jQ.T6:=by kernel_rfl
theorem jQ.KF:eN jQ.T6.2 jQ.B6=true:=by kernel_rfl
theorem jQ.calls (k:Nat) (aU:Option Addr) (c0_0:Nat) (ak:List (ar)) (ax:Int) (a6:Option Addr) (aW:Nat) (aq:List Int) (r1:List (ar)) (r2:Int) (r3:List Int) (r4:Bool) (w:World) (cp:Kd.C bl w aU ak.length ak) (cx:ak.length≤c0_0) (cv:Kd.C (Kd.int .i64) w a6 aq.length aq) (cA:aq.length≤aW) (h:jQ.f k ak ax aq=some (r1,r2,r3,r4)):
  Calls Tryz.prog 113 #[.agg #[.slice aU ak.length c0_0,.int .i64 ax,.slice a6 aq.length aW]] w fun e w'=>∃v0_ cB:Value,e= .returned (.tuple #[.agg #[v0_,.int .i64 r2,cB],.bool r4])∧Kd.R bl 110 w' w.heap.size (fun _=>True) v0_ r1∧Kd.R (Kd.int .i64) 3 w' w.heap.size (fun _=>True) cB r3∧Below w.heap.size w w':=by
 replace cp:=cg.mk cp;replace cx:=az.mk cx;replace cv:=cg.mk cv;replace cA:=az.mk cA;have s8:=en.mk (d:=bl) (e:=110) (t:=3) (by decide);have yE:=en.mk (d:=bl) (e:=110) (t:=27) (by decide);unfold jQ.f at h;have lR:=Tryz.underlying27;have yb:=Tryz.underlying110
 (repeat' first|((with_reducible replace h:=cG h);rcases h with ⟨hc,h⟩|⟨hc,h⟩<;>first|exact(none_some h).elim|exact absurd hc (by decide)|subst hc|(replace hc:=br hc;subst hc)|(replace hc:=ey hc;subst hc)|(replace hc:=hH_ hc;subst hc)|(have hd:(_==_)=true:=hc)|(have hd:(_==_)=false:=br hc)|(have hd:=hI_ hc;have he:=cD hc;clear hc)|(have hd:=cE hc;have he:=hL_ hc)|(have hd:=decide_eq_false hc)|(have hd:=decide_eq_true hc;(try(have hn:=Int.natCast_pos.mp hc;have hm:=decide_eq_true hn;replace hn:=eq_true hn));first|(obtain⟨g_,e_,i_⟩:=ew (by assumption) (by first|assumption|decide) hc;cases e_)|(obtain⟨a_,e_,c_⟩:=er (by assumption) (by first|assumption|decide) hc;cases e_)|(obtain⟨a_,e_,dC,dD,dE,dF⟩:=iC (cg.out (self:=by assumption)) _ (by first|assumption|decide) hc;cases e_;replace dC:=cK.mk dC;replace dD:=cK.mk dD;replace dE:=cK.mk dE;replace dF:=cK.mk dF))|(have hd:=decide_eq_true hc)|skip)|((with_reducible replace h:=eu h);obtain⟨hl_,h⟩:=h;replace hl_:=A_ hl_;(try dsimp only at h)))
 all_goals go_enter Tryz.func113,Tryz.ntmps113
 all_goals go_wp2_with ((first
  |((with_reducible refine gate_dst (N:=1) rfl ?_);refine bV #[.slice aU ak.length c0_0,.int .i64 ax,.slice a6 aq.length aW] 27 fun g w1 j1 j2 j3=> ?_)
  |((with_reducible refine gate_dst (N:=2) rfl ?_);refine bV #[.slice none 0 0,.int .i64 0,.slice none 0 0] 27 fun g w1 j1 j2 j3=> ?_)
  |((with_reducible refine gate_dst (N:=4) rfl ?_);refine bV #[.slice none 0 0,.int .i64 0,.slice none 0 0] 27 fun g w1 j1 j2 j3=> ?_)
  |(go_at_call 68;(try rw[hl_.out]);replace h:=bI h;obtain⟨⟨t1,t2,t3⟩,A,h⟩:=h;(try dsimp only at h);refine(oX.calls _ _ _ _ _ _ _ _ _ _ _ Rd.out az.out Rd.out az.out A).mono ?_;rintro e w2 ⟨v0,v1,rfl,ho0,aY,hb⟩;obtain⟨B0,b0,rfl,j0,q0⟩:=aX ho0;obtain⟨B1,b1,rfl,j1,q1⟩:=aX aY;have jb:=aK.mk hb;clear A ho0 aY hb)
  |(go_at_call 112;(try rw[hl_.out]);replace h:=bI h;obtain⟨t,A,h⟩:=h;(try dsimp only at h);refine(il.calls _ _ _ _ _ _ _ _ _ _ Rd.out az.out Rd.out az.out A).mono ?_;rintro e w2 ⟨v0,rfl,ho0,hb⟩;obtain⟨B0,b0,rfl,j0,q0⟩:=aX ho0;have jb:=aK.mk hb;clear A ho0 hb)
  |(refine qR (id:=5) (ds:=[]) (l:= #[false,false,false,false,false,false,false,false,false]) jQ.FP jQ.Cv ?_;intro ag HW_ w3 jw u0 iu hHeld;refine qA 0 (some 16) ag ?_;refine qA 2 (some 18) ag ?_;refine qA 3 (some 19) ag ?_;refine qT 1 (some 17) ag HW_ hHeld ?_;refine qT 4 (some 20) ag HW_ hHeld ?_;refine qA 5 (some 21) ag ?_;refine qT 6 (some 22) ag HW_ hHeld ?_;refine qB 7 6 #[.int .i64 0,.int .i64 0,.int .i64 0,.int .i64 0] 110 ag hHeld fun gx jb1 wx s5 jb3 hHeld=> ?_;refine qS 8 ag fun hHeld=> ?_;refine qD ag ?_)
  |(refine qR (id:=6) (ds:=[]) (l:= #[false,false,false,false,false,false,false,false,false,false,false,false]) jQ.Om jQ.KF ?_;intro ag HW_ w3 jw u0 iu hHeld;refine qA 0 (some 23) ag ?_;refine qA 2 (some 25) ag ?_;refine qA 6 (some 29) ag ?_;refine qA 8 (some 31) ag ?_;refine qT 1 (some 24) ag HW_ hHeld ?_;refine qT 3 (some 26) ag HW_ hHeld ?_;refine qA 4 (some 27) ag ?_;refine qT 5 (some 28) ag HW_ hHeld ?_;refine qT 7 (some 30) ag HW_ hHeld ?_;refine qT 9 (some 32) ag HW_ hHeld ?_;replace h:=bI h;obtain⟨t,A,h⟩:=h;(try dsimp only at h);refine qC 10 33 Tryz.func134 ag fun K hK=> ?_;refine(eZ.calls _ _ _ _ _ _ A).mono ?_;rintro e w2 ⟨rfl,hb⟩;have jb:=aK.mk hb;clear A hb;refine⟨_,rfl,hK _ _ From.out fun hHeld=> ?_⟩;clear hK K;refine qN ?_;refine qA 11 (some 7) ag ?_;refine qD ag ?_));(repeat' first|((with_reducible replace h:=cG h);rcases h with ⟨hc,h⟩|⟨hc,h⟩<;>first|exact(none_some h).elim|exact absurd hc (by decide)|subst hc|(replace hc:=br hc;subst hc)|(replace hc:=ey hc;subst hc)|(replace hc:=hH_ hc;subst hc)|(have hd:(_==_)=true:=hc)|(have hd:(_==_)=false:=br hc)|(have hd:=hI_ hc;have he:=cD hc;clear hc)|(have hd:=cE hc;have he:=hL_ hc)|(have hd:=decide_eq_false hc)|(have hd:=decide_eq_true hc;(try(have hn:=Int.natCast_pos.mp hc;have hm:=decide_eq_true hn;replace hn:=eq_true hn));first|(obtain⟨g_,e_,i_⟩:=ew (by assumption) (by first|assumption|decide) hc;cases e_)|(obtain⟨a_,e_,c_⟩:=er (by assumption) (by first|assumption|decide) hc;cases e_)|(obtain⟨a_,e_,dC,dD,dE,dF⟩:=iC (cg.out (self:=by assumption)) _ (by first|assumption|decide) hc;cases e_;replace dC:=cK.mk dC;replace dD:=cK.mk dD;replace dE:=cK.mk dE;replace dF:=cK.mk dF))|(have hd:=decide_eq_true hc)|skip)|((with_reducible replace h:=eu h);obtain⟨hl_,h⟩:=h;replace hl_:=A_ hl_;(try dsimp only at h)));all_goals(try have hn:decide (0<t.length)=true:=decide_eq_true (by omega));all_goals(try have hn:decide (0<t.length)=false:=decide_eq_false (by omega)))
 all_goals simp only[Option.some.injEq,Prod.mk.injEq]at h
 all_goals obtain⟨rfl,rfl,rfl,rfl⟩:=h
 all_goals refine bodyPost_ret (results_ct rfl _ _ _ _ _ (0,0) _ rfl a7.out Tryz.underlying27 rfl (by kernel_rfl)) rfl ?_
 all_goals exact⟨_,_,rfl,(by first|exact cn|exact Kd.bM _ _ _ _ _|exact eB|exact irowFin' (by simp)),(by first|exact cn|exact Kd.bM _ _ _ _ _|exact eB|exact irowFin' (by simp)),From.out⟩
def jF.j0:Nat→Bool→List (ar)→Int→List Int→List (ar)→Int→List Int→Option ((List (ar))×Int×List Int×Bool)
 |0,_,_,_,_,_,_,_=>none
 |k+1,x19,vk,sA,Xh,OX,Xi,Jz=>if x19=true then(some (OX,Xi,Jz,false))else(if 0≤sA then(if sA<(vk.length:Int)then(if 0≤((au vk sA).f0)then(if((au vk sA).f0)<(Xh.length:Int)then((eZ.f k (rd Xh ((au vk sA).f0)) ((au vk sA).f2) ((au vk sA).f3)).bind fun Wp=>(if Wp=0 then(some (OX,Xi,Jz,false))else(if 0≤((au vk sA).f1)then(if((au vk sA).f1)<(Jz.length:Int)then(some (OX,wrap64 (sA+1),(Jz.set (((au vk sA).f1):Int).toNat Wp),true))else(none))else(none))))else(none))else(none))else(none))else(none))
def jF.f (k:Nat) (ak:List (ar)) (ax:Int) (aq:List Int):Option ((List (ar))×Int×List Int×Bool):=(oX.f ak ax aq).bind fun Ah=>((fe.f k ak ax aq).bind fun ai_=>(if ai_=true then(jF.j0 k (ax==(ak.length:Int)) ak ax aq Ah.1 Ah.2.1 Ah.2.2)else(jF.j0 k true ak ax aq Ah.1 Ah.2.1 Ah.2.2)))
def jF.T5:Bool×List (List Nat×List Nat):=(true,[([],[]),([0],[0]),([],[]),([2],[2]),([1,3],[1,3]),([4],[4]),([],[]),([6],[6]),([],[]),([8],[8]),([5,7,9],[5,7,9]),([10,10,0,1,2,3,4,5,6,7,8,9,10],[10])])
def jF.B5:List Nat:=[0,1,0,4,15,31,0,64,0,256,1023,2047]
theorem jF.FP:rtab .any (opsOf Tryz.f114 5)=jF.T5:=by kernel_rfl
theorem jF.Cv:eN jF.T5.2 jF.B5=true:=by kernel_rfl
theorem jF.calls (k:Nat) (aU:Option Addr) (c0_0:Nat) (ak:List (ar)) (ax:Int) (a6:Option Addr) (aW:Nat) (aq:List Int) (r1:List (ar)) (r2:Int) (r3:List Int) (r4:Bool) (w:World) (cp:Kd.C bl w aU ak.length ak) (cx:ak.length≤c0_0) (cv:Kd.C (Kd.int .i64) w a6 aq.length aq) (cA:aq.length≤aW) (h:jF.f k ak ax aq=some (r1,r2,r3,r4)):
  Calls Tryz.prog 114 #[.agg #[.slice aU ak.length c0_0,.int .i64 ax,.slice a6 aq.length aW]] w fun e w'=>∃v0_ cB:Value,e= .returned (.tuple #[.agg #[v0_,.int .i64 r2,cB],.bool r4])∧Kd.R bl 110 w' w.heap.size (fun _=>True) v0_ r1∧Kd.R (Kd.int .i64) 3 w' w.heap.size (fun _=>True) cB r3∧Below w.heap.size w w':=by
 replace cp:=cg.mk cp;replace cx:=az.mk cx;replace cv:=cg.mk cv;replace cA:=az.mk cA;have s8:=en.mk (d:=bl) (e:=110) (t:=3) (by decide);have yE:=en.mk (d:=bl) (e:=110) (t:=27) (by decide);unfold jF.f at h;have lR:=Tryz.underlying27;have yb:=Tryz.underlying110
 (repeat' first|((with_reducible replace h:=cG h);rcases h with ⟨hc,h⟩|⟨hc,h⟩<;>first|exact(none_some h).elim|exact absurd hc (by decide)|subst hc|(replace hc:=br hc;subst hc)|(replace hc:=ey hc;subst hc)|(replace hc:=hH_ hc;subst hc)|(have hd:(_==_)=true:=hc)|(have hd:(_==_)=false:=br hc)|(have hd:=hI_ hc;have he:=cD hc;clear hc)|(have hd:=cE hc;have he:=hL_ hc)|(have hd:=decide_eq_false hc)|(have hd:=decide_eq_true hc;(try(have hn:=Int.natCast_pos.mp hc;have hm:=decide_eq_true hn;replace hn:=eq_true hn));first|(obtain⟨g_,e_,i_⟩:=ew (by assumption) (by first|assumption|decide) hc;cases e_)|(obtain⟨a_,e_,c_⟩:=er (by assumption) (by first|assumption|decide) hc;cases e_)|(obtain⟨a_,e_,dC,dD,dE,dF⟩:=iC (cg.out (self:=by assumption)) _ (by first|assumption|decide) hc;cases e_;replace dC:=cK.mk dC;replace dD:=cK.mk dD;replace dE:=cK.mk dE;replace dF:=cK.mk dF))|(have hd:=decide_eq_true hc)|skip)|((with_reducible have hj:jF.j0 k _ _ _ _ _ _ _=_:=h);clear hj;rcases k with _|k<;>rw[jF.j0]at h<;>first|exact(none_some h).elim|skip)|((with_reducible replace h:=eu h);obtain⟨hl_,h⟩:=h;replace hl_:=A_ hl_;(try dsimp only at h)))
 all_goals go_enter Tryz.func114,Tryz.ntmps114
 all_goals go_wp2_with ((first
  |((with_reducible refine gate_dst (N:=1) rfl ?_);refine bV #[.slice aU ak.length c0_0,.int .i64 ax,.slice a6 aq.length aW] 27 fun g w1 j1 j2 j3=> ?_)
  |((with_reducible refine gate_dst (N:=2) rfl ?_);refine bV #[.slice none 0 0,.int .i64 0,.slice none 0 0] 27 fun g w1 j1 j2 j3=> ?_)
  |((with_reducible refine gate_dst (N:=4) rfl ?_);refine bV #[.slice none 0 0,.int .i64 0,.slice none 0 0] 27 fun g w1 j1 j2 j3=> ?_)
  |((with_reducible refine gate_dst (N:=5) rfl ?_);refine bV #[.int .i64 0,.int .i64 0,.int .i64 0,.int .i64 0] 110 fun g w1 j1 j2 j3=> ?_)
  |(go_at_call 68;(try rw[hl_.out]);replace h:=bI h;obtain⟨⟨t1,t2,t3⟩,A,h⟩:=h;(try dsimp only at h);refine(oX.calls _ _ _ _ _ _ _ _ _ _ _ Rd.out az.out Rd.out az.out A).mono ?_;rintro e w2 ⟨v0,v1,rfl,ho0,aY,hb⟩;obtain⟨B0,b0,rfl,j0,q0⟩:=aX ho0;obtain⟨B1,b1,rfl,j1,q1⟩:=aX aY;have jb:=aK.mk hb;clear A ho0 aY hb)
  |(go_at_call 70;(try rw[hl_.out]);replace h:=bI h;obtain⟨t,A,h⟩:=h;(try dsimp only at h);refine(fe.calls _ _ _ _ _ _ _ _ _ _ Rd.out az.out Rd.out az.out A).mono ?_;rintro e w2 ⟨rfl,hb⟩;have jb:=aK.mk hb;clear A hb)
  |(refine qR (id:=5) (ds:=[]) (l:= #[false,false,false,false,false,false,false,false,false,false,false,false]) jF.FP jF.Cv ?_;intro ag HW_ w3 jw u0 iu hHeld;refine qA 0 (some 27) ag ?_;refine qA 2 (some 29) ag ?_;refine qA 6 (some 33) ag ?_;refine qA 8 (some 35) ag ?_;refine qT 1 (some 28) ag HW_ hHeld ?_;refine qT 3 (some 30) ag HW_ hHeld ?_;refine qA 4 (some 31) ag ?_;refine qT 5 (some 32) ag HW_ hHeld ?_;refine qT 7 (some 34) ag HW_ hHeld ?_;refine qT 9 (some 36) ag HW_ hHeld ?_;replace h:=bI h;obtain⟨t,A,h⟩:=h;(try dsimp only at h);refine qC 10 37 Tryz.func134 ag fun K hK=> ?_;refine(eZ.calls _ _ _ _ _ _ A).mono ?_;rintro e w2 ⟨rfl,hb⟩;have jb:=aK.mk hb;clear A hb;refine⟨_,rfl,hK _ _ From.out fun hHeld=> ?_⟩;clear hK K;refine qN ?_;refine qA 11 (some 6) ag ?_;refine qD ag ?_));(repeat' first|((with_reducible replace h:=cG h);rcases h with ⟨hc,h⟩|⟨hc,h⟩<;>first|exact(none_some h).elim|exact absurd hc (by decide)|subst hc|(replace hc:=br hc;subst hc)|(replace hc:=ey hc;subst hc)|(replace hc:=hH_ hc;subst hc)|(have hd:(_==_)=true:=hc)|(have hd:(_==_)=false:=br hc)|(have hd:=hI_ hc;have he:=cD hc;clear hc)|(have hd:=cE hc;have he:=hL_ hc)|(have hd:=decide_eq_false hc)|(have hd:=decide_eq_true hc;(try(have hn:=Int.natCast_pos.mp hc;have hm:=decide_eq_true hn;replace hn:=eq_true hn));first|(obtain⟨g_,e_,i_⟩:=ew (by assumption) (by first|assumption|decide) hc;cases e_)|(obtain⟨a_,e_,c_⟩:=er (by assumption) (by first|assumption|decide) hc;cases e_)|(obtain⟨a_,e_,dC,dD,dE,dF⟩:=iC (cg.out (self:=by assumption)) _ (by first|assumption|decide) hc;cases e_;replace dC:=cK.mk dC;replace dD:=cK.mk dD;replace dE:=cK.mk dE;replace dF:=cK.mk dF))|(have hd:=decide_eq_true hc)|skip)|((with_reducible have hj:jF.j0 k _ _ _ _ _ _ _=_:=h);clear hj;rcases k with _|k<;>rw[jF.j0]at h<;>first|exact(none_some h).elim|skip)|((with_reducible replace h:=eu h);obtain⟨hl_,h⟩:=h;replace hl_:=A_ hl_;(try dsimp only at h))))
 all_goals simp only[Option.some.injEq,Prod.mk.injEq]at h
 all_goals obtain⟨rfl,rfl,rfl,rfl⟩:=h
 all_goals refine bodyPost_ret (results_ct rfl _ _ _ _ _ (0,0) _ rfl a7.out Tryz.underlying27 rfl (by kernel_rfl)) rfl ?_
 all_goals exact⟨_,_,rfl,(by first|exact cn|exact Kd.bM _ _ _ _ _|exact eB|exact irowFin' (by simp)),(by first|exact cn|exact Kd.bM _ _ _ _ _|exact eB|exact irowFin' (by simp)),From.out⟩
def iU.j0:Nat→Int→Int→Bool→List (ar)→Int→List Int→List (ar)→Int→List Int→Option ((List (ar))×Int×List Int×Bool)
 |0,_,_,_,_,_,_,_,_,_=>none
 |k+1,x1,x2,sB,akJ,akK,akL,OZ,O0,JC=>if sB=true then(some (OZ,O0,JC,false))else(if 0≤x1 then(if x1<(JC.length:Int)then((some (JC.set (x1:Int).toNat (wrap64 ((rd JC x1)+x2)):List Int)).bind fun XN=>((fe.f k OZ O0 XN).bind fun ajl=>(if ajl=true then(some (OZ,O0,XN,true))else((oX.f akJ akK akL).bind fun KJ=>(some (KJ.1,KJ.2.1,KJ.2.2,false))))))else(none))else(none))
def iU.f (k:Nat) (ak:List (ar)) (ax:Int) (aq:List Int) (a1:Int) (a2:Int):Option ((List (ar))×Int×List Int×Bool):=(oX.f ak ax aq).bind fun qj=>((fe.f k ak ax aq).bind fun aji=>(if aji=true then((im.f a1 0 11).bind fun ajj=>(if ajj=true then((im.f a2 (-100000) 100000).bind fun ajk=>(if ajk=true then(if 0≤a1 then(if a1<(aq.length:Int)then(iU.j0 k a1 a2 ((rd aq a1)==0) ak ax aq qj.1 qj.2.1 qj.2.2)else(none))else(none))else(iU.j0 k a1 a2 true ak ax aq qj.1 qj.2.1 qj.2.2)))else(iU.j0 k a1 a2 true ak ax aq qj.1 qj.2.1 qj.2.2)))else(iU.j0 k a1 a2 true ak ax aq qj.1 qj.2.1 qj.2.2)))
def iU.T4:Bool×List (List Nat×List Nat):=(true,[([],[]),([0],[0]),([],[]),([],[]),([3],[3]),([],[]),([4,5],[4,5]),([6],[6]),([],[]),([7,8],[7,8]),([1,2,0,1,2,3,4,5,6,7,8,9],[1,2]),([10,9,0,1,2,3,4,5,6,7,8,9],[9,10])])
def iU.B4:List Nat:=[0,1,0,0,8,0,56,120,0,504,1023,2047]
theorem iU.zw:rtab .any (opsOf Tryz.f116 4)=iU.T4:=by kernel_rfl
theorem iU.xC:eN iU.T4.2 iU.B4=true:=by kernel_rfl
theorem iU.calls (k:Nat) (aU:Option Addr) (c0_0:Nat) (ak:List (ar)) (ax:Int) (a6:Option Addr) (aW:Nat) (aq:List Int) (a1:Int) (a2:Int) (r1:List (ar)) (r2:Int) (r3:List Int) (r4:Bool) (w:World) (cp:Kd.C bl w aU ak.length ak) (cx:ak.length≤c0_0) (cv:Kd.C (Kd.int .i64) w a6 aq.length aq) (cA:aq.length≤aW) (h:iU.f k ak ax aq a1 a2=some (r1,r2,r3,r4)):
  Calls Tryz.prog 116 #[.agg #[.slice aU ak.length c0_0,.int .i64 ax,.slice a6 aq.length aW],.int .i64 a1,.int .i64 a2] w fun e w'=>∃v0_ cB:Value,e= .returned (.tuple #[.agg #[v0_,.int .i64 r2,cB],.bool r4])∧Kd.R bl 110 w' w.heap.size (fun _=>True) v0_ r1∧Kd.R (Kd.int .i64) 3 w' w.heap.size (fun _=>True) cB r3∧Below w.heap.size w w':=by
 replace cp:=cg.mk cp;replace cx:=az.mk cx;replace cv:=cg.mk cv;replace cA:=az.mk cA;have s8:=en.mk (d:=bl) (e:=110) (t:=3) (by decide);have yE:=en.mk (d:=bl) (e:=110) (t:=27) (by decide);unfold iU.f at h;have lR:=Tryz.underlying27
 (repeat' first|((with_reducible replace h:=cG h);rcases h with ⟨hc,h⟩|⟨hc,h⟩<;>first|exact(none_some h).elim|exact absurd hc (by decide)|subst hc|(replace hc:=br hc;subst hc)|(replace hc:=ey hc;subst hc)|(replace hc:=hH_ hc;subst hc)|(have hd:(_==_)=true:=hc)|(have hd:(_==_)=false:=br hc)|(have hd:=hI_ hc;have he:=cD hc;clear hc)|(have hd:=cE hc;have he:=hL_ hc)|(have hd:=decide_eq_false hc)|(have hd:=decide_eq_true hc;(try(have hn:=Int.natCast_pos.mp hc;have hm:=decide_eq_true hn;replace hn:=eq_true hn));first|(obtain⟨g_,e_,i_⟩:=ew (by assumption) (by first|assumption|decide) hc;cases e_)|(obtain⟨a_,e_,c_⟩:=er (by assumption) (by first|assumption|decide) hc;cases e_))|(have hd:=decide_eq_true hc)|skip)|((with_reducible have hj:iU.j0 k _ _ _ _ _ _ _ _ _=_:=h);clear hj;rcases k with _|k<;>rw[iU.j0]at h<;>first|exact(none_some h).elim|skip)|((with_reducible replace h:=eu h);obtain⟨hl_,h⟩:=h;replace hl_:=A_ hl_;(try dsimp only at h)))
 all_goals go_enter Tryz.func116,Tryz.ntmps116
 all_goals go_wp2_with ((first
  |((with_reducible refine gate_dst (N:=3) rfl ?_);refine bV #[.slice aU ak.length c0_0,.int .i64 ax,.slice a6 aq.length aW] 27 fun g w1 j1 j2 j3=> ?_)
  |((with_reducible refine gate_dst (N:=6) rfl ?_);refine bV #[.slice none 0 0,.int .i64 0,.slice none 0 0] 27 fun g w1 j1 j2 j3=> ?_)
  |((with_reducible refine gate_dst (N:=8) rfl ?_);refine bV #[.slice none 0 0,.int .i64 0,.slice none 0 0] 27 fun g w1 j1 j2 j3=> ?_)
  |(go_at_call 68;(try rw[hl_.out]);replace h:=bI h;obtain⟨⟨t1,t2,t3⟩,A,h⟩:=h;(try dsimp only at h);refine(oX.calls _ _ _ _ _ _ _ _ _ _ _ Rd.out az.out Rd.out az.out A).mono ?_;rintro e w2 ⟨v0,v1,rfl,ho0,aY,hb⟩;obtain⟨B0,b0,rfl,j0,q0⟩:=aX ho0;obtain⟨B1,b1,rfl,j1,q1⟩:=aX aY;have jb:=aK.mk hb;clear A ho0 aY hb)
  |(go_at_call 70;(try rw[hl_.out]);replace h:=bI h;obtain⟨t,A,h⟩:=h;(try dsimp only at h);refine(fe.calls _ _ _ _ _ _ _ _ _ _ Rd.out az.out Rd.out az.out A).mono ?_;rintro e w2 ⟨rfl,hb⟩;have jb:=aK.mk hb;clear A hb)
  |(go_at_call 72;(try rw[hl_.out]);replace h:=bI h;obtain⟨t,A,h⟩:=h;(try dsimp only at h);refine(im.calls _ _ _ _ _ A).mono ?_;rintro e w2 ⟨rfl,n,rfl⟩;clear A)
  |(refine qR (id:=4) (ds:=[11]) (l:= #[false,false,false,false,false,false,false,false,false,false,false,false]) iU.zw iU.xC ?_;intro ag HW_ w3 jw u0 iu hHeld;refine qA 0 (some 33) ag ?_;refine qA 2 (some 35) ag ?_;refine qA 3 (some 36) ag ?_;refine qA 5 (some 38) ag ?_;refine qA 8 (some 41) ag ?_;refine qT 1 (some 34) ag HW_ hHeld ?_;refine qT 4 (some 37) ag HW_ hHeld ?_;refine qA 6 (some 39) ag ?_;refine qT 7 (some 40) ag HW_ hHeld ?_;refine qA 9 (some 42) ag ?_;refine qA 10 (some 43) ag ?_;refine qL 11 ag ?_;refine qD ag ?_));(repeat' first|((with_reducible replace h:=cG h);rcases h with ⟨hc,h⟩|⟨hc,h⟩<;>first|exact(none_some h).elim|exact absurd hc (by decide)|subst hc|(replace hc:=br hc;subst hc)|(replace hc:=ey hc;subst hc)|(replace hc:=hH_ hc;subst hc)|(have hd:(_==_)=true:=hc)|(have hd:(_==_)=false:=br hc)|(have hd:=hI_ hc;have he:=cD hc;clear hc)|(have hd:=cE hc;have he:=hL_ hc)|(have hd:=decide_eq_false hc)|(have hd:=decide_eq_true hc;(try(have hn:=Int.natCast_pos.mp hc;have hm:=decide_eq_true hn;replace hn:=eq_true hn));first|(obtain⟨g_,e_,i_⟩:=ew (by assumption) (by first|assumption|decide) hc;cases e_)|(obtain⟨a_,e_,c_⟩:=er (by assumption) (by first|assumption|decide) hc;cases e_))|(have hd:=decide_eq_true hc)|skip)|((with_reducible have hj:iU.j0 k _ _ _ _ _ _ _ _ _=_:=h);clear hj;rcases k with _|k<;>rw[iU.j0]at h<;>first|exact(none_some h).elim|skip)|((with_reducible replace h:=eu h);obtain⟨hl_,h⟩:=h;replace hl_:=A_ hl_;(try dsimp only at h))))
 all_goals simp only[Option.some.injEq,Prod.mk.injEq]at h
 all_goals obtain⟨rfl,rfl,rfl,rfl⟩:=h
 all_goals refine bodyPost_ret (results_ct rfl _ _ _ _ _ (0,0) _ rfl a7.out Tryz.underlying27 rfl (by kernel_rfl)) rfl ?_
 all_goals exact⟨_,_,rfl,(by first|exact cn|exact Kd.bM _ _ _ _ _|exact eB|exact irowFin' (by simp)),(by first|exact cn|exact Kd.bM _ _ _ _ _|exact eB|exact irowFin' (by simp)),From.out⟩
def jA.j0:Nat→Bool→List (ar)→Int→List Int→List (ar)→Int→List Int→Option ((List (ar))×Int×List Int×Bool)
 |0,_,_,_,_,_,_,_=>none
 |k+1,x18,Gr,zD,akN,O9,O_,JE=>if x18=true then(some (O9,O_,JE,false))else((lA.f k Gr zD akN zD).bind fun Ww=>(if Ww=0 then(some (O9,O_,JE,false))else(if 0≤zD then(if zD<(Gr.length:Int)then(if 0≤((au Gr zD).f1)then(if((au Gr zD).f1)<(JE.length:Int)then(some (O9,wrap64 (O_+1),(JE.set (((au Gr zD).f1):Int).toNat Ww),true))else(none))else(none))else(none))else(none))))
def jA.f (k:Nat) (ak:List (ar)) (ax:Int) (aq:List Int):Option ((List (ar))×Int×List Int×Bool):=(kI.f ak ax aq).bind fun Av=>((lS.f ak ax aq).bind fun ajy=>(if ajy=true then(jA.j0 k (ax==(ak.length:Int)) ak ax aq Av.1 Av.2.1 Av.2.2)else(jA.j0 k true ak ax aq Av.1 Av.2.1 Av.2.2)))
def jA.T7:Bool×List (List Nat×List Nat):=(true,[([],[]),([0],[0]),([],[]),([2],[2]),([],[]),([4],[4]),([3,5],[3,5]),([6],[6]),([7],[7]),([],[]),([1,8,0,1,2,3,4,5,6,7,8,9],[1,8]),([10,9,0,1,2,3,4,5,6,7,8,9],[9,10])])
def jA.B7:List Nat:=[0,1,0,4,0,16,60,124,252,0,1023,2047]
theorem jA.Je:rtab .any (opsOf Tryz.f99 7)=jA.T7:=by kernel_rfl
theorem jA.bits7:eN jA.T7.2 jA.B7=true:=by kernel_rfl
theorem jA.calls (k:Nat) (aU:Option Addr) (c0_0:Nat) (ak:List (ar)) (ax:Int) (a6:Option Addr) (aW:Nat) (aq:List Int) (r1:List (ar)) (r2:Int) (r3:List Int) (r4:Bool) (w:World) (cp:Kd.C bl w aU ak.length ak) (cx:ak.length≤c0_0) (cv:Kd.C (Kd.int .i64) w a6 aq.length aq) (cA:aq.length≤aW) (h:jA.f k ak ax aq=some (r1,r2,r3,r4)):
  Calls Tryz.prog 99 #[.agg #[.slice aU ak.length c0_0,.int .i64 ax,.slice a6 aq.length aW]] w fun e w'=>∃v0_ cB:Value,e= .returned (.tuple #[.agg #[v0_,.int .i64 r2,cB],.bool r4])∧Kd.R bl 110 w' w.heap.size (fun _=>True) v0_ r1∧Kd.R (Kd.int .i64) 3 w' w.heap.size (fun _=>True) cB r3∧Below w.heap.size w w':=by
 replace cp:=cg.mk cp;replace cx:=az.mk cx;replace cv:=cg.mk cv;replace cA:=az.mk cA;have s8:=en.mk (d:=bl) (e:=110) (t:=3) (by decide);have yE:=en.mk (d:=bl) (e:=110) (t:=27) (by decide);unfold jA.f at h;have lR:=Tryz.underlying27
 (repeat' first|((with_reducible replace h:=cG h);rcases h with ⟨hc,h⟩|⟨hc,h⟩<;>first|exact(none_some h).elim|exact absurd hc (by decide)|subst hc|(replace hc:=br hc;subst hc)|(replace hc:=ey hc;subst hc)|(replace hc:=hH_ hc;subst hc)|(have hd:(_==_)=true:=hc)|(have hd:(_==_)=false:=br hc)|(have hd:=hI_ hc;have he:=cD hc;clear hc)|(have hd:=cE hc;have he:=hL_ hc)|(have hd:=decide_eq_false hc)|(have hd:=decide_eq_true hc;(try(have hn:=Int.natCast_pos.mp hc;have hm:=decide_eq_true hn;replace hn:=eq_true hn));first|(obtain⟨g_,e_,i_⟩:=ew (by assumption) (by first|assumption|decide) hc;cases e_)|(obtain⟨a_,e_,c_⟩:=er (by assumption) (by first|assumption|decide) hc;cases e_)|(obtain⟨a_,e_,dC,dD,dE,dF⟩:=iC (cg.out (self:=by assumption)) _ (by first|assumption|decide) hc;cases e_;replace dC:=cK.mk dC;replace dD:=cK.mk dD;replace dE:=cK.mk dE;replace dF:=cK.mk dF))|(have hd:=decide_eq_true hc)|skip)|((with_reducible have hj:jA.j0 k _ _ _ _ _ _ _=_:=h);clear hj;rcases k with _|k<;>rw[jA.j0]at h<;>first|exact(none_some h).elim|skip)|((with_reducible replace h:=eu h);obtain⟨hl_,h⟩:=h;replace hl_:=A_ hl_;(try dsimp only at h)))
 all_goals go_enter Tryz.func99,Tryz.ntmps99
 all_goals go_wp2_with ((first
  |((with_reducible refine gate_dst (N:=1) rfl ?_);refine bV #[.slice aU ak.length c0_0,.int .i64 ax,.slice a6 aq.length aW] 27 fun g w1 j1 j2 j3=> ?_)
  |((with_reducible refine gate_dst (N:=2) rfl ?_);refine bV #[.slice none 0 0,.int .i64 0,.slice none 0 0] 27 fun g w1 j1 j2 j3=> ?_)
  |((with_reducible refine gate_dst (N:=4) rfl ?_);refine bV #[.slice none 0 0,.int .i64 0,.slice none 0 0] 27 fun g w1 j1 j2 j3=> ?_)
  |(go_at_call 53;(try rw[hl_.out]);replace h:=bI h;obtain⟨⟨t1,t2,t3⟩,A,h⟩:=h;(try dsimp only at h);refine(kI.calls _ _ _ _ _ _ _ _ _ _ _ Rd.out az.out Rd.out az.out A).mono ?_;rintro e w2 ⟨v0,v1,rfl,ho0,aY,hb⟩;obtain⟨B0,b0,rfl,j0,q0⟩:=aX ho0;obtain⟨B1,b1,rfl,j1,q1⟩:=aX aY;have jb:=aK.mk hb;clear A ho0 aY hb)
  |(go_at_call 55;(try rw[hl_.out]);replace h:=bI h;obtain⟨t,A,h⟩:=h;(try dsimp only at h);refine(lS.calls _ _ _ _ _ _ _ _ _ Rd.out az.out Rd.out az.out A).mono ?_;rintro e w2 ⟨rfl,hb⟩;have jb:=aK.mk hb;clear A hb)
  |(go_at_call 131;(try rw[hl_.out]);replace h:=bI h;obtain⟨t,A,h⟩:=h;(try dsimp only at h);refine(lA.calls _ _ _ _ _ _ _ _ _ _ _ Rd.out az.out Rd.out az.out A).mono ?_;rintro e w2 ⟨rfl,hb⟩;have jb:=aK.mk hb;clear A hb)
  |(refine qR (id:=7) (ds:=[11]) (l:= #[false,false,false,false,false,false,false,false,false,false,false,false]) jA.Je jA.bits7 ?_;intro ag HW_ w3 jw u0 iu hHeld;refine qA 0 (some 27) ag ?_;refine qA 2 (some 29) ag ?_;refine qA 4 (some 31) ag ?_;refine qA 9 (some 36) ag ?_;refine qT 1 (some 28) ag HW_ hHeld ?_;refine qT 3 (some 30) ag HW_ hHeld ?_;refine qT 5 (some 32) ag HW_ hHeld ?_;refine qA 6 (some 33) ag ?_;refine qA 7 (some 34) ag ?_;refine qT 8 (some 35) ag HW_ hHeld ?_;refine qA 10 (some 37) ag ?_;refine qL 11 ag ?_;refine qD ag ?_));(repeat' first|((with_reducible replace h:=cG h);rcases h with ⟨hc,h⟩|⟨hc,h⟩<;>first|exact(none_some h).elim|exact absurd hc (by decide)|subst hc|(replace hc:=br hc;subst hc)|(replace hc:=ey hc;subst hc)|(replace hc:=hH_ hc;subst hc)|(have hd:(_==_)=true:=hc)|(have hd:(_==_)=false:=br hc)|(have hd:=hI_ hc;have he:=cD hc;clear hc)|(have hd:=cE hc;have he:=hL_ hc)|(have hd:=decide_eq_false hc)|(have hd:=decide_eq_true hc;(try(have hn:=Int.natCast_pos.mp hc;have hm:=decide_eq_true hn;replace hn:=eq_true hn));first|(obtain⟨g_,e_,i_⟩:=ew (by assumption) (by first|assumption|decide) hc;cases e_)|(obtain⟨a_,e_,c_⟩:=er (by assumption) (by first|assumption|decide) hc;cases e_)|(obtain⟨a_,e_,dC,dD,dE,dF⟩:=iC (cg.out (self:=by assumption)) _ (by first|assumption|decide) hc;cases e_;replace dC:=cK.mk dC;replace dD:=cK.mk dD;replace dE:=cK.mk dE;replace dF:=cK.mk dF))|(have hd:=decide_eq_true hc)|skip)|((with_reducible have hj:jA.j0 k _ _ _ _ _ _ _=_:=h);clear hj;rcases k with _|k<;>rw[jA.j0]at h<;>first|exact(none_some h).elim|skip)|((with_reducible replace h:=eu h);obtain⟨hl_,h⟩:=h;replace hl_:=A_ hl_;(try dsimp only at h))))
 all_goals simp only[Option.some.injEq,Prod.mk.injEq]at h
 all_goals obtain⟨rfl,rfl,rfl,rfl⟩:=h
 all_goals refine bodyPost_ret (results_ct rfl _ _ _ _ _ (0,0) _ rfl a7.out Tryz.underlying27 rfl (by kernel_rfl)) rfl ?_
 all_goals exact⟨_,_,rfl,(by first|exact cn|exact Kd.bM _ _ _ _ _|exact eB|exact irowFin' (by simp)),(by first|exact cn|exact Kd.bM _ _ _ _ _|exact eB|exact irowFin' (by simp)),From.out⟩
def jN.f (k:Nat) (ak:List (ar)) (ax:Int) (aq:List Int):Option ((List (ar))×Int×List Int×Bool):=(kI.f ak ax aq).bind fun sP=>((fY.f k ak ax aq).bind fun wS=>(if(wS.length:Int)=0 then(some (sP.1,sP.2.1,sP.2.2,false))else(if 0<(wS.length:Int)then((lA.f k ak ax aq (rd wS 0)).bind fun Wx=>(if Wx=0 then(some (sP.1,sP.2.1,sP.2.2,false))else(if 0≤(rd wS 0)then(if(rd wS 0)<(ak.length:Int)then(if 0≤((au ak (rd wS 0)).f1)then(if((au ak (rd wS 0)).f1)<(sP.2.2.length:Int)then(some (sP.1,sP.2.1,(sP.2.2.set (((au ak (rd wS 0)).f1):Int).toNat Wx),true))else(none))else(none))else(none))else(none))))else(none))))
def jN.T8:Bool×List (List Nat×List Nat):=(true,[([],[]),([0],[0]),([],[]),([2],[2]),([],[]),([4],[4]),([5],[5]),([3,6],[3,6]),([7],[7]),([8],[8]),([],[]),([1,9,0,1,2,3,4,5,6,7,8,9,10],[1,9]),([11,10,0,1,2,3,4,5,6,7,8,9,10],[10,11])])
def jN.B8:List Nat:=[0,1,0,4,0,16,48,124,252,508,0,2047,4095]
theorem jN.tD:rtab .any (opsOf Tryz.f101 8)=jN.T8:=by kernel_rfl
theorem jN.sN:eN jN.T8.2 jN.B8=true:=by kernel_rfl
noncomputable def jN.T5:Bool×List (List Nat×List Nat):=rtab .any (opsOf Tryz.f101 5)
def jN.B5:List Nat:=[0,0,2,6,15,31]
theorem jN.FP:rtab .any (opsOf Tryz.f101 5)=jN.T5:=rfl
theorem jN.Cv:eN jN.T5.2 jN.B5=true:=by kernel_rfl
theorem jN.calls (k:Nat) (aU:Option Addr) (c0_0:Nat) (ak:List (ar)) (ax:Int) (a6:Option Addr) (aW:Nat) (aq:List Int) (r1:List (ar)) (r2:Int) (r3:List Int) (r4:Bool) (w:World) (cp:Kd.C bl w aU ak.length ak) (cx:ak.length≤c0_0) (cv:Kd.C (Kd.int .i64) w a6 aq.length aq) (cA:aq.length≤aW) (h:jN.f k ak ax aq=some (r1,r2,r3,r4)):
  Calls Tryz.prog 101 #[.agg #[.slice aU ak.length c0_0,.int .i64 ax,.slice a6 aq.length aW]] w fun e w'=>∃v0_ cB:Value,e= .returned (.tuple #[.agg #[v0_,.int .i64 r2,cB],.bool r4])∧Kd.R bl 110 w' w.heap.size (fun _=>True) v0_ r1∧Kd.R (Kd.int .i64) 3 w' w.heap.size (fun _=>True) cB r3∧Below w.heap.size w w':=by
 replace cp:=cg.mk cp;replace cx:=az.mk cx;replace cv:=cg.mk cv;replace cA:=az.mk cA;have s8:=en.mk (d:=bl) (e:=110) (t:=3) (by decide);have yE:=en.mk (d:=bl) (e:=110) (t:=27) (by decide);unfold jN.f at h;have lR:=Tryz.underlying27
 (repeat' first|((with_reducible replace h:=cG h);rcases h with ⟨hc,h⟩|⟨hc,h⟩<;>first|exact(none_some h).elim|exact absurd hc (by decide)|subst hc|(replace hc:=br hc;subst hc)|(replace hc:=ey hc;subst hc)|(replace hc:=hH_ hc;subst hc)|(have hd:(_==_)=true:=hc)|(have hd:(_==_)=false:=br hc)|(have hd:=hI_ hc;have he:=cD hc;clear hc)|(have hd:=cE hc;have he:=hL_ hc)|(have hd:=decide_eq_false hc)|(have hd:=decide_eq_true hc;(try(have hn:=Int.natCast_pos.mp hc;have hm:=decide_eq_true hn;replace hn:=eq_true hn));first|(obtain⟨g_,e_,i_⟩:=ew (by assumption) (by first|assumption|decide) hc;cases e_)|(obtain⟨a_,e_,c_⟩:=er (by assumption) (by first|assumption|decide) hc;cases e_)|(obtain⟨a_,e_,dC,dD,dE,dF⟩:=iC (cg.out (self:=by assumption)) _ (by first|assumption|decide) hc;cases e_;replace dC:=cK.mk dC;replace dD:=cK.mk dD;replace dE:=cK.mk dE;replace dF:=cK.mk dF))|(have hd:=decide_eq_true hc)|skip)|((with_reducible replace h:=eu h);obtain⟨hl_,h⟩:=h;replace hl_:=A_ hl_;(try dsimp only at h)))
 all_goals go_enter Tryz.func101,Tryz.ntmps101
 all_goals go_wp2_with ((first
  |((with_reducible refine gate_dst (N:=1) rfl ?_);refine bV #[.slice aU ak.length c0_0,.int .i64 ax,.slice a6 aq.length aW] 27 fun g w1 j1 j2 j3=> ?_)
  |((with_reducible refine gate_dst (N:=2) rfl ?_);refine bV #[.slice none 0 0,.int .i64 0,.slice none 0 0] 27 fun g w1 j1 j2 j3=> ?_)
  |((with_reducible refine gate_dst (N:=4) rfl ?_);refine bV #[.slice none 0 0,.int .i64 0,.slice none 0 0] 27 fun g w1 j1 j2 j3=> ?_)
  |(go_at_call 53;(try rw[hl_.out]);replace h:=bI h;obtain⟨⟨t1,t2,t3⟩,A,h⟩:=h;(try dsimp only at h);refine(kI.calls _ _ _ _ _ _ _ _ _ _ _ Rd.out az.out Rd.out az.out A).mono ?_;rintro e w2 ⟨v0,v1,rfl,ho0,aY,hb⟩;obtain⟨B0,b0,rfl,j0,q0⟩:=aX ho0;obtain⟨B1,b1,rfl,j1,q1⟩:=aX aY;have jb:=aK.mk hb;clear A ho0 aY hb)
  |(go_at_call 100;(try rw[hl_.out]);replace h:=bI h;obtain⟨t,A,h⟩:=h;(try dsimp only at h);refine(fY.calls _ _ _ _ _ _ _ _ _ _ Rd.out az.out Rd.out az.out A).mono ?_;rintro e w2 ⟨v0,rfl,ho0,hb⟩;obtain⟨B0,b0,rfl,j0,q0⟩:=aX ho0;have jb:=aK.mk hb;clear A ho0 hb)
  |(refine qR (id:=5) (ds:=[]) (l:= #[false,false,false,false,false,false]) jN.FP jN.Cv ?_;intro ag HW_ w3 jw u0 iu hHeld;refine qA 1 (some 16) ag ?_;refine qA 2 (some 17) ag ?_;refine qT 0 (some 15) ag HW_ hHeld ?_;refine qT 3 (some 18) ag HW_ hHeld ?_;replace h:=bI h;obtain⟨t,A,h⟩:=h;(try dsimp only at h);refine qC 4 19 Tryz.func131 ag fun K hK=> ?_;refine(lA.calls _ _ _ _ _ _ _ _ _ _ _ Rd.out az.out Rd.out az.out A).mono ?_;rintro e w2 ⟨rfl,hb⟩;have jb:=aK.mk hb;clear A hb;refine⟨_,rfl,hK _ _ From.out fun hHeld=> ?_⟩;clear hK K;refine qN ?_;refine qA 5 (some 6) ag ?_;refine qD ag ?_)
  |(refine qR (id:=8) (ds:=[12]) (l:= #[false,false,false,false,false,false,false,false,false,false,false,false,false]) jN.tD jN.sN ?_;intro ag HW_ w3 jw u0 iu hHeld;refine qA 0 (some 23) ag ?_;refine qA 2 (some 25) ag ?_;refine qA 4 (some 27) ag ?_;refine qA 5 (some 28) ag ?_;refine qA 10 (some 33) ag ?_;refine qT 1 (some 24) ag HW_ hHeld ?_;refine qT 3 (some 26) ag HW_ hHeld ?_;refine qT 6 (some 29) ag HW_ hHeld ?_;refine qA 7 (some 30) ag ?_;refine qA 8 (some 31) ag ?_;refine qT 9 (some 32) ag HW_ hHeld ?_;refine qA 11 (some 34) ag ?_;refine qL 12 ag ?_;refine qD ag ?_));(repeat' first|((with_reducible replace h:=cG h);rcases h with ⟨hc,h⟩|⟨hc,h⟩<;>first|exact(none_some h).elim|exact absurd hc (by decide)|subst hc|(replace hc:=br hc;subst hc)|(replace hc:=ey hc;subst hc)|(replace hc:=hH_ hc;subst hc)|(have hd:(_==_)=true:=hc)|(have hd:(_==_)=false:=br hc)|(have hd:=hI_ hc;have he:=cD hc;clear hc)|(have hd:=cE hc;have he:=hL_ hc)|(have hd:=decide_eq_false hc)|(have hd:=decide_eq_true hc;(try(have hn:=Int.natCast_pos.mp hc;have hm:=decide_eq_true hn;replace hn:=eq_true hn));first|(obtain⟨g_,e_,i_⟩:=ew (by assumption) (by first|assumption|decide) hc;cases e_)|(obtain⟨a_,e_,c_⟩:=er (by assumption) (by first|assumption|decide) hc;cases e_)|(obtain⟨a_,e_,dC,dD,dE,dF⟩:=iC (cg.out (self:=by assumption)) _ (by first|assumption|decide) hc;cases e_;replace dC:=cK.mk dC;replace dD:=cK.mk dD;replace dE:=cK.mk dE;replace dF:=cK.mk dF))|(have hd:=decide_eq_true hc)|skip)|((with_reducible replace h:=eu h);obtain⟨hl_,h⟩:=h;replace hl_:=A_ hl_;(try dsimp only at h)));all_goals(try have hn:decide (0<t.length)=true:=decide_eq_true (by omega));all_goals(try have hn:decide (0<t.length)=false:=decide_eq_false (by omega)))
 all_goals simp only[Option.some.injEq,Prod.mk.injEq]at h
 all_goals obtain⟨rfl,rfl,rfl,rfl⟩:=h
 all_goals refine bodyPost_ret (results_ct rfl _ _ _ _ _ (0,0) _ rfl a7.out Tryz.underlying27 rfl (by kernel_rfl)) rfl ?_
 all_goals exact⟨_,_,rfl,(by first|exact cn|exact Kd.bM _ _ _ _ _|exact eB|exact irowFin' (by simp)),(by first|exact cn|exact Kd.bM _ _ _ _ _|exact eB|exact irowFin' (by simp)),From.out⟩
def iO.j0:Nat→Int→Int→Bool→List (ar)→Int→List Int→List (ar)→Int→List Int→Option ((List (ar))×Int×List Int×Bool)
 |0,_,_,_,_,_,_,_,_,_=>none
 |k+1,x1,x2,sB,akO,akP,akQ,Pc,Pd,JF=>if sB=true then(some (Pc,Pd,JF,false))else(if 0≤x1 then(if x1<(JF.length:Int)then((some (JF.set (x1:Int).toNat (wrap64 ((rd JF x1)+x2)):List Int)).bind fun XU=>((lS.f Pc Pd XU).bind fun ajL=>(if ajL=true then(some (Pc,Pd,XU,true))else((kI.f akO akP akQ).bind fun K4=>(some (K4.1,K4.2.1,K4.2.2,false))))))else(none))else(none))
def iO.f (k:Nat) (ak:List (ar)) (ax:Int) (aq:List Int) (a1:Int) (a2:Int):Option ((List (ar))×Int×List Int×Bool):=(kI.f ak ax aq).bind fun ql=>((lS.f ak ax aq).bind fun ajI=>(if ajI=true then((eK.f a1 0 11).bind fun ajJ=>(if ajJ=true then(if 0≤a1 then(if a1<(aq.length:Int)then(if(rd aq a1)=0 then(iO.j0 k a1 a2 true ak ax aq ql.1 ql.2.1 ql.2.2)else((eK.f a2 (-100000) 100000).bind fun ajK=>(iO.j0 k a1 a2 (!ajK) ak ax aq ql.1 ql.2.1 ql.2.2)))else(none))else(none))else(iO.j0 k a1 a2 true ak ax aq ql.1 ql.2.1 ql.2.2)))else(iO.j0 k a1 a2 true ak ax aq ql.1 ql.2.1 ql.2.2)))
def iO.T4:Bool×List (List Nat×List Nat):=(true,[([],[]),([0],[0]),([],[]),([],[]),([3],[3]),([],[]),([4,5],[4,5]),([6],[6]),([],[]),([7,8],[7,8]),([1,2,0,1,2,3,4,5,6,7,8,9],[1,2]),([10,9,0,1,2,3,4,5,6,7,8,9],[9,10])])
def iO.B4:List Nat:=[0,1,0,0,8,0,56,120,0,504,1023,2047]
theorem iO.zw:rtab .any (opsOf Tryz.f103 4)=iO.T4:=by kernel_rfl
theorem iO.xC:eN iO.T4.2 iO.B4=true:=by kernel_rfl
theorem iO.calls (k:Nat) (aU:Option Addr) (c0_0:Nat) (ak:List (ar)) (ax:Int) (a6:Option Addr) (aW:Nat) (aq:List Int) (a1:Int) (a2:Int) (r1:List (ar)) (r2:Int) (r3:List Int) (r4:Bool) (w:World) (cp:Kd.C bl w aU ak.length ak) (cx:ak.length≤c0_0) (cv:Kd.C (Kd.int .i64) w a6 aq.length aq) (cA:aq.length≤aW) (h:iO.f k ak ax aq a1 a2=some (r1,r2,r3,r4)):
  Calls Tryz.prog 103 #[.agg #[.slice aU ak.length c0_0,.int .i64 ax,.slice a6 aq.length aW],.int .i64 a1,.int .i64 a2] w fun e w'=>∃v0_ cB:Value,e= .returned (.tuple #[.agg #[v0_,.int .i64 r2,cB],.bool r4])∧Kd.R bl 110 w' w.heap.size (fun _=>True) v0_ r1∧Kd.R (Kd.int .i64) 3 w' w.heap.size (fun _=>True) cB r3∧Below w.heap.size w w':=by
 replace cp:=cg.mk cp;replace cx:=az.mk cx;replace cv:=cg.mk cv;replace cA:=az.mk cA;have s8:=en.mk (d:=bl) (e:=110) (t:=3) (by decide);have yE:=en.mk (d:=bl) (e:=110) (t:=27) (by decide);unfold iO.f at h;have lR:=Tryz.underlying27
 (repeat' first|((with_reducible replace h:=cG h);rcases h with ⟨hc,h⟩|⟨hc,h⟩<;>first|exact(none_some h).elim|exact absurd hc (by decide)|subst hc|(replace hc:=br hc;subst hc)|(replace hc:=ey hc;subst hc)|(replace hc:=hH_ hc;subst hc)|(have hd:(_==_)=true:=hc)|(have hd:(_==_)=false:=br hc)|(have hd:=hI_ hc;have he:=cD hc;clear hc)|(have hd:=cE hc;have he:=hL_ hc)|(have hd:=decide_eq_false hc)|(have hd:=decide_eq_true hc;(try(have hn:=Int.natCast_pos.mp hc;have hm:=decide_eq_true hn;replace hn:=eq_true hn));first|(obtain⟨g_,e_,i_⟩:=ew (by assumption) (by first|assumption|decide) hc;cases e_)|(obtain⟨a_,e_,c_⟩:=er (by assumption) (by first|assumption|decide) hc;cases e_))|(have hd:=decide_eq_true hc)|skip)|((with_reducible have hj:iO.j0 k _ _ _ _ _ _ _ _ _=_:=h);clear hj;rcases k with _|k<;>rw[iO.j0]at h<;>first|exact(none_some h).elim|skip)|((with_reducible replace h:=eu h);obtain⟨hl_,h⟩:=h;replace hl_:=A_ hl_;(try dsimp only at h)))
 all_goals go_enter Tryz.func103,Tryz.ntmps103
 all_goals go_wp2_with ((first
  |((with_reducible refine gate_dst (N:=3) rfl ?_);refine bV #[.slice aU ak.length c0_0,.int .i64 ax,.slice a6 aq.length aW] 27 fun g w1 j1 j2 j3=> ?_)
  |((with_reducible refine gate_dst (N:=6) rfl ?_);refine bV #[.slice none 0 0,.int .i64 0,.slice none 0 0] 27 fun g w1 j1 j2 j3=> ?_)
  |((with_reducible refine gate_dst (N:=8) rfl ?_);refine bV #[.slice none 0 0,.int .i64 0,.slice none 0 0] 27 fun g w1 j1 j2 j3=> ?_)
  |(go_at_call 53;(try rw[hl_.out]);replace h:=bI h;obtain⟨⟨t1,t2,t3⟩,A,h⟩:=h;(try dsimp only at h);refine(kI.calls _ _ _ _ _ _ _ _ _ _ _ Rd.out az.out Rd.out az.out A).mono ?_;rintro e w2 ⟨v0,v1,rfl,ho0,aY,hb⟩;obtain⟨B0,b0,rfl,j0,q0⟩:=aX ho0;obtain⟨B1,b1,rfl,j1,q1⟩:=aX aY;have jb:=aK.mk hb;clear A ho0 aY hb)
  |(go_at_call 55;(try rw[hl_.out]);replace h:=bI h;obtain⟨t,A,h⟩:=h;(try dsimp only at h);refine(lS.calls _ _ _ _ _ _ _ _ _ Rd.out az.out Rd.out az.out A).mono ?_;rintro e w2 ⟨rfl,hb⟩;have jb:=aK.mk hb;clear A hb)
  |(go_at_call 58;(try rw[hl_.out]);replace h:=bI h;obtain⟨t,A,h⟩:=h;(try dsimp only at h);refine(eK.calls _ _ _ _ _ A).mono ?_;rintro e w2 ⟨rfl,n,rfl⟩;clear A)
  |(refine qR (id:=4) (ds:=[11]) (l:= #[false,false,false,false,false,false,false,false,false,false,false,false]) iO.zw iO.xC ?_;intro ag HW_ w3 jw u0 iu hHeld;refine qA 0 (some 33) ag ?_;refine qA 2 (some 35) ag ?_;refine qA 3 (some 36) ag ?_;refine qA 5 (some 38) ag ?_;refine qA 8 (some 41) ag ?_;refine qT 1 (some 34) ag HW_ hHeld ?_;refine qT 4 (some 37) ag HW_ hHeld ?_;refine qA 6 (some 39) ag ?_;refine qT 7 (some 40) ag HW_ hHeld ?_;refine qA 9 (some 42) ag ?_;refine qA 10 (some 43) ag ?_;refine qL 11 ag ?_;refine qD ag ?_));(repeat' first|((with_reducible replace h:=cG h);rcases h with ⟨hc,h⟩|⟨hc,h⟩<;>first|exact(none_some h).elim|exact absurd hc (by decide)|subst hc|(replace hc:=br hc;subst hc)|(replace hc:=ey hc;subst hc)|(replace hc:=hH_ hc;subst hc)|(have hd:(_==_)=true:=hc)|(have hd:(_==_)=false:=br hc)|(have hd:=hI_ hc;have he:=cD hc;clear hc)|(have hd:=cE hc;have he:=hL_ hc)|(have hd:=decide_eq_false hc)|(have hd:=decide_eq_true hc;(try(have hn:=Int.natCast_pos.mp hc;have hm:=decide_eq_true hn;replace hn:=eq_true hn));first|(obtain⟨g_,e_,i_⟩:=ew (by assumption) (by first|assumption|decide) hc;cases e_)|(obtain⟨a_,e_,c_⟩:=er (by assumption) (by first|assumption|decide) hc;cases e_))|(have hd:=decide_eq_true hc)|skip)|((with_reducible have hj:iO.j0 k _ _ _ _ _ _ _ _ _=_:=h);clear hj;rcases k with _|k<;>rw[iO.j0]at h<;>first|exact(none_some h).elim|skip)|((with_reducible replace h:=eu h);obtain⟨hl_,h⟩:=h;replace hl_:=A_ hl_;(try dsimp only at h))))
 all_goals simp only[Option.some.injEq,Prod.mk.injEq]at h
 all_goals obtain⟨rfl,rfl,rfl,rfl⟩:=h
 all_goals refine bodyPost_ret (results_ct rfl _ _ _ _ _ (0,0) _ rfl a7.out Tryz.underlying27 rfl (by kernel_rfl)) rfl ?_
 all_goals exact⟨_,_,rfl,(by first|exact cn|exact Kd.bM _ _ _ _ _|exact eB|exact irowFin' (by simp)),(by first|exact cn|exact Kd.bM _ _ _ _ _|exact eB|exact irowFin' (by simp)),From.out⟩
def nw.f (k:Nat) (a0:Int) (l1:List (ar)):Option ((List (ar))×Int×List Int×Bool):=(fu.f k a0 l1).bind fun abC=>(if abC.2=true then((impl_copyPlan.f l1).bind fun ai5=>(if 12≤35184372088832 then((some (List.replicate 12 0:List Int)).bind fun Xr=>(if 0<(Xr.length:Int)then(some (ai5,0,(Xr.set (0:Int).toNat a0),true))else(none)))else(none)))else(some (([]:List (ar)),0,([]:List Int),false)))
noncomputable def nw.T4:Bool×List (List Nat×List Nat):=rtab .any (opsOf Tryz.f87 4)
def nw.B4:List Nat:=[0,1,0,7,0,31]
theorem nw.zw:rtab .any (opsOf Tryz.f87 4)=nw.T4:=rfl
theorem nw.xC:eN nw.T4.2 nw.B4=true:=by kernel_rfl
theorem nw.calls (k:Nat) (a0:Int) (A1:Option Addr) (c1:Nat) (l1:List (ar)) (r1:List (ar)) (r2:Int) (r3:List Int) (r4:Bool) (w:World) (hr1:Kd.C bl w A1 l1.length l1) (hc1:l1.length≤c1) (h:nw.f k a0 l1=some (r1,r2,r3,r4)):
  Calls Tryz.prog 87 #[.int .i64 a0,.slice A1 l1.length c1] w fun e w'=>∃v0_ cB:Value,e= .returned (.tuple #[.agg #[v0_,.int .i64 r2,cB],.bool r4])∧Kd.R bl 110 w' w.heap.size (fun _=>True) v0_ r1∧Kd.R (Kd.int .i64) 3 w' w.heap.size (fun _=>True) cB r3∧Below w.heap.size w w':=by
 replace hr1:=cg.mk hr1;replace hc1:=az.mk hc1;have s8:=en.mk (d:=bl) (e:=110) (t:=3) (by decide);have yE:=en.mk (d:=bl) (e:=110) (t:=27) (by decide);unfold nw.f at h;have lR:=Tryz.underlying27
 (repeat' first|((with_reducible replace h:=cG h);rcases h with ⟨hc,h⟩|⟨hc,h⟩<;>first|exact(none_some h).elim|exact absurd hc (by decide)|subst hc|(replace hc:=br hc;subst hc)|(replace hc:=ey hc;subst hc)|(replace hc:=hH_ hc;subst hc)|(have hd:(_==_)=true:=hc)|(have hd:(_==_)=false:=br hc)|(have hd:=hI_ hc;have he:=cD hc;clear hc)|(have hd:=cE hc;have he:=hL_ hc)|(have hd:=decide_eq_false hc)|(have hd:=decide_eq_true hc;(try(have hn:=Int.natCast_pos.mp hc;have hm:=decide_eq_true hn;replace hn:=eq_true hn));first|(obtain⟨g_,e_,i_⟩:=ew (by assumption) (by first|assumption|decide) hc;cases e_)|(obtain⟨a_,e_,c_⟩:=er (by assumption) (by first|assumption|decide) hc;cases e_))|(have hd:=decide_eq_true hc)|skip)|((with_reducible replace h:=eu h);obtain⟨hl_,h⟩:=h;replace hl_:=A_ hl_;(try dsimp only at h)))
 all_goals go_enter Tryz.func87,Tryz.ntmps87
 all_goals go_wp2_with ((first
  |((with_reducible refine gate_dst (N:=4) rfl ?_);refine bV #[.slice none 0 0,.int .i64 0,.slice none 0 0] 27 fun g w1 j1 j2 j3=> ?_)
  |(go_at_call 127;(try rw[hl_.out]);replace h:=bI h;obtain⟨⟨t1,t2⟩,A,h⟩:=h;(try dsimp only at h);refine(fu.calls _ _ _ _ _ _ _ _ Rd.out az.out A).mono ?_;rintro e w2 ⟨v0,rfl,ho0,hb⟩;obtain⟨B0,b0,rfl,j0,q0⟩:=aX ho0;have jb:=aK.mk hb;clear A ho0 hb)
  |(refine qR (id:=4) (ds:=[]) (l:= #[false,false,false,false,false,false]) nw.zw nw.xC ?_;intro ag HW_ w3 jw u0 iu hHeld;replace h:=bI h;obtain⟨r1t,A1,h⟩:=h;(try dsimp only at h);refine qA 0 (some 18) ag ?_;refine VN 1 2 4 (some 19) (some 20) (some 8) ag (fun K hK=> ?_) (fun K hK=> ?_) (fun K hK=> ?_);(focus (refine gH Tryz.func96 (by kernel_rfl) rfl _ (by rfl) rfl rfl (by(try simp only[List.map_toArray,List.map_cons,List.map_nil]);rfl) ?_;refine(impl_copyPlan.calls _ _ _ _ _ Rd.out az.out A1).mono ?_;rintro e u1 ⟨v0,rfl,ho0,hb⟩;obtain⟨B0,b0,rfl,j0,q0⟩:=aX ho0;have jb:=aK.mk hb;(try clear ho0 hb);refine⟨_,rfl,hK.out _ _ From.out fun hHeld=> ?_⟩;clear hK K;refine qN ?_;refine wE 2 4 (some 20) (some 8) ag (fun K hK=> ?_) (fun K hK=> ?_);(focus (refine tj 3 20 25 _ _ 12 8 Tryz.underlying25 info3 (by decide) (by decide) ?_;intro B2 b2 u2 j2 s5;generalize List.replicate 12 (0:Int)=y2 at h j2 ⊢;refine hK.out _ _ From.out fun hHeld=> ?_;clear hK K;refine qN ?_;refine qA 3 (some 21) ag ?_;refine pH 4 (some 8) ag fun K hK=> ?_;refine tk 8 #[.slice none 0 0,.int .i64 0,.slice none 0 0] 27 ?_;intro g4 uR u4 uS uT;refine hK.out _ _ From.out fun hHeld=> ?_;clear hK K;refine qN ?_;refine qS 5 ag fun hHeld=> ?_;refine qD ag ?_));rotate_left 1;(focus (refine tk 8 #[.slice none 0 0,.int .i64 0,.slice none 0 0] 27 ?_;intro g4 uR u4 uS uT;refine hK.out _ _ From.out fun hHeld=> ?_;clear hK K;refine qN ?_;refine pH 2 (some 20) ag fun K hK=> ?_;refine tj 3 20 25 _ _ 12 8 Tryz.underlying25 info3 (by decide) (by decide) ?_;intro B2 b2 u2 j2 s5;generalize List.replicate 12 (0:Int)=y2 at h j2 ⊢;refine hK.out _ _ From.out fun hHeld=> ?_;clear hK K;refine qN ?_;refine qA 3 (some 21) ag ?_;refine qS 5 ag fun hHeld=> ?_;refine qD ag ?_))));rotate_left 2;(focus (refine tj 3 20 25 _ _ 12 8 Tryz.underlying25 info3 (by decide) (by decide) ?_;intro B2 b2 u2 j2 s5;generalize List.replicate 12 (0:Int)=y2 at h j2 ⊢;refine hK.out _ _ From.out fun hHeld=> ?_;clear hK K;refine qN ?_;refine wE 1 4 (some 19) (some 8) ag (fun K hK=> ?_) (fun K hK=> ?_);(focus (refine gH Tryz.func96 (by kernel_rfl) rfl _ (by rfl) rfl rfl (by(try simp only[List.map_toArray,List.map_cons,List.map_nil]);rfl) ?_;refine(impl_copyPlan.calls _ _ _ _ _ Rd.out az.out A1).mono ?_;rintro e u1 ⟨v0,rfl,ho0,hb⟩;obtain⟨B0,b0,rfl,j0,q0⟩:=aX ho0;have jb:=aK.mk hb;(try clear ho0 hb);refine⟨_,rfl,hK.out _ _ From.out fun hHeld=> ?_⟩;clear hK K;refine qN ?_;refine qA 3 (some 21) ag ?_;refine pH 4 (some 8) ag fun K hK=> ?_;refine tk 8 #[.slice none 0 0,.int .i64 0,.slice none 0 0] 27 ?_;intro g4 uR u4 uS uT;refine hK.out _ _ From.out fun hHeld=> ?_;clear hK K;refine qN ?_;refine qS 5 ag fun hHeld=> ?_;refine qD ag ?_));rotate_left 1;(focus (refine tk 8 #[.slice none 0 0,.int .i64 0,.slice none 0 0] 27 ?_;intro g4 uR u4 uS uT;refine hK.out _ _ From.out fun hHeld=> ?_;clear hK K;refine qN ?_;refine pH 1 (some 19) ag fun K hK=> ?_;refine gH Tryz.func96 (by kernel_rfl) rfl _ (by rfl) rfl rfl (by(try simp only[List.map_toArray,List.map_cons,List.map_nil]);rfl) ?_;refine(impl_copyPlan.calls _ _ _ _ _ Rd.out az.out A1).mono ?_;rintro e u1 ⟨v0,rfl,ho0,hb⟩;obtain⟨B0,b0,rfl,j0,q0⟩:=aX ho0;have jb:=aK.mk hb;(try clear ho0 hb);refine⟨_,rfl,hK.out _ _ From.out fun hHeld=> ?_⟩;clear hK K;refine qN ?_;refine qA 3 (some 21) ag ?_;refine qS 5 ag fun hHeld=> ?_;refine qD ag ?_))));rotate_left 2;(focus (refine tk 8 #[.slice none 0 0,.int .i64 0,.slice none 0 0] 27 ?_;intro g4 uR u4 uS uT;refine hK.out _ _ From.out fun hHeld=> ?_;clear hK K;refine qN ?_;refine wE 1 2 (some 19) (some 20) ag (fun K hK=> ?_) (fun K hK=> ?_);(focus (refine gH Tryz.func96 (by kernel_rfl) rfl _ (by rfl) rfl rfl (by(try simp only[List.map_toArray,List.map_cons,List.map_nil]);rfl) ?_;refine(impl_copyPlan.calls _ _ _ _ _ Rd.out az.out A1).mono ?_;rintro e u1 ⟨v0,rfl,ho0,hb⟩;obtain⟨B0,b0,rfl,j0,q0⟩:=aX ho0;have jb:=aK.mk hb;(try clear ho0 hb);refine⟨_,rfl,hK.out _ _ From.out fun hHeld=> ?_⟩;clear hK K;refine qN ?_;refine pH 2 (some 20) ag fun K hK=> ?_;refine tj 3 20 25 _ _ 12 8 Tryz.underlying25 info3 (by decide) (by decide) ?_;intro B2 b2 u2 j2 s5;generalize List.replicate 12 (0:Int)=y2 at h j2 ⊢;refine hK.out _ _ From.out fun hHeld=> ?_;clear hK K;refine qN ?_;refine qA 3 (some 21) ag ?_;refine qS 5 ag fun hHeld=> ?_;refine qD ag ?_));rotate_left 1;(focus (refine tj 3 20 25 _ _ 12 8 Tryz.underlying25 info3 (by decide) (by decide) ?_;intro B2 b2 u2 j2 s5;generalize List.replicate 12 (0:Int)=y2 at h j2 ⊢;refine hK.out _ _ From.out fun hHeld=> ?_;clear hK K;refine qN ?_;refine pH 1 (some 19) ag fun K hK=> ?_;refine gH Tryz.func96 (by kernel_rfl) rfl _ (by rfl) rfl rfl (by(try simp only[List.map_toArray,List.map_cons,List.map_nil]);rfl) ?_;refine(impl_copyPlan.calls _ _ _ _ _ Rd.out az.out A1).mono ?_;rintro e u1 ⟨v0,rfl,ho0,hb⟩;obtain⟨B0,b0,rfl,j0,q0⟩:=aX ho0;have jb:=aK.mk hb;(try clear ho0 hb);refine⟨_,rfl,hK.out _ _ From.out fun hHeld=> ?_⟩;clear hK K;refine qN ?_;refine qA 3 (some 21) ag ?_;refine qS 5 ag fun hHeld=> ?_;refine qD ag ?_))));all_goals((try simp only[Option.bind_some]at h);(repeat' first|((with_reducible replace h:=cG h);rcases h with ⟨hc,h⟩|⟨hc,h⟩<;>first|exact(none_some h).elim|exact absurd hc (by decide)|subst hc|(replace hc:=br hc;subst hc)|(replace hc:=ey hc;subst hc)|(replace hc:=hH_ hc;subst hc)|(have hd:(_==_)=true:=hc)|(have hd:(_==_)=false:=br hc)|(have hd:=hI_ hc;have he:=cD hc;clear hc)|(have hd:=cE hc;have he:=hL_ hc)|(have hd:=decide_eq_false hc)|(have hd:=decide_eq_true hc;(try(have hn:=Int.natCast_pos.mp hc;have hm:=decide_eq_true hn;replace hn:=eq_true hn));first|(obtain⟨g_,e_,i_⟩:=ew (by assumption) (by first|assumption|decide) hc;cases e_)|(obtain⟨a_,e_,c_⟩:=er (by assumption) (by first|assumption|decide) hc;cases e_))|(have hd:=decide_eq_true hc)|skip)|((with_reducible replace h:=eu h);obtain⟨hl_,h⟩:=h;replace hl_:=A_ hl_;(try dsimp only at h))))));(repeat' first|((with_reducible replace h:=cG h);rcases h with ⟨hc,h⟩|⟨hc,h⟩<;>first|exact(none_some h).elim|exact absurd hc (by decide)|subst hc|(replace hc:=br hc;subst hc)|(replace hc:=ey hc;subst hc)|(replace hc:=hH_ hc;subst hc)|(have hd:(_==_)=true:=hc)|(have hd:(_==_)=false:=br hc)|(have hd:=hI_ hc;have he:=cD hc;clear hc)|(have hd:=cE hc;have he:=hL_ hc)|(have hd:=decide_eq_false hc)|(have hd:=decide_eq_true hc;(try(have hn:=Int.natCast_pos.mp hc;have hm:=decide_eq_true hn;replace hn:=eq_true hn));first|(obtain⟨g_,e_,i_⟩:=ew (by assumption) (by first|assumption|decide) hc;cases e_)|(obtain⟨a_,e_,c_⟩:=er (by assumption) (by first|assumption|decide) hc;cases e_))|(have hd:=decide_eq_true hc)|skip)|((with_reducible replace h:=eu h);obtain⟨hl_,h⟩:=h;replace hl_:=A_ hl_;(try dsimp only at h))))
 all_goals simp only[Option.some.injEq,Prod.mk.injEq]at h
 all_goals obtain⟨rfl,rfl,rfl,rfl⟩:=h
 all_goals refine bodyPost_ret (results_ct rfl _ _ _ _ _ (0,0) _ rfl a7.out Tryz.underlying27 rfl (by kernel_rfl)) rfl ?_
 all_goals exact⟨_,_,(by first|rfl|(simp_all;done)),(by first|exact cn|exact Kd.bM _ _ _ _ _|exact eB|exact irowFin' (by simp)),(by first|exact cn|exact Kd.bM _ _ _ _ _|exact eB|exact irowFin' (by simp)),From.out⟩
end Go.Proofs.YtnjfiaekdcekgaaGreatDoor.P
namespace Go.Proofs.YtnjfiaekdcekgaaGreatDoor.P
set_option maxHeartbeats 8000000
set_option maxRecDepth 100000
set_option synthInstance.maxHeartbeats 400000
set_option synthInstance.maxSize 100000
open Go.RowKit Go.Proofs.YtnjfiaekdcekgaaGreatDoorW.bS Go.Proofs.YtnjfiaekdcekgaaGreatDoorW.dU Go.Proofs.YtnjfiaekdcekgaaGreatDoorW.dX Go.Proofs.YtnjfiaekdcekgaaGreatDoor.V
attribute [local go_sem] fV fW
attribute [local go_sem] fE fI fH fL fG fK fF fJ
def tv.f (k:Nat) (a0:Int) (l1:List (ar)):Option ((List (ar))×Int×List Int×Int×Int×(List (S64))×Bool):=(nH.f k a0 l1).bind fun G8=>(if G8.2.2.2=true then(some (G8.1,G8.2.1,G8.2.2.1,15,0,([]:List (S64)),true))else(some (([]:List (ar)),0,([]:List Int),0,0,([]:List (S64)),false)))
theorem tv.calls (k:Nat) (a0:Int) (A1:Option Addr) (c1:Nat) (l1:List (ar)) (r1:List (ar)) (r2:Int) (r3:List Int) (r4:Int) (r5:Int) (r6:List (S64)) (r7:Bool) (w:World) (hr1:Kd.C bl w A1 l1.length l1) (hc1:l1.length≤c1) (h:tv.f k a0 l1=some (r1,r2,r3,r4,r5,r6,r7)):
  Calls Tryz.prog 91 #[.int .i64 a0,.slice A1 l1.length c1] w fun e w'=>∃v0_ cB dL:Value,e= .returned (.tuple #[.agg #[v0_,.int .i64 r2,cB,.int .i64 r4,.int .i64 r5,dL],.bool r7])∧Kd.R bl 110 w' w.heap.size (fun _=>True) v0_ r1∧Kd.R (Kd.int .i64) 3 w' w.heap.size (fun _=>True) cB r3∧Kd.R k64 64 w' w.heap.size (fun _=>True) dL r6∧Below w.heap.size w w':=by
 replace hr1:=cg.mk hr1;replace hc1:=az.mk hc1;unfold tv.f at h;have lR:=Tryz.underlying27;have kp:=Tryz.underlying30
 (repeat' first|((with_reducible replace h:=cG h);rcases h with ⟨hc,h⟩|⟨hc,h⟩<;>first|exact(none_some h).elim|exact absurd hc (by decide)|subst hc|(replace hc:=br hc;subst hc)|(have hd:=hI_ hc;have he:=cD hc;clear hc)|(have hd:=cE hc;have he:=hL_ hc)|(have hd:=decide_eq_false hc)|(have hd:=decide_eq_true hc)|skip))
 all_goals go_enter Tryz.func91,Tryz.ntmps91
 all_goals go_wp2_with ((first
  |((with_reducible refine gate_dst (N:=4) rfl ?_);refine bV #[.slice none 0 0,.int .i64 0,.slice none 0 0,.int .i64 0,.int .i64 0,.slice none 0 0] 30 fun g w1 j1 j2 j3=> ?_)
  |((with_reducible refine gate_dst (N:=6) rfl ?_);refine bV #[.slice none 0 0,.int .i64 0,.slice none 0 0] 27 fun g w1 j1 j2 j3=> ?_)
  |(go_at_call 130;replace h:=bI h;obtain⟨⟨t1,t2,t3,t4⟩,A,h⟩:=h;(try dsimp only at h);refine(nH.calls _ _ _ _ _ _ _ _ _ _ Rd.out az.out A).mono ?_;rintro e w2 ⟨v0,v1,rfl,ho0,aY,hb⟩;obtain⟨B0,b0,rfl,j0,q0⟩:=aX ho0;obtain⟨B1,b1,rfl,j1,q1⟩:=aX aY;have jb:=aK.mk hb;clear A ho0 aY hb));(repeat' first|((with_reducible replace h:=cG h);rcases h with ⟨hc,h⟩|⟨hc,h⟩<;>first|exact(none_some h).elim|exact absurd hc (by decide)|subst hc|(replace hc:=br hc;subst hc)|(have hd:=hI_ hc;have he:=cD hc;clear hc)|(have hd:=cE hc;have he:=hL_ hc)|(have hd:=decide_eq_false hc)|(have hd:=decide_eq_true hc)|skip)))
 all_goals simp only[Option.some.injEq,Prod.mk.injEq]at h
 all_goals obtain⟨rfl,rfl,rfl,rfl,rfl,rfl,rfl⟩:=h
 all_goals refine bodyPost_ret (results_ct rfl _ _ _ _ _ (0,0) _ rfl a7.out Tryz.underlying30 rfl (by kernel_rfl)) rfl ?_
 all_goals exact⟨_,_,_,rfl,(by first|exact cn|exact Kd.bM _ _ _ _ _),(by first|exact cn|exact Kd.bM _ _ _ _ _),(by first|exact cn|exact Kd.bM _ _ _ _ _),From.out⟩
def zn.f (k:Nat):Option ((List (ar))×Int×List Int×Int×Int×(List (S64))):=(kz.f k 700).bind fun t172=>((tv.f k 264000 t172).bind fun Ag=>(some (Ag.1,Ag.2.1,Ag.2.2.1,Ag.2.2.2.1,Ag.2.2.2.2.1,Ag.2.2.2.2.2.1)))
theorem zn.calls (k:Nat)  (r1:List (ar)) (r2:Int) (r3:List Int) (r4:Int) (r5:Int) (r6:List (S64)) (w:World) (h:zn.f k=some (r1,r2,r3,r4,r5,r6)):
  Calls Tryz.prog 47 #[] w fun e w'=>∃v0_ cB dL:Value,e= .returned (.agg #[v0_,.int .i64 r2,cB,.int .i64 r4,.int .i64 r5,dL])∧Kd.R bl 110 w' w.heap.size (fun _=>True) v0_ r1∧Kd.R (Kd.int .i64) 3 w' w.heap.size (fun _=>True) cB r3∧Kd.R k64 64 w' w.heap.size (fun _=>True) dL r6∧Below w.heap.size w w':=by
 unfold zn.f at h;have kp:=Tryz.underlying30
 (repeat' first|((with_reducible replace h:=cG h);rcases h with ⟨hc,h⟩|⟨hc,h⟩<;>first|exact(none_some h).elim|exact absurd hc (by decide)|subst hc|(replace hc:=br hc;subst hc)|(have hd:=hI_ hc;have he:=cD hc;clear hc)|(have hd:=cE hc;have he:=hL_ hc)|(have hd:=decide_eq_false hc)|(have hd:=decide_eq_true hc)|skip))
 all_goals go_enter Tryz.func47,Tryz.ntmps47
 all_goals go_wp2_with ((first
  |((with_reducible refine gate_dst (N:=0) rfl ?_);refine bV #[.slice none 0 0,.int .i64 0,.slice none 0 0,.int .i64 0,.int .i64 0,.slice none 0 0] 30 fun g w1 j1 j2 j3=> ?_)
  |((with_reducible refine gate_dst (N:=1) rfl ?_);refine bV #[.slice none 0 0,.int .i64 0,.slice none 0 0,.int .i64 0,.int .i64 0,.slice none 0 0] 30 fun g w1 j1 j2 j3=> ?_)
  |(go_at_call 92;replace h:=bI h;obtain⟨t,A,h⟩:=h;(try dsimp only at h);refine(kz.calls _ _ _ _ A).mono ?_;rintro e w2 ⟨v0,rfl,ho0,hb⟩;obtain⟨B0,b0,rfl,j0,q0⟩:=aX ho0;have jb:=aK.mk hb;clear A ho0 hb)
  |(go_at_call 91;replace h:=bI h;obtain⟨⟨t1,t2,t3,t4,t5,t6,t7⟩,A,h⟩:=h;(try dsimp only at h);refine(tv.calls _ _ _ _ _ _ _ _ _ _ _ _ _ Rd.out az.out A).mono ?_;rintro e w2 ⟨v0,v1,v2,rfl,ho0,aY,bB,hb⟩;obtain⟨B0,b0,rfl,j0,q0⟩:=aX ho0;obtain⟨B1,b1,rfl,j1,q1⟩:=aX aY;obtain⟨B2,b2,rfl,j2,q2⟩:=aX bB;have jb:=aK.mk hb;clear A ho0 aY bB hb));(repeat' first|((with_reducible replace h:=cG h);rcases h with ⟨hc,h⟩|⟨hc,h⟩<;>first|exact(none_some h).elim|exact absurd hc (by decide)|subst hc|(replace hc:=br hc;subst hc)|(have hd:=hI_ hc;have he:=cD hc;clear hc)|(have hd:=cE hc;have he:=hL_ hc)|(have hd:=decide_eq_false hc)|(have hd:=decide_eq_true hc)|skip));all_goals(try have hn:decide (0<t.length)=true:=decide_eq_true (by omega));all_goals(try have hn:decide (0<t.length)=false:=decide_eq_false (by omega)))
 all_goals simp only[Option.some.injEq,Prod.mk.injEq]at h
 all_goals obtain⟨rfl,rfl,rfl,rfl,rfl,rfl⟩:=h
 all_goals refine bodyPost_ret (results_cell_row rfl _ _ _ _ _ (0,0) _ rfl a7.out Tryz.underlying30 rfl (by kernel_rfl)) rfl ?_
 all_goals exact⟨_,_,_,rfl,(by first|exact cn|exact Kd.bM _ _ _ _ _),(by first|exact cn|exact Kd.bM _ _ _ _ _),(by first|exact cn|exact Kd.bM _ _ _ _ _),From.out⟩
def yf.f (k:Nat) (a0:Int) (l1:List (ar)):Option ((List (ar))×Int×List Int×Int×Int×(List (S64))×Bool):=(nw.f k a0 l1).bind fun G9=>(if G9.2.2.2=true then(some (G9.1,G9.2.1,G9.2.2.1,15,0,([]:List (S64)),true))else(some (([]:List (ar)),0,([]:List Int),0,0,([]:List (S64)),false)))
theorem yf.calls (k:Nat) (a0:Int) (A1:Option Addr) (c1:Nat) (l1:List (ar)) (r1:List (ar)) (r2:Int) (r3:List Int) (r4:Int) (r5:Int) (r6:List (S64)) (r7:Bool) (w:World) (hr1:Kd.C bl w A1 l1.length l1) (hc1:l1.length≤c1) (h:yf.f k a0 l1=some (r1,r2,r3,r4,r5,r6,r7)):
  Calls Tryz.prog 42 #[.int .i64 a0,.slice A1 l1.length c1] w fun e w'=>∃v0_ cB dL:Value,e= .returned (.tuple #[.agg #[v0_,.int .i64 r2,cB,.int .i64 r4,.int .i64 r5,dL],.bool r7])∧Kd.R bl 110 w' w.heap.size (fun _=>True) v0_ r1∧Kd.R (Kd.int .i64) 3 w' w.heap.size (fun _=>True) cB r3∧Kd.R k64 64 w' w.heap.size (fun _=>True) dL r6∧Below w.heap.size w w':=by
 replace hr1:=cg.mk hr1;replace hc1:=az.mk hc1;unfold yf.f at h;have lR:=Tryz.underlying27;have kp:=Tryz.underlying30
 (repeat' first|((with_reducible replace h:=cG h);rcases h with ⟨hc,h⟩|⟨hc,h⟩<;>first|exact(none_some h).elim|exact absurd hc (by decide)|subst hc|(replace hc:=br hc;subst hc)|(have hd:=hI_ hc;have he:=cD hc;clear hc)|(have hd:=cE hc;have he:=hL_ hc)|(have hd:=decide_eq_false hc)|(have hd:=decide_eq_true hc)|skip))
 all_goals go_enter Tryz.func42,Tryz.ntmps42
 all_goals go_wp2_with ((first
  |((with_reducible refine gate_dst (N:=4) rfl ?_);refine bV #[.slice none 0 0,.int .i64 0,.slice none 0 0,.int .i64 0,.int .i64 0,.slice none 0 0] 30 fun g w1 j1 j2 j3=> ?_)
  |((with_reducible refine gate_dst (N:=6) rfl ?_);refine bV #[.slice none 0 0,.int .i64 0,.slice none 0 0] 27 fun g w1 j1 j2 j3=> ?_)
  |(go_at_call 87;replace h:=bI h;obtain⟨⟨t1,t2,t3,t4⟩,A,h⟩:=h;(try dsimp only at h);refine(nw.calls _ _ _ _ _ _ _ _ _ _ Rd.out az.out A).mono ?_;rintro e w2 ⟨v0,v1,rfl,ho0,aY,hb⟩;obtain⟨B0,b0,rfl,j0,q0⟩:=aX ho0;obtain⟨B1,b1,rfl,j1,q1⟩:=aX aY;have jb:=aK.mk hb;clear A ho0 aY hb));(repeat' first|((with_reducible replace h:=cG h);rcases h with ⟨hc,h⟩|⟨hc,h⟩<;>first|exact(none_some h).elim|exact absurd hc (by decide)|subst hc|(replace hc:=br hc;subst hc)|(have hd:=hI_ hc;have he:=cD hc;clear hc)|(have hd:=cE hc;have he:=hL_ hc)|(have hd:=decide_eq_false hc)|(have hd:=decide_eq_true hc)|skip)))
 all_goals simp only[Option.some.injEq,Prod.mk.injEq]at h
 all_goals obtain⟨rfl,rfl,rfl,rfl,rfl,rfl,rfl⟩:=h
 all_goals refine bodyPost_ret (results_ct rfl _ _ _ _ _ (0,0) _ rfl a7.out Tryz.underlying30 rfl (by kernel_rfl)) rfl ?_
 all_goals exact⟨_,_,_,rfl,(by first|exact cn|exact Kd.bM _ _ _ _ _),(by first|exact cn|exact Kd.bM _ _ _ _ _),(by first|exact cn|exact Kd.bM _ _ _ _ _),From.out⟩
def sX.f (k:Nat):Option ((List (ar))×Int×List Int×Int×Int×(List (S64))):=(iQ.f k 700).bind fun ai6=>((yf.f k 264000 ai6).bind fun Ae=>(some (Ae.1,Ae.2.1,Ae.2.2.1,Ae.2.2.2.1,Ae.2.2.2.2.1,Ae.2.2.2.2.2.1)))
theorem sX.calls (k:Nat)  (r1:List (ar)) (r2:Int) (r3:List Int) (r4:Int) (r5:Int) (r6:List (S64)) (w:World) (h:sX.f k=some (r1,r2,r3,r4,r5,r6)):
  Calls Tryz.prog 17 #[] w fun e w'=>∃v0_ cB dL:Value,e= .returned (.agg #[v0_,.int .i64 r2,cB,.int .i64 r4,.int .i64 r5,dL])∧Kd.R bl 110 w' w.heap.size (fun _=>True) v0_ r1∧Kd.R (Kd.int .i64) 3 w' w.heap.size (fun _=>True) cB r3∧Kd.R k64 64 w' w.heap.size (fun _=>True) dL r6∧Below w.heap.size w w':=by
 unfold sX.f at h;have kp:=Tryz.underlying30
 (repeat' first|((with_reducible replace h:=cG h);rcases h with ⟨hc,h⟩|⟨hc,h⟩<;>first|exact(none_some h).elim|exact absurd hc (by decide)|subst hc|(replace hc:=br hc;subst hc)|(have hd:=hI_ hc;have he:=cD hc;clear hc)|(have hd:=cE hc;have he:=hL_ hc)|(have hd:=decide_eq_false hc)|(have hd:=decide_eq_true hc)|skip))
 all_goals go_enter Tryz.func17,Tryz.ntmps17
 all_goals go_wp2_with ((first
  |((with_reducible refine gate_dst (N:=0) rfl ?_);refine bV #[.slice none 0 0,.int .i64 0,.slice none 0 0,.int .i64 0,.int .i64 0,.slice none 0 0] 30 fun g w1 j1 j2 j3=> ?_)
  |((with_reducible refine gate_dst (N:=1) rfl ?_);refine bV #[.slice none 0 0,.int .i64 0,.slice none 0 0,.int .i64 0,.int .i64 0,.slice none 0 0] 30 fun g w1 j1 j2 j3=> ?_)
  |(go_at_call 43;replace h:=bI h;obtain⟨t,A,h⟩:=h;(try dsimp only at h);refine(iQ.calls _ _ _ _ A).mono ?_;rintro e w2 ⟨v0,rfl,ho0,hb⟩;obtain⟨B0,b0,rfl,j0,q0⟩:=aX ho0;have jb:=aK.mk hb;clear A ho0 hb)
  |(go_at_call 42;replace h:=bI h;obtain⟨⟨t1,t2,t3,t4,t5,t6,t7⟩,A,h⟩:=h;(try dsimp only at h);refine(yf.calls _ _ _ _ _ _ _ _ _ _ _ _ _ Rd.out az.out A).mono ?_;rintro e w2 ⟨v0,v1,v2,rfl,ho0,aY,bB,hb⟩;obtain⟨B0,b0,rfl,j0,q0⟩:=aX ho0;obtain⟨B1,b1,rfl,j1,q1⟩:=aX aY;obtain⟨B2,b2,rfl,j2,q2⟩:=aX bB;have jb:=aK.mk hb;clear A ho0 aY bB hb));(repeat' first|((with_reducible replace h:=cG h);rcases h with ⟨hc,h⟩|⟨hc,h⟩<;>first|exact(none_some h).elim|exact absurd hc (by decide)|subst hc|(replace hc:=br hc;subst hc)|(have hd:=hI_ hc;have he:=cD hc;clear hc)|(have hd:=cE hc;have he:=hL_ hc)|(have hd:=decide_eq_false hc)|(have hd:=decide_eq_true hc)|skip));all_goals(try have hn:decide (0<t.length)=true:=decide_eq_true (by omega));all_goals(try have hn:decide (0<t.length)=false:=decide_eq_false (by omega)))
 all_goals simp only[Option.some.injEq,Prod.mk.injEq]at h
 all_goals obtain⟨rfl,rfl,rfl,rfl,rfl,rfl⟩:=h
 all_goals refine bodyPost_ret (results_cell_row rfl _ _ _ _ _ (0,0) _ rfl a7.out Tryz.underlying30 rfl (by kernel_rfl)) rfl ?_
 all_goals exact⟨_,_,_,rfl,(by first|exact cn|exact Kd.bM _ _ _ _ _),(by first|exact cn|exact Kd.bM _ _ _ _ _),(by first|exact cn|exact Kd.bM _ _ _ _ _),From.out⟩
end Go.Proofs.YtnjfiaekdcekgaaGreatDoor.P
namespace Go.Proofs.YtnjfiaekdcekgaaGreatDoor.Q
open Go.RowKit Go.Proofs.YtnjfiaekdcekgaaGreatDoor.P Go.Proofs.YtnjfiaekdcekgaaGreatDoorW.bS Go.Proofs.YtnjfiaekdcekgaaGreatDoorW.dX
theorem copyPlan_eq (p:List ar) (hp:p.length≤4000000):impl_copyPlan.f p=some p:=by
  unfold impl_copyPlan.f;simp only[Option.bind_some];rw[if_pos (by simp;omega)];simp
theorem UT (p:List ar) (hp:p.length≤4000000):spec_l19Copy.f p=some p:=by
  unfold spec_l19Copy.f;simp only[Option.bind_some];rw[if_pos (by simp;omega)];simp
theorem afW (p:List Int) (hp:p.length≤4000000):Bq.f p=some p:=by
  unfold Bq.f;simp only[Option.bind_some];rw[if_pos (by simp;omega)];simp
theorem CQ (p:List ar) (d:Int) (q:List Int) (hp:p.length≤4000000) (hq:q.length≤4000000):kI.f p d q=some (p,d,q):=by
  unfold kI.f;rw[copyPlan_eq p hp];simp only[Option.bind_some];rw[if_pos (by simp;omega)];simp
theorem E1 (p:List ar) (d:Int) (q:List Int) (hp:p.length≤4000000) (hq:q.length≤4000000):oX.f p d q=some (p,d,q):=by
  unfold oX.f;rw[UT p hp];simp only[Option.bind_some];rw[afW q hq];rfl
theorem vX (p:List ar) (d:Int) (q:List Int) (a m:Int) (l:List S64) (hp:p.length≤4000000) (hq:q.length≤4000000) (hl:l.length≤4000000):jO.f p d q a m l=some (p,d,q,a,m,l):=by
  unfold jO.f;rw[CQ p d q hp hq,Option.bind_some,CP l hl];rfl
theorem yB (p:List ar) (d:Int) (q:List Int) (a m:Int) (l:List S64) (hp:p.length≤4000000) (hq:q.length≤4000000) (hl:l.length≤4000000):nI.f p d q a m l=some (p,d,q,a,m,l):=by
  unfold nI.f;rw[E1 p d q hp hq,Option.bind_some,IC l hl];rfl
def s7 (q:List Int) (c x:Int):List Int:=q.set c.toNat (wrap64 (q.getD c.toNat 0+x))
def lC (p:List ar) (d:Int) (q:List Int) (c x:Int):List ar×Int×List Int×Bool:=
  if eX p d q=true∧(0≤c∧c≤11)∧(-100000≤x∧x≤100000)∧q.getD c.toNat 0≠0 then
    if eX p d (s7 q c x)=true then(p,d,s7 q c x,true)else(p,d,q,false)
  else(p,d,q,false)
theorem afU (p:List ar) (d:Int) (q:List Int) (c x:Int) (hp:p.length≤4000000) (hq:q.length≤4000000):Ev (fun n=>iO.f n p d q c x) (lC p d q c x):=by
  have jt:Ev (fun n=>iO.j0 n c x true p d q p d q) (p,d,q,false):=Ev.step (fun n=>by rw[iO.j0]) (evp rfl (Ev.now _));unfold iO.f lC;refine bR (CQ p d q hp hq) (bR (Jo p d q) ?_);by_cases h:eX p d q=true;rotate_left
  · exact cq (fun h2=>h h2.1)<|aT h jt
  have hl:=workOk_len h;refine evp h (bR (oZ _ _ _) ?_);by_cases hc:0≤c∧c≤11;rotate_left
  · exact cq (fun h2=>hc h2.2.1)<|aT (Cs hc) jt
  refine evp (CG hc) (evp hc.1 (evp (by omega) ?_));rw[sf];by_cases hz:q.getD c.toNat 0=0
  · exact cq (fun h2=>h2.2.2.2 hz)<|evp hz jt
  refine aT hz (bR (oZ _ _ _) ?_);by_cases hx: -100000≤x∧x≤100000;rotate_left
  · rw[decide_eq_false hx];exact cq (fun h2=>hx h2.2.2.1) jt
  rw[decide_eq_true hx];refine df ⟨h,hc,hx,hz⟩ ?_;refine Ev.step (fun n=>by rw[iO.j0]) ?_;refine aT (by decide) (evp hc.1 (evp (by show c<(q.length:Int);omega) ?_));simp only[Option.bind_some,sf];refine bR (Jo p d _) ?_;by_cases h3:eX p d (s7 q c x)=true
  · exact df h3<|evp h3 (Ev.now _)
  · exact cq h3<|aT h3 (bR (CQ p d q hp hq) (Ev.now _))
theorem afV (p:List ar) (d:Int) (q:List Int) (c x:Int) (hp:p.length≤4000000) (hq:q.length≤4000000):Ev (fun n=>iU.f n p d q c x) (lC p d q c x):=by
  have jt:Ev (fun n=>iU.j0 n c x true p d q p d q) (p,d,q,false):=Ev.step (fun n=>by rw[iU.j0]) (evp rfl (Ev.now _));unfold iU.f lC;refine bR (E1 p d q hp hq) (Ev.bind (F7 p d q) ?_);by_cases h:eX p d q=true;rotate_left
  · exact cq (fun h2=>h h2.1)<|aT h jt
  have hl:=workOk_len h;refine evp h (bR (yA _ _ _) ?_);by_cases hc:0≤c∧c≤11;rotate_left
  · exact cq (fun h2=>hc h2.2.1)<|aT (Cs hc) jt
  refine evp (CG hc) (bR (yA _ _ _) ?_);by_cases hx: -100000≤x∧x≤100000;rotate_left
  · exact cq (fun h2=>hx h2.2.2.1)<|aT (Cs hx) jt
  refine evp (CG hx) (evp hc.1 (evp (by omega) ?_));rw[sf];by_cases hz:q.getD c.toNat 0=0
  · rw[show(q.getD c.toNat 0==0)=true by rw[hz];rfl];exact cq (fun h2=>h2.2.2.2 hz) jt
  rw[show(q.getD c.toNat 0==0)=false from beq_eq_false_iff_ne.mpr hz];refine df ⟨h,hc,hx,hz⟩ ?_;refine Ev.step (fun n=>by rw[iU.j0]) ?_;refine aT (by decide) (evp hc.1 (evp (by show c<(q.length:Int);omega) ?_));simp only[Option.bind_some,sf];refine Ev.bind (F7 p d _) ?_;by_cases h3:eX p d (s7 q c x)=true
  · exact df h3<|evp h3 (Ev.now _)
  · exact cq h3<|aT h3 (bR (E1 p d q hp hq) (Ev.now _))
theorem UR (p:List ar) (d:Int) (q:List Int) (c x:Int):(lC p d q c x).1=p∧(lC p d q c x).2.2.1.length=q.length:=by
  unfold lC;split
  · split
    · exact⟨rfl,by simp[s7]⟩
    · exact⟨rfl,rfl⟩
  · exact⟨rfl,rfl⟩
def oc (p:List ar) (q:List Int) (i:Nat):Bool:=decide (q.getD (p.getD i gb).f1.toNat 0≠jH p q i)
def jU (p:List ar) (q:List Int) (l:List Nat):List Int:=(l.filter (oc p q)).map (fun(i:Nat)=>(i:Int))
def ov (p:List ar) (d:Int) (q:List Int):List Int:=if eX p d q=true then jU p q (List.range d.toNat)else[]
theorem F8 (p:List ar) (q:List Int) (i:Nat) (l:List Nat):jU p q (i::l)=if oc p q i=true then(i:Int)::jU p q l else jU p q l:=by
  unfold jU;rw[List.filter_cons];split<;>rfl
theorem OL (p:List ar) (d:Int) (q:List Int):Ev (fun n=>fY.f n p d q) (ov p d q):=by
  unfold fY.f ov;refine bR (Jo p d q) ?_;by_cases h:eX p d q=true;rotate_left
  · exact cq h<|aT h (Ev.now _)
  have hp:=zA h;have hd:=BN h;have hq:=workOk_len h;have hl:=planOk_len hp;obtain⟨m,rfl⟩:=Int.eq_ofNat_of_zero_le hd.1;refine df h<|evp h (evp hd.1 (evp hd.2 ?_));simp only[Option.bind_some,Int.toNat_natCast]
  have key:∀i,i≤m→∀acc:List Int,acc.length≤i→Ev (fun n=>fY.l0 n acc (p.take m) ((p.take m).length:Int) (i:Int) p m q) (acc++jU p q ((List.range m).drop i)):=by
    refine down (n:=m) ?_ ?_
    · intro acc ha;refine Ev.step (fun n=>by rw[fY.l0]) (aT (by rw[List.length_take];omega) (evs ?_));rw[List.drop_eq_nil_of_le (by simp)];simp[jU]
    · intro i hi ih acc ha;obtain⟨k0,k1,k2,k3,k4⟩:=th hp p[i] (List.getElem_mem (by omega));have e:(p.take m)[i]'(by rw[List.length_take];omega)=p[i]:=(by simp);refine Ev.step (fun n=>by rw[fY.l0]) ?_;refine evp (by rw[List.length_take];omega) (evp (by omega) (evp (by rw[List.length_take];omega) ?_));rw[se (p.take m) i (by rw[List.length_take];omega),e];refine evp k2 (evp (by omega) (Ev.bind (Ov p _ q i hp hq (by omega)) ?_));rw[drop_cons _ i (by simpa using hi),List.getElem_range,sf,eH (n:=(i:Int)+1) (by omega) (by omega)];have g:=rP p i (by omega);have eb:oc p q i=decide (q.getD p[i].f1.toNat 0≠jH p q i):=(by unfold oc;rw[g]);by_cases hb:q.getD p[i].f1.toNat 0=jH p q i
      · rw[show jU p q (i::(List.range m).drop (i+1))=jU p q ((List.range m).drop (i+1))by rw[F8,eb,if_neg (by simp only[decide_eq_true_eq];exact fun h=>h hb)]];refine evp hb ?_;exact ih acc (by omega)
      · rw[show jU p q (i::(List.range m).drop (i+1))=(i:Int)::jU p q ((List.range m).drop (i+1))by rw[F8,eb,if_pos (by simp only[decide_eq_true_eq];exact hb)]];refine aT hb (evp (by omega) ?_);have:=ih (acc++[(i:Int)]) (by simp;omega);rw[List.append_assoc]at this;exact this
  have:=key 0 (Nat.zero_le _) [] (Nat.le_refl _);simpa using this
theorem WX (p:List ar) (d:Int) (q:List Int):Ev (fun n=>il.f n p d q) (ov p d q):=by
  unfold il.f ov;simp only[Option.bind_some];refine Ev.bind (F7 p d q) ?_;by_cases h:eX p d q=true;rotate_left
  · exact cq h<|aT h (Ev.now _)
  have hp:=zA h;have hd:=BN h;have hq:=workOk_len h;have hl:=planOk_len hp;obtain⟨m,rfl⟩:=Int.eq_ofNat_of_zero_le hd.1;refine df h<|evp h ?_;simp only[Int.toNat_natCast]
  have key:∀i,i≤m→∀acc:List Int,acc.length≤i→Ev (fun n=>il.l0 n acc (i:Int) p m q) (acc++jU p q ((List.range m).drop i)):=by
    refine down (n:=m) ?_ ?_
    · intro acc ha;refine Ev.step (fun n=>by rw[il.l0]) (aT (by omega) (evs ?_));rw[List.drop_eq_nil_of_le (by simp)];simp[jU]
    · intro i hi ih acc ha;obtain⟨k0,k1,k2,k3,k4⟩:=th hp p[i] (List.getElem_mem (by omega));refine Ev.step (fun n=>by rw[il.l0]) ?_;refine evp (by omega) (evp (by omega) (evp (by omega) ?_));rw[se p i (by omega)];refine evp k2 (evp (by omega) (evp k0 (evp (by omega) (Ev.bind (Jh _ _ _) ?_))));rw[drop_cons _ i (by simpa using hi),List.getElem_range,sf,sf,eH (n:=(i:Int)+1) (by omega) (by omega)];have g:=rP p i (by omega);have eb:oc p q i=decide (q.getD p[i].f1.toNat 0≠jH p q i):=(by unfold oc;rw[g]);by_cases hb:q.getD p[i].f1.toNat 0=jH p q i
      · rw[show jU p q (i::(List.range m).drop (i+1))=jU p q ((List.range m).drop (i+1))by rw[F8,eb,if_neg (by simp only[decide_eq_true_eq];exact fun h=>h hb)]];refine evp (by rw[hb];unfold jH;rw[g]) ?_;exact ih acc (by omega)
      · rw[show jU p q (i::(List.range m).drop (i+1))=(i:Int)::jU p q ((List.range m).drop (i+1))by rw[F8,eb,if_pos (by simp only[decide_eq_true_eq];exact hb)]];refine aT (by unfold jH at hb;rw[g]at hb;exact hb) (evp (by omega) ?_);have:=ih (acc++[(i:Int)]) (by simp;omega);rw[List.append_assoc]at this;exact this
  have:=key 0 (Nat.zero_le _) [] (Nat.le_refl _);simpa using this
def mj (p:List ar) (d:Int) (q:List Int):List ar×Int×List Int×Bool:=
  match ov p d q with
  |[]=>(p,d,q,false)
  |i::_=>if jH p q i.toNat=0 then(p,d,q,false)else(p,d,q.set (p.getD i.toNat gb).f1.toNat (jH p q i.toNat),true)
theorem WW {p:List ar} {d:Int} {q:List Int} {i:Int} {r:List Int} (h:ov p d q=i::r):eX p d q=true∧∃j:Nat,i=j∧(j:Int)<d∧j<p.length:=by
  unfold ov at h;by_cases hw:eX p d q=true;rotate_left
  · rw[if_neg hw]at h;exact absurd h (by simp)
  rw[if_pos hw]at h;refine⟨hw,?_⟩;have hi:i∈jU p q (List.range d.toNat):=by rw[h];exact List.mem_cons_self
  unfold jU at hi;obtain⟨j,hj,rfl⟩:=List.mem_map.1 hi;have hd:=BN hw;have:=List.mem_range.1 (List.mem_filter.1 hj).1;exact⟨j,rfl,by omega,by omega⟩
theorem agk (p:List ar) (d:Int) (q:List Int) (hp:p.length≤4000000) (hq:q.length≤4000000):Ev (fun n=>jN.f n p d q) (mj p d q):=by
  unfold jN.f mj;refine bR (CQ p d q hp hq) (Ev.bind (OL p d q) ?_);cases h:ov p d q with
  |nil=>exact evp rfl (Ev.now _)
  |cons i r=>
   obtain⟨hw,j,rfl,hj,hj2⟩:=WW h;have hp:=zA hw;have hq:=workOk_len hw;obtain⟨k0,k1,k2,k3,k4⟩:=th hp p[j] (List.getElem_mem hj2);refine aT (by simp;omega) (evp (by simp) ?_);rw[show rd ((j:Int)::r) 0=(j:Int)from rfl];refine Ev.bind (Ov p d q j hp hq hj2) ?_;simp only[Int.toNat_natCast];by_cases hz:jH p q j=0
   · exact df hz<|evp hz (Ev.now _)
   refine cq hz<|aT hz (evp (by omega) (evp (by omega) ?_));rw[se p j hj2,rP p j hj2];exact evp k2 (evp (by omega) (Ev.now _))
theorem agl (p:List ar) (d:Int) (q:List Int) (hp:p.length≤4000000) (hq:q.length≤4000000):Ev (fun n=>jQ.f n p d q) (mj p d q):=by
  unfold jQ.f mj;refine bR (E1 p d q hp hq) (Ev.bind (WX p d q) ?_);cases h:ov p d q with
  |nil=>exact evp rfl (Ev.now _)
  |cons i r=>
   obtain⟨hw,j,rfl,hj,hj2⟩:=WW h;have hp:=zA hw;have hq:=workOk_len hw;obtain⟨k0,k1,k2,k3,k4⟩:=th hp p[j] (List.getElem_mem hj2);refine aT (by simp;omega) (evp (by simp) ?_);rw[show rd ((j:Int)::r) 0=(j:Int)from rfl];refine evp (by omega) (evp (by omega) ?_);rw[se p j hj2];refine evp k0 (evp (by omega) (Ev.bind (Jh _ _ _) ?_));rw[sf];have et:kS (q.getD p[j].f0.toNat 0) p[j].f2 p[j].f3=jH p q j:=(by unfold jH;rw[rP p j hj2]);simp only[Int.toNat_natCast];rw[et,rP p j hj2];by_cases hz:jH p q j=0
   · exact df hz<|evp hz (Ev.now _)
   exact cq hz<|aT hz (evp k2 (evp (by omega) (Ev.now _)))
theorem U7 (p:List ar) (d:Int) (q:List Int):(mj p d q).1=p∧(mj p d q).2.1=d∧(mj p d q).2.2.1.length=q.length:=by
  unfold mj;split
  · exact⟨rfl,rfl,rfl⟩
  · split
    · exact⟨rfl,rfl,rfl⟩
    · exact⟨rfl,rfl,by simp⟩
def l6 (p:List ar) (d:Int) (q:List Int):List ar×Int×List Int×Bool:=
  if eX p d q=true then
    if d=(p.length:Int)then(p,d,q,false)
    else if jH p q d.toNat=0 then(p,d,q,false)
    else(p,d+1,q.set (p.getD d.toNat gb).f1.toNat (jH p q d.toNat),true)
  else(p,d,q,false)
theorem aiH (p:List ar) (d:Int) (q:List Int) (hp:p.length≤4000000) (hq:q.length≤4000000):Ev (fun n=>jA.f n p d q) (l6 p d q):=by
  have jt:Ev (fun n=>jA.j0 n true p d q p d q) (p,d,q,false):=Ev.step (fun n=>by rw[jA.j0]) (evp rfl (Ev.now _));unfold jA.f l6;refine bR (CQ p d q hp hq) (bR (Jo p d q) ?_);by_cases h:eX p d q=true;rotate_left
  · exact cq h<|aT h jt
  refine df h<|evp h ?_;have hp:=zA h;have hd:=BN h;have hq:=workOk_len h;have hl:=planOk_len hp;obtain⟨m,rfl⟩:=Int.eq_ofNat_of_zero_le hd.1;by_cases he:(m:Int)=(p.length:Int)
  · rw[show((m:Int)==(p.length:Int))=true by simpa using he];exact df he jt
  rw[show((m:Int)==(p.length:Int))=false by simpa using he];refine cq he ?_;have hm:m<p.length:=by omega
  obtain⟨k0,k1,k2,k3,k4⟩:=th hp p[m] (List.getElem_mem hm);refine Ev.step (fun n=>by rw[jA.j0]) ?_;refine aT (by decide) (Ev.bind (Ov p m q m hp hq hm) ?_);simp only[Int.toNat_natCast];by_cases hz:jH p q m=0
  · exact df hz<|evp hz (Ev.now _)
  refine cq hz<|aT hz (evp (by omega) (evp (by omega) ?_));rw[se p m hm,rP p m hm,eH (n:=(m:Int)+1) (by omega) (by omega)];exact evp k2 (evp (by omega) (Ev.now _))
theorem aiI (p:List ar) (d:Int) (q:List Int) (hp:p.length≤4000000) (hq:q.length≤4000000):Ev (fun n=>jF.f n p d q) (l6 p d q):=by
  have jt:Ev (fun n=>jF.j0 n true p d q p d q) (p,d,q,false):=Ev.step (fun n=>by rw[jF.j0]) (evp rfl (Ev.now _));unfold jF.f l6;refine bR (E1 p d q hp hq) (Ev.bind (F7 p d q) ?_);by_cases h:eX p d q=true;rotate_left
  · exact cq h<|aT h jt
  refine df h<|evp h ?_;have hp:=zA h;have hd:=BN h;have hq:=workOk_len h;have hl:=planOk_len hp;obtain⟨m,rfl⟩:=Int.eq_ofNat_of_zero_le hd.1;by_cases he:(m:Int)=(p.length:Int)
  · rw[show((m:Int)==(p.length:Int))=true by simpa using he];exact df he jt
  rw[show((m:Int)==(p.length:Int))=false by simpa using he];refine cq he ?_;have hm:m<p.length:=by omega
  obtain⟨k0,k1,k2,k3,k4⟩:=th hp p[m] (List.getElem_mem hm);refine Ev.step (fun n=>by rw[jF.j0]) ?_;refine aT (by decide) (evp (by omega) (evp (by omega) ?_));rw[se p m hm];refine evp k0 (evp (by omega) (Ev.bind (Jh _ _ _) ?_));rw[sf];have et:kS (q.getD p[m].f0.toNat 0) p[m].f2 p[m].f3=jH p q m:=by unfold jH;rw[rP p m hm]
  rw[et,rP p ((m:Int).toNat) hm];simp only[Int.toNat_natCast];by_cases hz:jH p q m=0
  · exact df hz<|evp hz (Ev.now _)
  refine cq hz<|aT hz ?_;rw[eH (n:=(m:Int)+1) (by omega) (by omega)];exact evp k2 (evp (by omega) (Ev.now _))
theorem WU (p:List ar) (d:Int) (q:List Int):(l6 p d q).1=p∧(l6 p d q).2.2.1.length=q.length:=by
  unfold l6;split
  · split
    · exact⟨rfl,rfl⟩
    · split
      · exact⟨rfl,rfl⟩
      · exact⟨rfl,by simp⟩
  · exact⟨rfl,rfl⟩
def ny (a:Int) (p:List ar):List ar×Int×List Int×Bool:=if(qJ a p).2=true then(p,0,begun a,true)else([],0,[],false)
theorem NQ {a:Int} {p:List ar} (h:(qJ a p).2=true):jD p=true∧fine a=true:=by
  unfold qJ at h;by_cases h2:jD p=true∧fine a=true
  · exact h2
  · rw[if_neg h2]at h;exact absurd h (by simp)
theorem agv (a:Int) (p:List ar):Ev (fun n=>nw.f n a p) (ny a p):=by
  unfold nw.f ny;refine Ev.bind (ahY a p) ?_;by_cases h:(qJ a p).2=true;rotate_left
  · exact cq h<|aT h (Ev.now _)
  refine df h<|evp h (bR (copyPlan_eq p (by have:=planOk_len (NQ h).1;omega)) (evp (by decide) ?_));simp only[Option.bind_some];exact evp (by simp) (Ev.now _)
theorem agw (a:Int) (p:List ar):Ev (fun n=>nH.f n a p) (ny a p):=by
  unfold nH.f ny;refine Ev.bind (ahZ a p) ?_;by_cases h:(qJ a p).2=true;rotate_left
  · exact cq h<|aT h (Ev.now _)
  refine df h<|evp h (bR (UT p (by have:=planOk_len (NQ h).1;omega)) (evp (by decide) ?_));simp only[Option.bind_some];exact evp (by simp) (Ev.now _)
theorem Vg (a:Int) (p:List ar):(ny a p).1.length≤11∧(ny a p).2.2.1.length≤12:=by
  unfold ny;by_cases h:(qJ a p).2=true
  · rw[if_pos h];exact⟨planOk_len (NQ h).1,by simp[begun]⟩
  · rw[if_neg h];simp
def newShop (x:Int) (p:List ar):List ar×Int×List Int×Int×Int×List S64×Bool:=
  if(ny x p).2.2.2=true then((ny x p).1,(ny x p).2.1,(ny x p).2.2.1,15,0,[],true)else([],0,[],0,0,[],false)
theorem ags (x:Int) (p:List ar):Ev (fun k=>yf.f k x p) (newShop x p):=by
  unfold yf.f newShop;refine Ev.bind (agv x p) ?_;by_cases h:(ny x p).2.2.2=true
  · exact df h<|evp h (Ev.now _)
  · exact cq h<|aT h (Ev.now _)
theorem Vf (x:Int) (p:List ar):Ev (fun k=>tv.f k x p) (newShop x p):=by
  unfold tv.f newShop;refine Ev.bind (agw x p) ?_;by_cases h:(ny x p).2.2.2=true
  · exact df h<|evp h (Ev.now _)
  · exact cq h<|aT h (Ev.now _)
theorem agt (x:Int) (p:List ar):(newShop x p).1.length≤11∧(newShop x p).2.2.1.length≤12∧(newShop x p).2.2.2.2.2.1.length=0:=by
  unfold newShop;split
  · exact⟨(Vg x p).1,(Vg x p).2,rfl⟩
  · exact⟨by simp,by simp,rfl⟩
theorem aj7 (b:Int):Ev (fun k=>iQ.f k b) (nK b):=by
  unfold iQ.f nK;refine bR (oZ _ _ _) ?_;by_cases hb:0≤b∧b≤5000;rotate_left
  · exact cq hb (aT (Cs hb) (Ev.now _))
  refine df hb (evp (CG hb) ?_)
  have key:∀i:Nat,i≤11→Ev (fun k=>iQ.l0 k b ((List.range i).map (fun(i:Nat)=>(⟨(i:Int),(i:Int)+1,m_ i,b⟩:ar))) (i:Int)) ((List.range 11).map (fun(i:Nat)=>⟨(i:Int),(i:Int)+1,m_ i,b⟩)):=by
    refine down (n:=11) ?_ ?_
    · exact Ev.step (fun k=>by rw[iQ.l0]) (aT (by decide) (Ev.now _))
    · intro i hi ih;refine Ev.step (fun k=>by rw[iQ.l0]) (evp (by omega) ?_);rw[eH (n:=(i:Int)+1) (by omega) (by omega)];rw[List.range_succ,List.map_append]at ih;have hlen:((List.range i).map (fun(i:Nat)=>(⟨(i:Int),(i:Int)+1,m_ i,b⟩:ar))).length<4398046511104:=(by simp;omega);by_cases h0:i=0
      · exact evp (by omega) (evp hlen (by subst h0;exact ih))
      refine aT (by omega) ?_;by_cases h2:i=2
      · exact evp (by omega) (evp hlen (by subst h2;exact ih))
      refine aT (by omega) ?_;by_cases h4:i=4
      · exact evp (by omega) (evp hlen (by subst h4;exact ih))
      refine aT (by omega) ?_;by_cases h7:i=7
      · exact evp (by omega) (evp hlen (by subst h7;exact ih))
      refine aT (by omega) ?_;by_cases h9:i=9
      · exact evp (by omega) (evp hlen (by subst h9;exact ih))
      refine aT (by omega) (evp hlen ?_);have hk:m_ i=2:=(by unfold m_;rw[if_neg (by omega)]);simp only[List.map_cons,List.map_nil,hk]at ih;exact ih
  exact key 0 (by omega)
def f_:List ar×Int×List Int×Int×Int×List S64:=((newShop 264000 (nK 700)).1,(newShop 264000 (nK 700)).2.1,(newShop 264000 (nK 700)).2.2.1,(newShop 264000 (nK 700)).2.2.2.1,(newShop 264000 (nK 700)).2.2.2.2.1,(newShop 264000 (nK 700)).2.2.2.2.2.1)
theorem V4:Ev (fun k=>sX.f k) f_:=by
  unfold sX.f;exact Ev.bind (aj7 700) (Ev.bind (ags 264000 _) (Ev.now _))
theorem ah7:Ev (fun k=>zn.f k) f_:=by
  unfold zn.f;exact Ev.bind (WN 700) (Ev.bind (Vf 264000 _) (Ev.now _))
theorem NR:f_.1.length≤11∧f_.2.2.1.length≤12∧f_.2.2.2.2.2.length=0:=agt 264000 (nK 700)
def oW (p:List ar) (q:List Int) (i:Nat):Prop:=∀k:Nat,k≤i→q.getD k 0=lV p (q.getD 0 0) k
theorem ahP (p:List ar) (q:List Int):oW p q 0:=by
  intro k hk;obtain rfl:k=0:=by omega
  rfl
theorem ahN (p:List ar) (s:Int) (n:Nat) (hn:n<12):oW p (ik p s n) n:=fun k hk=>by
  rw[qF p s n k (by omega),if_pos hk,qF p s n 0 (by omega),if_pos (Nat.zero_le _)];rfl
section
variable {p:List ar} (g:gPlan p)
include g
theorem Jg {q:List Int} {i:Nat} (hi:i<p.length) (h:q.getD i 0=lV p (q.getD 0 0) i):jH p q i=lV p (q.getD 0 0) (i+1):=by
  unfold jH;rw[(CV g i hi).1,Int.toNat_natCast,h];rfl
theorem UH {q:List Int} {i:Nat} (hi:i<p.length):oc p q i=true↔q.getD (i+1) 0≠jH p q i:=by
  unfold oc;rw[(CV g i hi).2.1,show((i:Int)+1).toNat=i+1 by omega,decide_eq_true_iff]
theorem ahO {q:List Int} {i:Nat} (hi:i<p.length) (h:oW p q i) (hb:¬oc p q i=true):oW p q (i+1):=by
  rw[UH g hi]at hb;have hb2:q.getD (i+1) 0=jH p q i:=Classical.byContradiction hb;intro k hk;by_cases e:k=i+1
  · subst e;rw[hb2];exact Jg g hi (h i (Nat.le_refl _))
  · exact h k (by omega)
theorem agA {q:List Int} {i j:Nat} (hi:i≤p.length) (h:oW p q i) (hj:j<i):oc p q j=false:=by
  have:¬oc p q j=true:=by
    rw[UH g (by omega),Classical.not_not,Jg g (by omega) (h j (by omega))];exact h (j+1) (by omega)
  simpa using this
theorem WZ {q:List Int} {i:Nat} (hi:i≤p.length) (h:oW p q i) (r:List Nat):jU p q (List.range i++r)=jU p q r:=by
  unfold jU;rw[List.filter_append,List.filter_eq_nil_iff.2 (fun j hj=>by rw[agA g hi h (List.mem_range.1 hj)];simp)];rfl
theorem akD {q:List Int} {i:Nat} (hi:i≤p.length) (h:oW p q i):jU p q (List.range i)=[]:=by
  have:=WZ g hi h [];rw[List.append_nil]at this;rw[this];rfl
theorem WY {q:List Int} {i j:Nat} (hi:i+(j+1)≤p.length) (h:oW p q i) (hb:oc p q i=true):∃r,jU p q (List.range (i+(j+1)))=(i:Int)::r:=by
  rw[List.range_add,WZ g (by omega) h,List.range_succ_eq_map,List.map_cons,Nat.add_zero,F8,if_pos hb];exact⟨_,rfl⟩
theorem ahQ {q:List Int} {n:Nat} (hn:n≤p.length) (hw:eX p (n:Int) q=true) (h:oW p q n):q=ik p (q.getD 0 0) n:=by
  obtain⟨h1,h2,h3⟩:=(BO g n hn q).1 hw;refine MT h1 (Bf _ _ _) (fun k hk=> ?_);rw[qF _ _ n k hk];by_cases e:k≤n
  · rw[if_pos e];exact h k e
  · rw[if_neg e];exact h3 k (by omega) hk
theorem mended {q:List Int} {i n:Nat} (hn:n≤p.length) (hi:i<n) (hw:eX p (n:Int) q=true) (hs:155000≤q.getD 0 0∧q.getD 0 0≤345000) (h:oW p q i):
    eX p (n:Int) (q.set (i+1) (lV p (q.getD 0 0) (i+1)))=true∧(q.set (i+1) (lV p (q.getD 0 0) (i+1))).getD 0 0=q.getD 0 0∧oW p (q.set (i+1) (lV p (q.getD 0 0) (i+1))) (i+1):=by
  obtain⟨h1,h2,h3⟩:=(BO g n hn q).1 hw;have hl:=g.1;have hf:=E_ g hs (i+1) (by omega);have e0:(q.set (i+1) (lV p (q.getD 0 0) (i+1))).getD 0 0=q.getD 0 0:=getD_set_ne _ _ _ _ (by omega);refine⟨(BO g n hn _).2 ⟨by simpa using h1,fun k hk=> ?_,fun k hk hk2=> ?_⟩,e0,fun k hk=> ?_⟩
  · by_cases e:i+1=k
    · subst e;rw[getD_set_self _ _ _ (by omega)];omega
    · rw[getD_set_ne _ _ _ _ e];exact h2 k hk
  · rw[getD_set_ne _ _ _ _ (by omega)];exact h3 k hk hk2
  · rw[e0];by_cases e:i+1=k
    · subst e;rw[getD_set_self _ _ _ (by omega)]
    · rw[getD_set_ne _ _ _ _ e];exact h k (by omega)
omit g in
theorem OJ {q:List Int} {n:Nat} (hw:eX p (n:Int) q=true):ov p (n:Int) q=jU p q (List.range n):=by
  unfold ov;rw[if_pos hw,Int.toNat_natCast]
theorem agi {q:List Int} {i j n:Nat} (hn:n≤p.length) (hij:n=i+(j+1)) (hw:eX p (n:Int) q=true) (hs:155000≤q.getD 0 0∧q.getD 0 0≤345000) (h:oW p q i) (hb:oc p q i=true):
    mj p (n:Int) q=(p,(n:Int),q.set (i+1) (lV p (q.getD 0 0) (i+1)),true):=by
  obtain⟨r,hr⟩:=WY g (by omega:i+(j+1)≤p.length) h hb;have hf:=E_ g hs (i+1) (by omega);unfold mj;rw[OJ hw,hij,hr];simp only[Int.toNat_natCast];rw[Jg g (by omega) (h i (Nat.le_refl _)),if_neg (by omega),(CV g i (by omega)).2.1,show((i:Int)+1).toNat=i+1 by omega]
theorem aku {s:Int} (hs:155000≤s∧s≤345000) {n:Nat} (hn:n<p.length):l6 p (n:Int) (ik p s n)=(p,((n+1:Nat):Int),ik p s (n+1),true):=by
  have hl:=g.1;have hf:=E_ g hs (n+1) hn;have e0:(ik p s n).getD 0 0=s:=by rw[qF p s n 0 (by omega),if_pos (Nat.zero_le _)];rfl
  have e1:jH p (ik p s n) n=lV p s (n+1):=by
    have:=Jg g hn (q:=ik p s n) (ahN p s n (by omega) n (Nat.le_refl _))
    rwa [e0]at this
  unfold l6;rw[if_pos (Jp g hs n (by omega)),if_neg (by omega),Int.toNat_natCast,e1,if_neg (by omega),(CV g n hn).2.1,show((n:Int)+1).toNat=n+1 by omega,Vw p s n (by omega)];rfl
theorem aks {s:Int} (hs:155000≤s∧s≤345000):l6 p (p.length:Int) (ik p s p.length)=(p,(p.length:Int),ik p s p.length,false):=by
  unfold l6;rw[if_pos (Jp g hs p.length (Nat.le_refl _)),if_pos rfl]
theorem agu {s:Int} (hs:155000≤s∧s≤345000):ny s p=(p,((0:Nat):Int),ik p s 0,true):=by
  unfold ny;rw[ahX g hs,if_pos rfl,Vx];rfl
theorem afT {q:List Int} {n:Nat} (hn:n≤p.length) (hw:eX p (n:Int) q=true) (c x:Int) (hx: -1000≤x∧x≤1000):
    (lC p (n:Int) q c x).1=p∧(lC p (n:Int) q c x).2.1=(n:Int)∧eX p (n:Int) (lC p (n:Int) q c x).2.2.1=true∧
      q.getD 0 0-1000≤(lC p (n:Int) q c x).2.2.1.getD 0 0∧(lC p (n:Int) q c x).2.2.1.getD 0 0≤q.getD 0 0+1000:=by
  obtain⟨h1,h2,h3⟩:=(BO g n hn q).1 hw;have h20:=h2 0 (Nat.zero_le _);unfold lC
  split
  · rename_i hk
    split
    · rename_i hok
      refine⟨rfl,rfl,hok,?_⟩;show _≤(s7 q c x).getD 0 0∧(s7 q c x).getD 0 0≤_;unfold s7;by_cases e:c.toNat=0
      · rw[e,getD_set_self _ _ _ (by omega),eH (by omega) (by omega)];omega
      · rw[getD_set_ne _ _ _ _ e];omega
    · exact⟨rfl,rfl,hw,by dsimp only;omega⟩
  · exact⟨rfl,rfl,hw,by dsimp only;omega⟩
end
end Go.Proofs.YtnjfiaekdcekgaaGreatDoor.Q
namespace Go.Proofs.YtnjfiaekdcekgaaGreatDoor.V
open Go.RowKit Go.Proofs.YtnjfiaekdcekgaaGreatDoor.P Go.Proofs.YtnjfiaekdcekgaaGreatDoorW.bS Go.Proofs.YtnjfiaekdcekgaaGreatDoorW.dU
class St (w0:outParam World) (W:World) (g:Nat) (s:outParam (List Int)) (i h:outParam Int):Prop where out:bQ w0 W g s i h
class Kb (W:outParam World) (W':World) (g:outParam Nat):Prop where out:KeepBut W W' g none
class gf (w W:World) (g:Nat):Prop where out:KeepBut w W g none
section
variable {w w0 w1 w2 W W':World} {g g':Nat} {s:List Int} {i h x:Int} {cs:Array Value} {t:TypeId} {o:Obj} {n j:Nat} {v:Value}
instance [k:St w0 W g s i h]:St w0 (W.alloc o) g s i h:=⟨k.out.alloc o⟩
instance [k:St w0 W g s i h]:St w0 W.drew g s i h:=⟨k.out.drew⟩
instance [k:St w0 W g s i h]:St w0 (W.drewN n) g s i h:=⟨k.out.drewN n⟩
instance [b:aK w W] [k:St w0 w g s i h]:St w0 W g s i h:=⟨k.out.below b.out⟩
instance [b:Sin w W] [k:St w0 w g s i h]:St w0 W g s i h:=⟨k.out.below b.out⟩
instance [k:St w0 W g s i h] [m:iL g g']:St w0 (W.setCell ⟨g',j,none⟩ v) g s i h:=⟨k.out.far m.out v⟩
instance [k:St w0 W g s i h] [b:a7 W g' cs t] [n:pq t 82]:St w0 (W.setCell ⟨g',j,none⟩ v) g s i h:=⟨k.out.far (k.out.Vd b.out n.out) v⟩
instance [b:ma W g'] [k:St w0 W g s i h]:iL g g':=⟨by rw[b.out];exact Nat.ne_of_lt k.out.lt⟩
instance [b:ma W g'] [k:St w0 W g s i h]:iL g' g:=⟨by rw[b.out];exact Nat.ne_of_gt k.out.lt⟩
instance [k:St w0 w1 g s i h]:tR w1 w2 g:=⟨.inl k.out.lt⟩
instance [b:Kb W W' g] [k:a7 W g' cs t] [m:iL g' g]:a7 W' g' cs t:=⟨KeepBut.blk b.out k.out m.out (by simp)⟩
instance [b:Kb W W' g] [q:St w0 W g s i h] [k:a7 W g' cs t] [n:pq t 82]:a7 W' g' cs t:=⟨KeepBut.blk b.out k.out (fun e=>(q.out.Vd k.out n.out) e.symm) (by simp)⟩
instance [b:Kb W W' g] [k:gu w1 w2 W] [f:tR w1 w2 g]:gu w1 w2 W':=⟨fun j h1 h2=>(b.out.2 j (keep_lt k h1 h2) (by have:=f.out;omega) (by simp)).trans (k.out j h1 h2)⟩
instance {α:Type} {d:Kd α} {e c:Nat} {A:Option Addr} {xs:List α} [b:Kb W W' g] [q:St w0 W g s i h] [k:At d e w1 W A c xs] [m:en d e 82]:At d e w1 W' A c xs:=
  ⟨Kd.bN (Kd.R_step (bQ.apart q.out k.out m.out) (fun j hj hl=>b.out.2 j hl hj.2 (by simp))) (fun _ _=>trivial)⟩
instance [b:Kb W W' g] [k:Sz w W]:Sz w W':=⟨Nat.le_trans k.out b.out.1⟩
instance:gf w w g:=⟨KeepBut.refl w g none⟩
instance [k:gf w W g]:gf w (W.alloc o) g:=⟨wu k.out o⟩
instance [k:gf w W g]:gf w W.drew g:=⟨k.out⟩
instance [k:gf w W g]:gf w (W.drewN n) g:=⟨k.out⟩
instance [b:aK W W'] [k:gf w W g]:gf w W' g:=⟨k.out.trans (KeepBut.wB (row:=none) b.out g) (.inl rfl)⟩
instance [b:Sin W W'] [k:gf w W g]:gf w W' g:=⟨k.out.trans (KeepBut.wB (row:=none) b.out g) (.inl rfl)⟩
instance [b:Kb W W' g] [k:gf w W g]:gf w W' g:=⟨k.out.trans b.out (.inl rfl)⟩
instance [k:gf w W g] [m:Nw w g']:gf w (W.setCell ⟨g',j,none⟩ v) g:=⟨MK (p:=⟨g',j,none⟩) k.out m.out v⟩
theorem ac1 {e c n:Nat} {A:Option Addr} {xs:List Int} [r:gF (Kd.int .i64) e w1 w2 A c xs] [k:St w0 w1 g s i h]:∀ad,A=some ad→0<n→ad.block≠g:=by
  rintro ad rfl _;have h1:=Bn r;have h2:=k.out.lt;omega
theorem ia {α:Type} {d:Kd α} {e c n:Nat} {A:Option Addr} {xs:List α} [h:gF d e w1 w2 A c xs] [k:gu w1 w2 W] [l:Sz w w1] (hn:n=xs.length:=by rfl):d.R e W w.heap.size (fun _=>True) (.slice A n c) xs:=by rw[hn];exact Kd.dr (Fh (h:=h) (k:=k)) l.out
end
end Go.Proofs.YtnjfiaekdcekgaaGreatDoor.V
namespace Go.Proofs.YtnjfiaekdcekgaaGreatDoor.V
open Go.RowKit Go.Proofs.YtnjfiaekdcekgaaGreatDoorW.bS Go.Proofs.YtnjfiaekdcekgaaGreatDoorW.dU
section
variable {gC:Nat} {P:Program} {ops:Array Oper} {Q:Exit→Act→World→Prop} {T:Bool×List (List Nat×List Nat)} {B:List Nat} {oi:Oper} {v:Value} {fuel:Nat} {l l':Array Bool} {ds:List Nat} {a a':Act} {w w1 w3:World}
abbrev Sk (w3:World) (gC:Nat):World→Prop:=fun w'=>KeepBut w3 w' gC none
theorem kR {id n:Nat} (hT:rtab .any ops=T) (hB:eN T.2 B=true) (h:aj (rtab .any ops=T)→aj (eN T.2 B=true)→∀w3,aK w w3→∀u,aK w3 u→Sk w3 gC u→cr P .any ops Q (Sk w3 gC) ds n l a u)
    (hn:ops.size=n:=by rfl) (hl:Array.replicate n false=l:=by rfl) (hm:P.follows .mixedOrders=true:=by kernel_rfl):(Code.region id ops true).wp P Q a w:=
  pJ (S:=Sk w gC) (ds:=ds) l hm hn hl (show KeepBut w w.drew gC none from KeepBut.refl w gC none) fun hS=>h ⟨hT⟩ ⟨hB⟩ w ⟨Below.refl _ _⟩ w.drew ⟨fC (Below.refl _ _)⟩ hS
theorem kA (i:Nat) (N:Option Tmp) (HT:aj (rtab .any ops=T)) (h:cr P .any ops Q (Sk w3 gC) ds fuel l' a' w) (hi:ops[i]? =some oi:=by rfl) (hN:oi.dst=N:=by rfl)
    (hl:l.setIfInBounds i true=l':=by simp only[List.setIfInBounds_toArray,List.set_cons_zero,List.set_cons_succ];rfl) (hc:anyT T l.toList l'.toList i=true:=by kernel_rfl)
    (hQ:∀c a w,Q (.panic c) (a.put oi.dst v) w→Q (.panic c) a w:=by exact fun _ _ _ h=>h) (hw:Region.wanted oi (yielded ops a.tmps)=true:=by rfl)
    (hy:∀w',(execOp a.eval oi).run P w'= .ok (.value v) w':=by intro w';go_simp;with_reducible rfl) (ha:a.put N v=a':=by simp only[Act.put,List.setIfInBounds_toArray,List.set_cons_zero,List.set_cons_succ,eJ,gj];rfl):
    cr P .any ops Q (Sk w3 gC) ds (fuel+1) l a w:=I3 l' hi hN (any_of HT.out hc) hQ (Or.inl ⟨hw,hy⟩) ha h
theorem kT (i:Nat) (N:Option Tmp) (HT:aj (rtab .any ops=T)) (HW:aj (eN T.2 B=true)) (hS:Sk w3 gC w) (h:cr P .any ops Q (Sk w3 gC) ds fuel l' a' w) (hi:ops[i]? =some oi:=by rfl) (hN:oi.dst=N:=by rfl)
    (hl:l.setIfInBounds i true=l':=by simp only[List.setIfInBounds_toArray,List.set_cons_zero,List.set_cons_succ];rfl) (hc:FT T B ds l.toList l'.toList i=true:=by kernel_rfl)
    (hQ:∀c a w,Q (.panic c) (a.put oi.dst v) w→Q (.panic c) a w:=by exact fun _ _ _ h=>h) (hw:Region.wanted oi (yielded ops a.tmps)=true:=by rfl)
    (hy:∀w',Kb w3 w' gC→(execOp a.eval oi).run P w'= .ok (.value v) w':=by intro w' jS;go_simp;with_reducible rfl) (ha:a.put N v=a':=by simp only[Act.put,List.setIfInBounds_toArray,List.set_cons_zero,List.set_cons_succ,eJ,gj];rfl):
    cr P .any ops Q (Sk w3 gC) ds (fuel+1) l a w:=FU l' hi hN (Ot HT.out HW.out hc) hQ (Or.inl ⟨hw,fun w' hS=>hy w' ⟨hS⟩⟩) hS ha h
theorem kL (i:Nat) (HT:aj (rtab .any ops=T)) (h:cr P .any ops Q (Sk w3 gC) ds fuel l' a w1) (hi:ops[i]? =some oi:=by rfl) (hN:oi.dst=none:=by rfl)
    (hl:l.setIfInBounds i true=l':=by simp only[List.setIfInBounds_toArray,List.set_cons_zero,List.set_cons_succ];rfl) (hc:(kO T.2 l.toList==[i]&&l.toList.set i true==l'.toList)=true:=by kernel_rfl) (hd:i∈ds:=by decide) (hw:Region.wanted oi (yielded ops a.tmps)=true:=by rfl)
    (hr:(execOp a.eval oi).run P w= .ok .skip w1:=by go_simp;rfl):
    cr P .any ops Q (Sk w3 gC) ds (fuel+1) l a w:=II l' hi hN (ji HT.out hc) hd fun K hK=>Bp hw hN hr (hK.out _ _ h)
theorem kC {f:FuncId} {args:Array Value} {xs:Array Operand} {ts:Array TypeId} (i N:Nat) {fn:Func} (hf:P.funcs[f]? =some fn) (HT:aj (rtab .any ops=T)) (h:∀K:Act→World→Prop,(∀a' w',Sk w3 gC w'→(Sk w3 gC w'→cr P .any ops Q (Sk w3 gC) ds fuel l' a' w')→K a' w')→Calls P f args w fun e w'=>∃v,e= .returned v∧K (a.put (some N) v) w') (hi:ops[i]? =some oi:=by rfl) (hN:oi.dst=some N:=by rfl)
    (hl:l.setIfInBounds i true=l':=by simp only[List.setIfInBounds_toArray,List.set_cons_zero,List.set_cons_succ];rfl) (hc:(kO T.2 l.toList==[i]&&l.toList.set i true==l'.toList)=true:=by kernel_rfl) (hd:i∉ds:=by decide) (hw:Region.wanted oi (yielded ops a.tmps)=true:=by rfl)
    (hop:oi.op= .call {callee:= .value (.func f),args:=xs,argTypes:=ts}:=by rfl) (hname:(fn.name== "runtime.NumGoroutine")=false:=by kernel_rfl) (hb:fn.body.isSome=true:=by rfl)
    (hargs:xs.map a.eval=args:=by(try simp only[List.map_toArray,List.map_cons,List.map_nil]);first|done|rfl):
    cr P .any ops Q (Sk w3 gC) ds (fuel+1) l a w:=one_ l' hi hN (ji HT.out hc) hd fun K hK=>gH hf hname hb args hw hN hop hargs (h K (fun a' w' h1 h2=>hK.out a' w' h1 h2))
theorem kN (h:cr P .any ops Q (Sk w3 gC) ds fuel l a' w) (ha:a=a':=by show Act.put _ (some _) _=_;simp only[Act.put,List.setIfInBounds_toArray,List.set_cons_zero,List.set_cons_succ,eJ,gj];rfl):cr P .any ops Q (Sk w3 gC) ds fuel l a w:=kM ha h
theorem kD (HT:aj (rtab .any ops=T)) (h:Q .normal a w) (hr:(kO T.2 l.toList==[])=true:=by kernel_rfl):cr P .any ops Q (Sk w3 gC) ds fuel l a w:=done_ (done_of HT.out hr) h
section
variable {α:Type} {xs ys:List α} {inner:List Value} {K:Act→World→Prop} {N:Nat}
end
end
end Go.Proofs.YtnjfiaekdcekgaaGreatDoor.V
namespace Go.Proofs.YtnjfiaekdcekgaaGreatDoor.P
set_option maxHeartbeats 8000000
set_option maxRecDepth 100000
set_option synthInstance.maxHeartbeats 400000
set_option synthInstance.maxSize 100000
open Go.RowKit Go.Proofs.YtnjfiaekdcekgaaGreatDoorW.bS Go.Proofs.YtnjfiaekdcekgaaGreatDoorW.dU Go.Proofs.YtnjfiaekdcekgaaGreatDoorW.dX Go.Proofs.YtnjfiaekdcekgaaGreatDoor.V
attribute [local go_sem] fV fW cellR_c sT sU uh uq
attribute [local go_sem] fE fI fH fL fG fK fF fJ
def wN.f (bw:List Int) (cJ:Int) (cO:Int):Option (Int×Int×Int×Int):=(eW.f bw cJ cO 2).bind fun KN=>((eW.f bw KN.2.1 KN.2.2 6).bind fun KO=>(some (KN.1,KO.1,KO.2.1,KO.2.2)))
theorem wN.calls (g:Nat) (bw:List Int) (cJ:Int) (cO:Int) (r1:Int) (r2:Int) (r3:Int) (r4:Int) (w0 w:World) (hI:bQ w0 w g bw cJ cO) (hB:Below w0.heap.size w0 w) (h:wN.f bw cJ cO=some (r1,r2,r3,r4)):
  Calls Tryz.prog 94 #[.pointer (some ⟨g,0,none⟩)] w fun e w'=>e= .returned (.agg #[.int .i64 r1,.int .i64 r2])∧bQ w0 w' g bw r3 r4∧Below w0.heap.size w0 w'∧KeepBut w w' g none:=by
 replace hI:=St.mk hI;have iS:Sz w0 w:=⟨hB.size⟩;replace hB:=From.mk hB;have agz:=pq.mk (e:=62) (t:=82) (by decide);unfold wN.f at h;have yc:=Tryz.underlying62
 (repeat' first|((with_reducible replace h:=cG h);rcases h with ⟨hc,h⟩|⟨hc,h⟩<;>first|exact(none_some h).elim|exact absurd hc (by decide)|subst hc|(replace hc:=br hc;subst hc)|(replace hc:=ey hc;subst hc)|(replace hc:=hH_ hc;subst hc)|(have hd:(_==_)=true:=hc)|(have hd:(_==_)=false:=br hc)|(have hd:=hI_ hc;have he:=cD hc;clear hc)|(have hd:=cE hc;have he:=hL_ hc)|(have hd:=decide_eq_false hc)|(have hd:=decide_eq_true hc;(try(have hn:=Int.natCast_pos.mp hc;have hm:=decide_eq_true hn;replace hn:=eq_true hn));first|(obtain⟨g_,e_,i_⟩:=ew (by assumption) (by first|assumption|decide) hc;cases e_)|(obtain⟨a_,e_,c_⟩:=er (by assumption) (by first|assumption|decide) hc;cases e_))|(have hd:=decide_eq_true hc)|skip)|((with_reducible replace h:=eu h);obtain⟨hl_,h⟩:=h;replace hl_:=A_ hl_;(try dsimp only at h)))
 all_goals go_enter Tryz.func94,Tryz.ntmps94
 all_goals go_wp2_with ((first
  |((with_reducible refine gate_dst (N:=2) rfl ?_);refine vO rfl (N:=2) rfl (cs:= #[.int .i64 0,.int .i64 0]) (t:=62) (by first|(go_simp;done)|(go_simp;rfl)) ?_;intro gq hg w1 hk hb;have j1:=ma.mk hg;have j2:=aK.mk hb;have j3:=a7.mk hk;clear hg hb hk)
  |(go_at_call 26;(try rw[hl_.out]);replace h:=bI h;obtain⟨⟨t1,t2,t3⟩,A,h⟩:=h;(try dsimp only at h);refine(eW.calls _ _ _ _ _ _ _ _ _ _ St.out From.out A).mono ?_;rintro e w2 ⟨rfl,hs,hb0,hk⟩;have js:=St.mk hs;have jf:=From.mk hb0;have jk:=Kb.mk hk;clear A hs hb0 hk));(repeat' first|((with_reducible replace h:=cG h);rcases h with ⟨hc,h⟩|⟨hc,h⟩<;>first|exact(none_some h).elim|exact absurd hc (by decide)|subst hc|(replace hc:=br hc;subst hc)|(replace hc:=ey hc;subst hc)|(replace hc:=hH_ hc;subst hc)|(have hd:(_==_)=true:=hc)|(have hd:(_==_)=false:=br hc)|(have hd:=hI_ hc;have he:=cD hc;clear hc)|(have hd:=cE hc;have he:=hL_ hc)|(have hd:=decide_eq_false hc)|(have hd:=decide_eq_true hc;(try(have hn:=Int.natCast_pos.mp hc;have hm:=decide_eq_true hn;replace hn:=eq_true hn));first|(obtain⟨g_,e_,i_⟩:=ew (by assumption) (by first|assumption|decide) hc;cases e_)|(obtain⟨a_,e_,c_⟩:=er (by assumption) (by first|assumption|decide) hc;cases e_))|(have hd:=decide_eq_true hc)|skip)|((with_reducible replace h:=eu h);obtain⟨hl_,h⟩:=h;replace hl_:=A_ hl_;(try dsimp only at h))))
 all_goals simp only[Option.some.injEq,Prod.mk.injEq]at h
 all_goals obtain⟨rfl,rfl,rfl,rfl⟩:=h
 all_goals refine bodyPost_ret (results_cell_row rfl _ _ _ _ _ (0,0) _ rfl a7.out Tryz.underlying62 rfl (by kernel_rfl)) rfl ?_
 all_goals exact⟨(by first|rfl|(simp_all;done)),St.out,From.out,gf.out⟩
def zo.f (bw:List Int) (cJ:Int) (cO:Int):Option (Int×Int×Int×Int×Int×Int):=(eW.f bw cJ cO 12).bind fun lu=>(if lu.1=0 then((eW.f bw lu.2.1 lu.2.2 40).bind fun KW=>(some (2,wrap64 (KW.1-5),0,0,KW.2.1,KW.2.2)))else(if lu.1=1 then((uY.f bw lu.2.1 lu.2.2 (([0,0,1]:List Int))).bind fun KX=>((eW.f bw KX.2.1 KX.2.2 6).bind fun KY=>((eW.f bw KY.2.1 KY.2.2 3).bind fun KZ=>(some (3,KX.1,KY.1,KZ.1,KZ.2.1,KZ.2.2)))))else(if lu.1=2 then((eW.f bw lu.2.1 lu.2.2 12).bind fun bt656=>((eW.f bw bt656.2.1 bt656.2.2 2001).bind fun K1=>(some (4,bt656.1,wrap64 (K1.1-1000),0,K1.2.1,K1.2.2))))else(if lu.1=3 then(some (5,0,0,0,lu.2.1,lu.2.2))else(if lu.1=4 then(some (6,0,0,0,lu.2.1,lu.2.2))else(if lu.1=5 then((eW.f bw lu.2.1 lu.2.2 12).bind fun K2=>(some (7,K2.1,0,0,K2.2.1,K2.2.2)))else(some (1,0,0,0,lu.2.1,lu.2.2))))))))
theorem zo.calls (g:Nat) (bw:List Int) (cJ:Int) (cO:Int) (r1:Int) (r2:Int) (r3:Int) (r4:Int) (r5:Int) (r6:Int) (w0 w:World) (hI:bQ w0 w g bw cJ cO) (hB:Below w0.heap.size w0 w) (h:zo.f bw cJ cO=some (r1,r2,r3,r4,r5,r6)):
  Calls Tryz.prog 51 #[.pointer (some ⟨g,0,none⟩)] w fun e w'=>e= .returned (.agg #[.int .i64 r1,.int .i64 r2,.int .i64 r3,.int .i64 r4])∧bQ w0 w' g bw r5 r6∧Below w0.heap.size w0 w'∧KeepBut w w' g none:=by
 replace hI:=St.mk hI;have iS:Sz w0 w:=⟨hB.size⟩;replace hB:=From.mk hB;have arj:=pq.mk (e:=57) (t:=82) (by decide);unfold zo.f at h;have AU:=Tryz.underlying57
 (repeat' first|((with_reducible replace h:=cG h);rcases h with ⟨hc,h⟩|⟨hc,h⟩<;>first|exact(none_some h).elim|exact absurd hc (by decide)|subst hc|(replace hc:=br hc;subst hc)|(replace hc:=ey hc;subst hc)|(replace hc:=hH_ hc;subst hc)|(have hd:(_==_)=true:=hc)|(have hd:(_==_)=false:=br hc)|(have hd:=hI_ hc;have he:=cD hc;clear hc)|(have hd:=cE hc;have he:=hL_ hc)|(have hd:=decide_eq_false hc)|(have hd:=decide_eq_true hc;(try(have hn:=Int.natCast_pos.mp hc;have hm:=decide_eq_true hn;replace hn:=eq_true hn));first|(obtain⟨g_,e_,i_⟩:=ew (by assumption) (by first|assumption|decide) hc;cases e_)|(obtain⟨a_,e_,c_⟩:=er (by assumption) (by first|assumption|decide) hc;cases e_))|(have hd:=decide_eq_true hc)|skip)|((with_reducible replace h:=eu h);obtain⟨hl_,h⟩:=h;replace hl_:=A_ hl_;(try dsimp only at h)))
 all_goals go_enter Tryz.func51,Tryz.ntmps51
 all_goals go_wp2_with ((first
  |((with_reducible refine gate_dst (N:=2) rfl ?_);refine vO rfl (N:=2) rfl (cs:= #[.int .i64 0,.int .i64 0,.int .i64 0,.int .i64 0]) (t:=57) (by first|(go_simp;done)|(go_simp;rfl)) ?_;intro gq hg w1 hk hb;have j1:=ma.mk hg;have j2:=aK.mk hb;have j3:=a7.mk hk;clear hg hb hk)
  |(go_at_call 26;(try rw[hl_.out]);replace h:=bI h;obtain⟨⟨t1,t2,t3⟩,A,h⟩:=h;(try dsimp only at h);refine(eW.calls _ _ _ _ _ _ _ _ _ _ St.out From.out A).mono ?_;rintro e w2 ⟨rfl,hs,hb0,hk⟩;have js:=St.mk hs;have jf:=From.mk hb0;have jk:=Kb.mk hk;clear A hs hb0 hk)
  |(go_at_call 95;(try rw[hl_.out]);replace h:=bI h;obtain⟨⟨t1,t2,t3⟩,A,h⟩:=h;(try dsimp only at h);refine(uY.calls _ _ _ _ _ _ _ _ _ _ _ _ St.out From.out Rd.out az.out ac1 A).mono ?_;rintro e w2 ⟨rfl,hs,hb0,hk⟩;have js:=St.mk hs;have jf:=From.mk hb0;have jk:=Kb.mk hk;clear A hs hb0 hk)
  |((with_reducible refine gate_dst (N:=14) rfl ?_);refine Kd.iB (Kd.int .i64) _ 3 ?hg (N:=14) ?hd (xs:=([0,0,1]:List Int)) (inner:=[.int .i64 0,.int .i64 0,.int .i64 1]) (ok:=fun _=>True) (cU:=fun _=>True) ?hr ?hp (fun _ hk=>hk) trivial (Below.refl _ _) (Nat.le_refl _) (by simp) ?_;(case hd=>rfl);(case hg=>rfl);(case hr=>first|(go_simp;done)|(go_simp;rfl));(case hp=>exact(bf.one (show Kd.M (Kd.int .i64) _ _ _ 0 [.int .i64 0]from rfl) (bf.one (show Kd.M (Kd.int .i64) _ _ _ 0 [.int .i64 0]from rfl) (bf.one (show Kd.M (Kd.int .i64) _ _ _ 1 [.int .i64 1]from rfl) (bf.none _ _)))));intro v5 w5 ho hb cT uz;obtain⟨A5,c5,rfl⟩:=Kd.dp ho;have j5:=gF.mk ho;have q5:=az.mk (pI j5);have j6:=aK.mk hb;clear cT uz ho hb));(repeat' first|((with_reducible replace h:=cG h);rcases h with ⟨hc,h⟩|⟨hc,h⟩<;>first|exact(none_some h).elim|exact absurd hc (by decide)|subst hc|(replace hc:=br hc;subst hc)|(replace hc:=ey hc;subst hc)|(replace hc:=hH_ hc;subst hc)|(have hd:(_==_)=true:=hc)|(have hd:(_==_)=false:=br hc)|(have hd:=hI_ hc;have he:=cD hc;clear hc)|(have hd:=cE hc;have he:=hL_ hc)|(have hd:=decide_eq_false hc)|(have hd:=decide_eq_true hc;(try(have hn:=Int.natCast_pos.mp hc;have hm:=decide_eq_true hn;replace hn:=eq_true hn));first|(obtain⟨g_,e_,i_⟩:=ew (by assumption) (by first|assumption|decide) hc;cases e_)|(obtain⟨a_,e_,c_⟩:=er (by assumption) (by first|assumption|decide) hc;cases e_))|(have hd:=decide_eq_true hc)|skip)|((with_reducible replace h:=eu h);obtain⟨hl_,h⟩:=h;replace hl_:=A_ hl_;(try dsimp only at h))))
 all_goals simp only[Option.some.injEq,Prod.mk.injEq]at h
 all_goals obtain⟨rfl,rfl,rfl,rfl,rfl,rfl⟩:=h
 all_goals refine bodyPost_ret (results_cell_row rfl _ _ _ _ _ (0,0) _ rfl a7.out Tryz.underlying57 rfl (by kernel_rfl)) rfl ?_
 all_goals exact⟨(by first|rfl|(simp_all;done)),St.out,From.out,gf.out⟩
end Go.Proofs.YtnjfiaekdcekgaaGreatDoor.P
namespace Go.Proofs.YtnjfiaekdcekgaaGreatDoor.P
set_option maxHeartbeats 8000000
set_option maxRecDepth 100000
open Go.RowKit Go.Proofs.YtnjfiaekdcekgaaGreatDoorW.bS Go.Proofs.YtnjfiaekdcekgaaGreatDoorW.dU Go.Proofs.YtnjfiaekdcekgaaGreatDoorW.dX
attribute [local go_sem] fE fI fH fL fG fK fF fJ
def ml.l0:Nat→List (cN)→Int→Int→List Int→Int→Int→Option ((List (cN))×Int×Int)
 |0,_,_,_,_,_,_=>none
 |k+1,x3,x4,x5,lK,x1001,x1002=>if x5<x4 then((zo.f lK x1001 x1002).bind fun Au=>(if x3.length<4398046511104 then(ml.l0 k (x3++[(⟨Au.1,Au.2.1,Au.2.2.1,Au.2.2.2.1⟩:cN)]) x4 (wrap64 (x5+1)) lK Au.2.2.2.2.1 Au.2.2.2.2.2)else(none)))else(some (x3,x1001,x1002))
def ml.f (k:Nat) (bw:List Int) (cJ:Int) (cO:Int):Option ((List (cN))×Int×Int):=(eW.f bw cJ cO 26).bind fun rG=>(ml.l0 k (([]:List (cN))) rG.1 0 bw rG.2.1 rG.2.2)
theorem ml.calls (k:Nat) (g:Nat) (bw:List Int) (cJ:Int) (cO:Int) (r1:List (cN)) (r2:Int) (r3:Int) (w0 w:World) (hI:bQ w0 w g bw cJ cO) (hB:Below w0.heap.size w0 w) (h:ml.f k bw cJ cO=some (r1,r2,r3)):
  Calls Tryz.prog 25 #[.pointer (some ⟨g,0,none⟩)] w fun e w'=>∃v0_:Value,e= .returned (v0_)∧Kd.R nx 57 w' w.heap.size (fun _=>True) v0_ r1∧bQ w0 w' g bw r2 r3∧Below w0.heap.size w0 w'∧KeepBut w w' g none:=by
 have AU:=Tryz.underlying57;have bO:=A_ hI;have HK:=A_ (KeepBut.refl w g none);have HL:=A_ hB.size;clear hI;have xn:=A_ hB.size;have HB:=A_ hB;clear hB;have H:((eW.f bw cJ cO 26).bind fun rG=>(ml.l0 k (([]:List (cN))) rG.1 0 bw rG.2.1 rG.2.2))=some (r1,r2,r3):=h;clear h;obtain⟨XP,EI⟩:∃y_:List (cN),y_=(([]:List (cN))):=⟨_,rfl⟩;replace H:((eW.f bw cJ cO 26).bind fun rG=>(ml.l0 k XP rG.1 0 bw rG.2.1 rG.2.2))=some (r1,r2,r3):=by first|(rw[EI];with_reducible exact H)|(have aI:=(Option.bind_some _ _).symm.trans H;rw[EI];with_reducible exact aI)|(have aI:=(Option.bind_some _ _).symm.trans H;with_reducible exact aI)|with_reducible exact H|(rw[EI];exact H)|exact H
 have Q9:=A_ EI;clear EI;replace H:=Option.bind_eq_some_iff.mp H;obtain⟨⟨BD,Wu,Wv⟩,fh,H⟩:=H
 (try dsimp only at H)
 have A2:=A_ fh;clear fh;have H':=A_ H;clear H;go_enter Tryz.func25,Tryz.ntmps25
 go_wp2_with (first|((with_reducible refine gate_dst (N:=7) rfl ?_);refine Kd.iB nx _ 57 ?hg (N:=7) ?hd (xs:=([]:List (cN))) (inner:=[]) (ok:=fun _=>True) (cU:=fun _=>True) ?hr ?hp (fun _ hk=>hk) trivial (Below.refl _ _) (Nat.le_refl _) (by simp) ?_;(case hd=>rfl);(case hg=>rfl);(case hr=>first|(go_simp;done)|(go_simp;rfl));(case hp=>exact(bf.none _ _));intro asE w3 gi hb cT dx;clear cT dx;(first|rw[←Q9.out]at gi|(simp only[Int.reduceToNat]at gi;rw[←Q9.out]at gi));have ah:=A_ (Kd.dr gi (keep_size (w:=w) (g:=g) (row:=none) (by repeat(first|(with_reducible first|exact HK.out|apply KeepBut.wF|apply yy|apply yx|apply wu)|exact HK.out))));have ai:=A_ (bQ.below (eL bO) hb);have ay:=A_ (KeepBut.trans (fS HK) (KeepBut.wB hb g none) (.inl rfl));have aG:=A_ (bz (gB HB) hb);clear bO;clear HK;clear HB;have GM:=ah;have bO:=ai;have HK:=ay;have HB:=aG;clear ah ai ay aG;clear hb gi)|((with_reducible refine bT (f:=26) rfl ?_);refine gL (some 9) Tryz.func26 #[.pointer (some ⟨g,0,none⟩),.int .i64 26] ?_;(with_reducible refine(eW.calls g bw cJ cO 26 BD Wu Wv w0 _ ?bG ?bH A2.out).mono ?_);(case bG=>exact eL bO);(case bH=>exact gB HB);rintro e w5 ⟨rfl,hi,hb,hk⟩;refine⟨_,rfl,?_⟩;have ah:=A_ (Kd.bN (Kd.tS (bQ.apart (show bQ w0 _ g bw cJ cO from eL bO) (oR GM) (by decide)) hk (fun _ h=>h.2)) (fun _ h=>h.1));have ai:=A_ (KeepBut.trans (fS HK) hk (.inl rfl));have ay:=A_ (hb);have aG:=A_ (hi);clear GM;clear HK;clear HB;clear bO;have GM:=ah;have HK:=ai;have HB:=ay;have bO:=aG;clear ah ai ay aG;(try clear hb);(try clear hb2);(try clear hk);(try clear hi)))
 go_loopg [3,5] k (fun kq v3 v5 w'=>∃(bA:List (cN)) (dy:Int) (l7:Int) (l8:Int),v5= .int .i64 dy∧aj (ml.l0 kq bA BD dy bw l7 l8=some (r1,r2,r3))∧aj (kq≤k)∧aj (Kd.R nx 57 w' w.heap.size (fun _=>True) v3 bA)∧aj (bQ w0 w' g bw l7 l8)∧aj (KeepBut w w' g none)∧aj (Below w0.heap.size w0 w'))
 case atStart=>exact⟨(XP),(0),(Wu),(Wv),eS,H',⟨Nat.le_refl _⟩,⟨oR GM⟩,⟨eL bO⟩,⟨fS HK⟩,⟨gB HB⟩⟩
 case round=>
  clear H'
  try clear c2
  try clear p2
  obtain⟨bA,dy,l7,l8,rfl,HA,dh,bc,bO,HK,HB⟩:=hrel;cases gk with
  |zero=>exact absurd HA.out (by simp[ml.l0])
  |succ k1=>
   have H:=HA.out;clear HA;simp only[ml.l0]at H;by_cases c6:dy<BD
   ·rw[if_pos c6]at H;have rI:decide (dy<BD)=true:=decide_eq_true c6;clear c6;replace H:=Option.bind_eq_some_iff.mp H;obtain⟨⟨oY,qQ,tC,wR,BF,BG⟩,mo,H⟩:=H
    (try dsimp only at H)
    have A7:=A_ mo;clear mo;by_cases c8:bA.length<4398046511104
    ·rw[if_pos c8]at H;have Cg:=A_ c8;clear c8;obtain⟨XQ,EJ⟩:∃y_:List (cN),y_=(bA++[(⟨oY,qQ,tC,wR⟩:cN)]):=⟨_,rfl⟩;replace H:(ml.l0 k1 XQ BD (wrap64 (dy+1)) bw BF BG)=some (r1,r2,r3):=by first|(rw[EJ];with_reducible exact H)|(have aI:=(Option.bind_some _ _).symm.trans H;rw[EJ];with_reducible exact aI)|(have aI:=(Option.bind_some _ _).symm.trans H;with_reducible exact aI)|with_reducible exact H|(rw[EJ];exact H)|exact H
     have aau:=A_ EJ;clear EJ;have H':=A_ H;clear H
     go_wp2_with (first|((with_reducible refine bT (f:=51) rfl ?_);refine gL (some 16) Tryz.func51 #[.pointer (some ⟨g,0,none⟩)] ?_;(with_reducible refine(zo.calls g bw l7 l8 oY qQ tC wR BF BG w0 _ ?bG ?bH A7.out).mono ?_);(case bG=>exact eL bO);(case bH=>exact gB HB);rintro e w9 ⟨rfl,hi,hb,hk⟩;refine⟨_,rfl,?_⟩;have ah:=A_ (Kd.bN (Kd.tS (bQ.apart (show bQ w0 _ g bw l7 l8 from eL bO) (oR bc) (by decide)) hk (fun _ h=>h.2)) (fun _ h=>h.1));have ai:=A_ (KeepBut.trans (fS HK) hk (.inl rfl));have ay:=A_ (hb);have aG:=A_ (hi);clear bc;clear HK;clear HB;clear bO;have bc:=ah;have HK:=ai;have HB:=ay;have bO:=aG;clear ah ai ay aG;(try clear hb);(try clear hb2);(try clear hk);(try clear hi))|((with_reducible refine gate_dst (N:=6) rfl ?_);refine bX (N:=6) (cs:= #[.int .i64 0,.int .i64 0,.int .i64 0,.int .i64 0]) (t:=57) ?_;intro oL hg lJ cj hb;have ah:=A_ (Kd.bh (Kd.Kl (oR bc) oL (Nat.le_of_eq hg.symm)) hb);have ai:=A_ (bQ.below (eL bO) hb);have ay:=A_ (KeepBut.trans (fS HK) (KeepBut.wB hb g none) (.inl rfl));have aG:=A_ (bz (gB HB) hb);have bD:=A_ (cj);have n5_:=A_ ((by rw[hg];exact(keep_size (w:=w) (g:=g) (row:=none) (by repeat(first|(with_reducible first|exact HK.out|apply KeepBut.wF|apply yy|apply yx|apply wu)|exact HK.out))):w.heap.size≤oL));have dm:=A_ ((Nat.le_trans xn.out (by rw[hg];exact(keep_size (w:=w) (g:=g) (row:=none) (by repeat(first|(with_reducible first|exact HK.out|apply KeepBut.wF|apply yy|apply yx|apply wu)|exact HK.out))):w.heap.size≤oL):w0.heap.size≤oL));have eh:=A_ ((by rw[hg];exact Nat.ne_of_lt (bQ.lt (show bQ w0 _ g bw BF BG from eL bO)):g≠oL));have gl:=A_ ((by rw[hg];exact Nat.ne_of_gt (bQ.lt (show bQ w0 _ g bw BF BG from eL bO)):oL≠g));clear bc;clear bO;clear HK;clear HB;have bc:=ah;have bO:=ai;have HK:=ay;have HB:=aG;have pZ:=bD;have YL:=n5_;have alm:=dm;have Z0:=eh;have Z2:=gl;clear ah ai ay aG bD n5_ dm eh gl;clear hb cj hg;have aeN:=Z2.out;have aeO:=Z0.out;have C3:=cz pZ 0;have C4:=cz pZ 1;have H4:=cz pZ 2;have H6:=cz pZ 3;have C_:=aJ pZ.out 0;have Da:=aJ pZ.out 1;have Ie:=aJ pZ.out 2;have Ig:=aJ pZ.out 3)|((with_reducible refine jz (b:= .append) (xs:= #[.tmp 17,.tmp 19]) rfl ?_);at_builtin;refine Kd.R_append nx w.heap.size rfl (.tmp 17) (.tmp 19) 31 57 (.agg #[(.int .i64 0),(.int .i64 0),(.int .i64 0),(.int .i64 0)]) 32 rfl Tryz.underlying31 UE rfl (by decide) (by omega) u3 bA (⟨oY,qQ,tC,wR⟩:cN) [.int .i64 oY,.int .i64 qQ,.int .i64 tC,.int .i64 wR] (fun k_=>k_≠oL) (fun _=>False) rfl (by first|(go_simp;done)|(go_simp;rfl)) ?aP (fun _ hk=>hk.elim) ?aF ?aO (Below.refl _ _) ?aS ?aL ?_;(case aP=>exact UK _ _ _ (⟨oY,qQ,tC,wR⟩:cN));(case aF=>exact(fun k_ hk=>Kd.SA (g:=oL) (o:= .cells #[.int .i64 oY,.int .i64 qQ,.int .i64 tC,.int .i64 wR] 57 (0,0)) (by(with_reducible repeat(first|refine bP ?_ _|refine bF ?_|refine bC ?_ _));refine di (cs:= #[.int .i64 oY,.int .i64 qQ,.int .i64 tC,.int .i64 0]) ?_ 3 _ rfl;(with_reducible repeat(first|refine bP ?_ _|refine bF ?_|refine bC ?_ _));refine di (cs:= #[.int .i64 oY,.int .i64 qQ,.int .i64 0,.int .i64 0]) ?_ 2 _ rfl;(with_reducible repeat(first|refine bP ?_ _|refine bF ?_|refine bC ?_ _));refine di (cs:= #[.int .i64 oY,.int .i64 0,.int .i64 0,.int .i64 0]) ?_ 1 _ rfl;(with_reducible repeat(first|refine bP ?_ _|refine bF ?_|refine bC ?_ _));refine di (cs:= #[.int .i64 0,.int .i64 0,.int .i64 0,.int .i64 0]) ?_ 0 _ rfl;(with_reducible repeat(first|refine bP ?_ _|refine bF ?_|refine bC ?_ _));exact pZ.out) k_ hk));(case aO=>exact(by(with_reducible repeat(first|apply Kd.bY|apply Kd.R_drewN|apply Kd.R_drew));exact Kd.bN (Kd.aM (p:=⟨oL,3,none⟩) (Kd.aM (p:=⟨oL,2,none⟩) (Kd.aM (p:=⟨oL,1,none⟩) (Kd.aM (p:=⟨oL,0,none⟩) (Kd.bN bc.out (fun k_ hk=>(⟨hk,hk.2⟩:_∧k_≠oL))) (fun _ hk=>hk.2) (.int .i64 oY)) (fun _ hk=>hk.2) (.int .i64 qQ)) (fun _ hk=>hk.2) (.int .i64 tC)) (fun _ hk=>hk.2) (.int .i64 wR)) (fun _ hk=>hk.1.2)));(case aS=>exact(keep_size (w:=w) (g:=g) (row:=none) (by repeat(first|(with_reducible first|exact HK.out|apply KeepBut.wF|apply yy|apply yx|apply wu|refine MK ?_ YL.out _)|exact HK.out))));(case aL=>have:=Cg.out;omega);intro asF tE ho hb hg hat;rw[←aau.out]at ho;have ah:=A_ (bQ.grown (show bQ w0 _ g bw BF BG from eL bO) hg (bQ.wC bO.out bc.out (by decide)));have ai:=A_ (Cx (g:=oL) (o:= .cells #[.int .i64 oY,.int .i64 qQ,.int .i64 tC,.int .i64 wR] 57 (0,0)) (by(with_reducible repeat(first|refine bP ?_ _|refine bF ?_|refine bC ?_ _));refine di (cs:= #[.int .i64 oY,.int .i64 qQ,.int .i64 tC,.int .i64 0]) ?_ 3 _ rfl;(with_reducible repeat(first|refine bP ?_ _|refine bF ?_|refine bC ?_ _));refine di (cs:= #[.int .i64 oY,.int .i64 qQ,.int .i64 0,.int .i64 0]) ?_ 2 _ rfl;(with_reducible repeat(first|refine bP ?_ _|refine bF ?_|refine bC ?_ _));refine di (cs:= #[.int .i64 oY,.int .i64 0,.int .i64 0,.int .i64 0]) ?_ 1 _ rfl;(with_reducible repeat(first|refine bP ?_ _|refine bF ?_|refine bC ?_ _));refine di (cs:= #[.int .i64 0,.int .i64 0,.int .i64 0,.int .i64 0]) ?_ 0 _ rfl;(with_reducible repeat(first|refine bP ?_ _|refine bF ?_|refine bC ?_ _));exact pZ.out) hg (Kd.Rg bc.out (fun _ hk=>hk.2)));have ay:=A_ (RG (gB HB) HL.out hb);have aG:=A_ (KeepBut.trans (fS HK) (KeepBut.Bc hg g) (Kd.GW bc.out));have bD:=A_ (ho);clear bO;clear pZ;clear HB;clear HK;clear bc;have bO:=ah;have pZ:=ai;have HB:=ay;have HK:=aG;have Zr:=bD;clear ah ai ay aG bD;clear ho hb hg hat))
     go_roundg k1
     case measure=>have:=dh.out;omega
     case rel=>exact⟨(XQ),(wrap64 (dy+1)),(BF),(BG),eS,H',⟨by have:=dh.out;omega⟩,⟨by(with_reducible repeat(first|apply Kd.bY|apply Kd.R_drewN|apply Kd.R_drew));exact Kd.bN Zr.out (fun _ hk=>trivial)⟩,⟨eL bO⟩,⟨fS HK⟩,⟨gB HB⟩⟩
    ·rw[if_neg c8]at H;exact absurd H (by simp)
   ·rw[if_neg c6]at H;have rI:decide (dy<BD)=false:=decide_eq_false c6;clear c6;simp only[Option.some.injEq,Prod.mk.injEq]at H;obtain⟨rfl,rfl,rfl⟩:=H;go_wp2;go_ret;exact⟨_,eR,oR bc,eL bO,gB HB,fS HK⟩
end Go.Proofs.YtnjfiaekdcekgaaGreatDoor.P
namespace Go.Proofs.YtnjfiaekdcekgaaGreatDoor.P
set_option maxHeartbeats 8000000
set_option maxRecDepth 100000
set_option synthInstance.maxHeartbeats 400000
set_option synthInstance.maxSize 100000
open Go.RowKit Go.Proofs.YtnjfiaekdcekgaaGreatDoorW.bS Go.Proofs.YtnjfiaekdcekgaaGreatDoorW.dU Go.Proofs.YtnjfiaekdcekgaaGreatDoorW.dX Go.Proofs.YtnjfiaekdcekgaaGreatDoor.V
attribute [local go_sem] fV fW cellR_c sT sU uh uq
attribute [local go_sem] fE fI fH fL fG fK fF fJ
attribute [local go_sem high] acZ
def impl_ActOk.j0:Nat→Int→Bool→Int→Int→Int→Int→Option (Bool)
 |0,_,_,_,_,_,_=>none
 |k+1,x4,x5,as3,Gn,Gp,Gq=>if x5=true then(some (Gn==0&&(Gp==0&&(Gq==0))))else(if x4=2 then(if(Gp==0&&(Gq==0))=true then((lz.f Gn).bind fun ajr=>(some ajr))else(some false))else(if x4=3 then((eK.f Gn 0 3).bind fun ajs=>(if ajs=true then((eK.f Gp 0 39).bind fun ajt=>(if ajt=true then((eK.f Gq 0 2).bind fun aju=>(some aju))else(some false)))else(some false)))else(if x4=4 then(if(Gq==0)=true then((eK.f Gn 0 11).bind fun ajv=>(if ajv=true then((eK.f Gp (-100000) 100000).bind fun ajw=>(some ajw))else(some false)))else(some false))else(if x4=7 then(if(Gp==0&&(Gq==0))=true then((eK.f Gn 0 11).bind fun ajx=>(some ajx))else(some false))else(some false)))))
def impl_ActOk.f (k:Nat) (a0_0:Int) (ax:Int) (a0_2:Int) (aN:Int):Option (Bool):=if a0_0=1 then(impl_ActOk.j0 k a0_0 (a0_0==1) a0_0 ax a0_2 aN)else(if a0_0=5 then(impl_ActOk.j0 k a0_0 (a0_0==5) a0_0 ax a0_2 aN)else(impl_ActOk.j0 k a0_0 (a0_0==6) a0_0 ax a0_2 aN))
theorem impl_ActOk.calls (k:Nat) (a0_0:Int) (ax:Int) (a0_2:Int) (aN:Int) (r:Bool) (w:World) (h:impl_ActOk.f k a0_0 ax a0_2 aN=some r):
  Calls Tryz.prog 59 #[.agg #[.int .i64 a0_0,.int .i64 ax,.int .i64 a0_2,.int .i64 aN]] w fun e w'=>e= .returned (.bool r)∧Below w.heap.size w w':=by
 unfold impl_ActOk.f at h;have AU:=Tryz.underlying57
 (repeat' first|((with_reducible replace h:=cG h);rcases h with ⟨hc,h⟩|⟨hc,h⟩<;>first|exact(none_some h).elim|exact absurd hc (by decide)|subst hc|(replace hc:=br hc;subst hc)|(replace hc:=ey hc;subst hc)|(replace hc:=hH_ hc;subst hc)|(have hd:(_==_)=true:=hc)|(have hd:(_==_)=false:=br hc)|(have hd:=hI_ hc;have he:=cD hc;clear hc)|(have hd:=cE hc;have he:=hL_ hc)|(have hd:=decide_eq_false hc)|(have hd:=decide_eq_true hc;(try(have hn:=Int.natCast_pos.mp hc;have hm:=decide_eq_true hn;replace hn:=eq_true hn));first|(obtain⟨g_,e_,i_⟩:=ew (by assumption) (by first|assumption|decide) hc;cases e_)|(obtain⟨a_,e_,c_⟩:=er (by assumption) (by first|assumption|decide) hc;cases e_))|(have hd:=decide_eq_true hc)|skip)|((with_reducible have hj:impl_ActOk.j0 k _ _ _ _ _ _=_:=h);clear hj;rcases k with _|k<;>rw[impl_ActOk.j0]at h<;>first|exact(none_some h).elim|skip)|((with_reducible replace h:=eu h);obtain⟨hl_,h⟩:=h;replace hl_:=A_ hl_;(try dsimp only at h)))
 all_goals go_enter Tryz.func59,Tryz.ntmps59
 all_goals go_wp2_with ((first
  |((with_reducible refine gate_dst (N:=1) rfl ?_);refine bV #[.int .i64 a0_0,.int .i64 ax,.int .i64 a0_2,.int .i64 aN] 57 fun g w1 j1 j2 j3=> ?_)
  |(go_at_call 57;(try rw[hl_.out]);replace h:=bI h;obtain⟨t,A,h⟩:=h;(try dsimp only at h);refine(lz.calls _ _ _ A).mono ?_;rintro e w2 ⟨rfl,n,rfl⟩;clear A)
  |(go_at_call 58;(try rw[hl_.out]);replace h:=bI h;obtain⟨t,A,h⟩:=h;(try dsimp only at h);refine(eK.calls _ _ _ _ _ A).mono ?_;rintro e w2 ⟨rfl,n,rfl⟩;clear A));(repeat' first|((with_reducible replace h:=cG h);rcases h with ⟨hc,h⟩|⟨hc,h⟩<;>first|exact(none_some h).elim|exact absurd hc (by decide)|subst hc|(replace hc:=br hc;subst hc)|(replace hc:=ey hc;subst hc)|(replace hc:=hH_ hc;subst hc)|(have hd:(_==_)=true:=hc)|(have hd:(_==_)=false:=br hc)|(have hd:=hI_ hc;have he:=cD hc;clear hc)|(have hd:=cE hc;have he:=hL_ hc)|(have hd:=decide_eq_false hc)|(have hd:=decide_eq_true hc;(try(have hn:=Int.natCast_pos.mp hc;have hm:=decide_eq_true hn;replace hn:=eq_true hn));first|(obtain⟨g_,e_,i_⟩:=ew (by assumption) (by first|assumption|decide) hc;cases e_)|(obtain⟨a_,e_,c_⟩:=er (by assumption) (by first|assumption|decide) hc;cases e_))|(have hd:=decide_eq_true hc)|skip)|((with_reducible have hj:impl_ActOk.j0 k _ _ _ _ _ _=_:=h);clear hj;rcases k with _|k<;>rw[impl_ActOk.j0]at h<;>first|exact(none_some h).elim|skip)|((with_reducible replace h:=eu h);obtain⟨hl_,h⟩:=h;replace hl_:=A_ hl_;(try dsimp only at h))))
 all_goals obtain rfl:=Option.some.inj h
 all_goals go_ret
 all_goals exact⟨(by first|rfl|(simp_all;done)),From.out⟩
end Go.Proofs.YtnjfiaekdcekgaaGreatDoor.P
namespace Go.Proofs.YtnjfiaekdcekgaaGreatDoor.P
set_option maxRecDepth 100000
open Go.RowKit Go.Proofs.YtnjfiaekdcekgaaGreatDoorW.bS Go.Proofs.YtnjfiaekdcekgaaGreatDoorW.dU Go.Proofs.YtnjfiaekdcekgaaGreatDoorW.dX Go.Proofs.YtnjfiaekdcekgaaGreatDoor.V
attribute [local go_sem] fV fW
attribute [local go_sem] fE fI fH fL fG fK fF fJ
def impl_FormatInt.f (a0:Int):Option (ByteArray):=if-9223372036854775808≤a0∧a0≤9223372036854775807 then some ⟨(Go.Lib.itoa a0).toArray⟩else none
theorem impl_FormatInt.calls (a0:Int) (r:ByteArray) (w:World) (h:impl_FormatInt.f a0=some r) (ht_:aj (rr w)):
  Calls Tryz.prog 18 #[.int .i64 a0] w fun e w'=>e= .returned (.string r)∧Below w.heap.size w w':=by
 unfold impl_FormatInt.f at h;by_cases hc: -9223372036854775808≤a0∧a0≤9223372036854775807
 ·rw[if_pos hc]at h;obtain rfl:=Option.some.inj h;go_enter Tryz.func18,Tryz.ntmps18
  go_wp2_with (go_at_call 44;refine(Any.strconv_Itoa aiB a0 hc.1 hc.2 _ ht_.out).mono ?_;rintro e w' ⟨rfl,k,os,rfl⟩)
  go_ret;exact⟨rfl,Go.Lib.below_grow _ _ (Nat.le_refl _) _ _⟩
 ·rw[if_neg hc]at h;cases h
end Go.Proofs.YtnjfiaekdcekgaaGreatDoor.P
namespace Go.Proofs.YtnjfiaekdcekgaaGreatDoor.P
open Go.RowKit Go.Proofs.YtnjfiaekdcekgaaGreatDoorW.bS Go.Proofs.YtnjfiaekdcekgaaGreatDoorW.dU Go.Proofs.YtnjfiaekdcekgaaGreatDoorW.dX Go.Proofs.YtnjfiaekdcekgaaGreatDoor.V
attribute [local go_sem] fV fW
attribute [local go_sem] fE fI fH fL fG fK fF fJ
def strings_Join.f (l0:List ByteArray) (a1:ByteArray):Option (ByteArray):=if l0.length≤140737488355328∧(Go.Lib.join (l0.map (·.data.toList)) a1.data.toList).length≤140737488355328 then some ⟨(Go.Lib.join (l0.map (·.data.toList)) a1.data.toList).toArray⟩else none
theorem strings_Join.calls (A0:Option Addr) (c0:Nat) (l0:List ByteArray) (a1:ByteArray) (r:ByteArray) (w:World) (cd:Kd.C Kd.string w A0 l0.length l0) (hc0:l0.length≤c0) (h:strings_Join.f l0 a1=some r):
  Calls Tryz.prog 82 #[.slice A0 l0.length c0,.string a1] w fun e w'=>e= .returned (.string r)∧Below w.heap.size w w':=by
 unfold strings_Join.f at h;by_cases hc:l0.length≤140737488355328∧(Go.Lib.join (l0.map (·.data.toList)) a1.data.toList).length≤140737488355328;rotate_left
 ·rw[if_neg hc]at h;cases h
 rw[if_pos hc]at h;obtain rfl:=Option.some.inj h;by_cases hz:l0.length=0
 ·obtain rfl:l0=[]:=List.eq_nil_of_length_eq_zero hz;exact(Any.strings_Join_none NX N2 A0 c0 a1 w).mono fun e w' ⟨he,hw⟩=>⟨he,hw▸Below.refl _ _⟩
 ·obtain⟨ad,rfl,hcell⟩:=(Kd.NL (d:=ByteArray.empty) cd).2.2 (by omega);have h0:=hcell 0 (by omega);obtain⟨bk,o,sp⟩:=ad
  obtain rfl:sp=none:=by
   cases sp with
   |none=>rfl
   |some x=>unfold World.cell? at h0;simp only[Addr.add]at h0;split at h0<;>simp at h0
  refine Any.strings_Join NX N2 bk o c0 l0 a1 w (fun j x hx=> ?_) (World.block_lt_of_cell? w _ h0) hc.1 hc0 hc.2
  have hj:j<l0.length:=by
   rcases Nat.lt_or_ge j l0.length with h'|h'
   ·exact h'
   ·rw[List.getElem?_eq_none h']at hx;cases hx
  have h1:=hcell j hj;rw[List.getD_eq_getElem?_getD,hx]at h1;by_cases hj0:j=0
  ·subst hj0;simpa[Addr.add]using h1
  ·simpa[Addr.add,hj0]using h1
end Go.Proofs.YtnjfiaekdcekgaaGreatDoor.P
namespace Go.Proofs.YtnjfiaekdcekgaaGreatDoor.P
set_option maxHeartbeats 8000000
set_option maxRecDepth 100000
open Go.RowKit Go.Proofs.YtnjfiaekdcekgaaGreatDoorW.bS Go.Proofs.YtnjfiaekdcekgaaGreatDoorW.dU Go.Proofs.YtnjfiaekdcekgaaGreatDoorW.dX Go.Proofs.YtnjfiaekdcekgaaGreatDoor.V
attribute [local go_sem] fV fW
attribute [local go_sem] fE fI fH fL fG fK fF fJ
def dQ.l0:Nat→List ByteArray→List Int→Int→Int→Option (ByteArray)
 |0,_,_,_,_=>none
 |k+1,x3,x7,x8,x9=>if x9<x8 then(if 0≤x9 then(if x9<(x7.length:Int)then((impl_FormatInt.f (rd x7 x9)).bind fun Bt=>(if x3.length<8796093022208 then(dQ.l0 k (x3++[Bt]) x7 x8 (wrap64 (x9+1)))else(none)))else(none))else(none))else((strings_Join.f x3 (⟨#[32]⟩:ByteArray)).bind fun N3=>(some N3))
def dQ.f (k:Nat) (l0:List Int):Option (ByteArray):=dQ.l0 k (([]:List ByteArray)) l0 (l0.length:Int) 0
theorem dQ.calls (k:Nat) (A0:Option Addr) (c0:Nat) (l0:List Int) (r:ByteArray) (w:World) (cd:Kd.C (Kd.int .i64) w A0 l0.length l0) (hc0:l0.length≤c0) (h:dQ.f k l0=some r) (ht_:aj (rr w)):
  Calls Tryz.prog 33 #[.slice A0 l0.length c0] w fun e w'=>e= .returned (.string r)∧Below w.heap.size w w':=by
 have dI:=A_ cd;have nh:=A_ hc0;clear cd hc0;have HB:=A_ (Below.refl w.heap.size w);have H:(dQ.l0 k (([]:List ByteArray)) l0 (l0.length:Int) 0)=some r:=h;clear h;obtain⟨Xl,D1⟩:∃y_:List ByteArray,y_=(([]:List ByteArray)):=⟨_,rfl⟩;replace H:(dQ.l0 k Xl l0 (l0.length:Int) 0)=some r:=by first|(rw[D1];with_reducible exact H)|(have aI:=(Option.bind_some _ _).symm.trans H;rw[D1];with_reducible exact aI)|(have aI:=(Option.bind_some _ _).symm.trans H;with_reducible exact aI)|with_reducible exact H|(rw[D1];exact H)|exact H
 have QM:=A_ D1;clear D1;have H':=A_ H;clear H;go_enter Tryz.func33,Tryz.ntmps33
 go_wp2_with (first|((with_reducible refine gate_dst (N:=6) rfl ?_);refine Kd.iB Kd.string _ 9 ?hg (N:=6) ?hd (xs:=([]:List ByteArray)) (inner:=[]) (ok:=fun _=>True) (cU:=fun _=>True) ?hr ?hp (fun _ hk=>hk) trivial (Below.refl _ _) (Nat.le_refl _) (by simp) ?_;(case hd=>rfl);(case hg=>rfl);(case hr=>first|(go_simp;done)|(go_simp;rfl));(case hp=>exact(bf.none _ _));intro arO w2 ko hb cT dx;clear cT dx;(first|rw[←QM.out]at ko|(simp only[Int.reduceToNat]at ko;rw[←QM.out]at ko));have ah:=A_ (Kd.dr ko (bn (oB HB)));have ai:=A_ (bz (oB HB) hb);clear HB;have Y5:=ah;have HB:=ai;clear ah ai;clear hb ko))
 go_loopg [3,9] k (fun kq v3 v9 w'=>∃(bA:List ByteArray) (nc:Int),v9= .int .i64 nc∧aj (dQ.l0 kq bA l0 (l0.length:Int) nc=some r)∧aj (kq≤k)∧aj (Kd.R Kd.string 9 w' w.heap.size (fun _=>True) v3 bA)∧aj (Below w.heap.size w w'))
 case atStart=>exact⟨(Xl),(0),eS,H',⟨Nat.le_refl _⟩,⟨oR Y5⟩,⟨oB HB⟩⟩
 case round=>
  clear H'
  try clear p2
  try clear c3
  obtain⟨bA,nc,rfl,HA,dh,bc,HB⟩:=hrel;cases gk with
  |zero=>exact absurd HA.out (by simp[dQ.l0])
  |succ k1=>
   have H:=HA.out;clear HA;simp only[dQ.l0]at H;by_cases c4:nc<(l0.length:Int)
   ·rw[if_pos c4]at H;have kj:decide (nc<(l0.length:Int))=true:=decide_eq_true c4;clear c4;by_cases c5:0≤nc
    ·rw[if_pos c5]at H;have ug:decide (0≤nc)=true:=decide_eq_true c5;clear c5;by_cases c6:nc<(l0.length:Int)
     ·rw[if_pos c6]at H;have rI:decide (nc<(l0.length:Int))=true:=decide_eq_true c6;clear c6;replace H:=Option.bind_eq_some_iff.mp H;obtain⟨Bt,mo,H⟩:=H
      (try dsimp only at H)
      have A7:=A_ mo;clear mo;by_cases c8:bA.length<8796093022208
      ·rw[if_pos c8]at H;have Cg:=A_ c8;clear c8;obtain⟨Xm,hy1387⟩:∃y_:List ByteArray,y_=(bA++[Bt]):=⟨_,rfl⟩;replace H:(dQ.l0 k1 Xm l0 (l0.length:Int) (wrap64 (nc+1)))=some r:=by first|(rw[hy1387];with_reducible exact H)|(have aI:=(Option.bind_some _ _).symm.trans H;rw[hy1387];with_reducible exact aI)|(have aI:=(Option.bind_some _ _).symm.trans H;with_reducible exact aI)|with_reducible exact H|(rw[hy1387];exact H)|exact H
       have Z':=A_ hy1387;clear hy1387;have H':=A_ H;clear H;have M9:0≤(nc:Int):=oD;have Ns:nc<(l0.length:Int):=oD;obtain⟨alV,acu,Um⟩:=Kd.jZ dI.out nc M9 Ns;cases acu;replace Um:=hW HB Um;replace M9:=eq_true M9;replace Ns:=eq_true Ns
       go_wp2_with (first|((with_reducible refine bT (f:=18) rfl ?_);refine gL (some 15) Tryz.func18 #[.int .i64 (rd l0 nc)] ?_;(with_reducible refine(impl_FormatInt.calls (rd l0 nc) Bt _ A7.out ?sideT).mono ?_);(case sideT=>exact⟨mY ht_.out (oB HB)⟩);rintro e w9 ⟨rfl,hb⟩;refine⟨_,rfl,?_⟩;have ah:=A_ (Kd.bh (oR bc) hb);have ai:=A_ (bz (oB HB) hb);clear bc;clear HB;have bc:=ah;have HB:=ai;clear ah ai;(try clear hb);(try clear hb2);(try clear hk);(try clear hi))|((with_reducible refine jz (b:= .append) (xs:= #[.tmp 13,.tmp 16]) rfl ?_);at_builtin;refine Kd.R_append Kd.string (w0:=w) w.heap.size rfl (.tmp 13) (.tmp 16) 38 9 (.string ⟨#[]⟩) 16 rfl Tryz.underlying38 ym rfl (by decide) (by omega) u3 bA Bt [.string Bt] (fun _=>True) (fun _=>False) rfl rfl ?aP (fun _ hk=>hk.elim) ?aF ?aO ?aB ?aS ?aL ?_;(case aP=>exact rfl);(case aB=>exact(oB HB));(case aF=>exact(fun _ _=>trivial));(case aO=>exact(oR bc));(case aS=>exact(bn (oB HB)));(case aL=>have:=Cg.out;omega);intro arP lJ ho hb hg hat;rw[←Z'.out]at ho;have ah:=A_ (hb);have ai:=A_ (ho);clear HB;clear bc;have HB:=ah;have Y6:=ai;clear ah ai;clear ho hb hg hat))
       go_roundg k1
       case measure=>have:=dh.out;omega
       case rel=>exact⟨(Xm),(wrap64 (nc+1)),eS,H',⟨by have:=dh.out;omega⟩,⟨oR Y6⟩,⟨oB HB⟩⟩
      ·rw[if_neg c8]at H;exact absurd H (by simp)
     ·rw[if_neg c6]at H;exact absurd H (by simp)
    ·rw[if_neg c5]at H;exact absurd H (by simp)
   ·rw[if_neg c4]at H;have kj:decide (nc<(l0.length:Int))=false:=decide_eq_false c4;clear c4;replace H:=Option.bind_eq_some_iff.mp H;obtain⟨N3,qW,H⟩:=H
    (try dsimp only at H)
    have vr:=A_ qW;clear qW;obtain rfl:=Option.some.inj H;obtain⟨zF,rJ,uk⟩:=Kd.dp bc.out;subst uk
    go_wp2_with (first|((with_reducible refine bT (f:=82) rfl ?_);refine gL (some 20) Tryz.func82 #[.slice zF bA.length rJ,.string (⟨#[32]⟩:ByteArray)] ?_;(with_reducible refine(strings_Join.calls _ _ bA (⟨#[32]⟩:ByteArray) N3 _ ?bG ?bH vr.out).mono ?_);(case bG=>repeat(first|exact(Kd.ct bc.out).2.2|(with_reducible refine Kd.gP ?_ _)|(with_reducible refine Kd.gX ?_ _)|(with_reducible refine Kd.gW ?_)));(case bH=>exact(Kd.ct bc.out).2.1);rintro e tE ⟨rfl,hb⟩;refine⟨_,rfl,?_⟩;have ah:=A_ (Kd.bh (oR bc) hb);have ai:=A_ (bz (oB HB) hb);clear bc;clear HB;have bc:=ah;have HB:=ai;clear ah ai;(try clear hb);(try clear hb2);(try clear hk);(try clear hi)))
    go_ret;exact⟨eR,oB HB⟩
def pE.f (k:Nat) (a0_0:Int) (ax:Int) (a0_2:Int) (aN:Int):Option (ByteArray×Bool):=(impl_ActOk.f k a0_0 ax a0_2 aN).bind fun Fu=>(if Fu=true then(if a0_0=1 then(some ((⟨#[116,117,110,101]⟩:ByteArray),true))else(if a0_0=2 then((dQ.f k (([ax]:List Int))).bind fun pL=>(if 5+pL.size≤9223372036854775807 then(some ((⟨#[119,97,114,109,32]⟩:ByteArray)++pL,true))else(none)))else(if a0_0=3 then((dQ.f k (([ax,a0_2,aN]:List Int))).bind fun pM=>(if 6+pM.size≤9223372036854775807 then(some ((⟨#[102,97,117,108,116,32]⟩:ByteArray)++pM,true))else(none)))else(if a0_0=4 then((dQ.f k (([ax,a0_2]:List Int))).bind fun pN=>(if 6+pN.size≤9223372036854775807 then(some ((⟨#[107,110,111,99,107,32]⟩:ByteArray)++pN,true))else(none)))else(if a0_0=5 then(some ((⟨#[114,101,112,97,105,114]⟩:ByteArray),true))else(if a0_0=6 then(some ((⟨#[108,101,102,116]⟩:ByteArray),true))else((dQ.f k (([ax]:List Int))).bind fun pO=>(if 6+pO.size≤9223372036854775807 then(some ((⟨#[104,101,97,114,100,32]⟩:ByteArray)++pO,true))else(none)))))))))else(some ((⟨#[]⟩:ByteArray),false)))
theorem pE.calls (k:Nat) (a0_0:Int) (ax:Int) (a0_2:Int) (aN:Int) (r1:ByteArray) (r2:Bool) (w:World) (h:pE.f k a0_0 ax a0_2 aN=some (r1,r2)) (ht_:aj (rr w)):
  Calls Tryz.prog 36 #[.agg #[.int .i64 a0_0,.int .i64 ax,.int .i64 a0_2,.int .i64 aN]] w fun e w'=>e= .returned (.tuple #[.string r1,.bool r2])∧Below w.heap.size w w':=by
 have AU:=Tryz.underlying57;have HB:=A_ (Below.refl w.heap.size w);have H:((impl_ActOk.f k a0_0 ax a0_2 aN).bind fun Fu=>(if Fu=true then(if a0_0=1 then(some ((⟨#[116,117,110,101]⟩:ByteArray),true))else(if a0_0=2 then((dQ.f k (([ax]:List Int))).bind fun pL=>(if 5+pL.size≤9223372036854775807 then(some ((⟨#[119,97,114,109,32]⟩:ByteArray)++pL,true))else(none)))else(if a0_0=3 then((dQ.f k (([ax,a0_2,aN]:List Int))).bind fun pM=>(if 6+pM.size≤9223372036854775807 then(some ((⟨#[102,97,117,108,116,32]⟩:ByteArray)++pM,true))else(none)))else(if a0_0=4 then((dQ.f k (([ax,a0_2]:List Int))).bind fun pN=>(if 6+pN.size≤9223372036854775807 then(some ((⟨#[107,110,111,99,107,32]⟩:ByteArray)++pN,true))else(none)))else(if a0_0=5 then(some ((⟨#[114,101,112,97,105,114]⟩:ByteArray),true))else(if a0_0=6 then(some ((⟨#[108,101,102,116]⟩:ByteArray),true))else((dQ.f k (([ax]:List Int))).bind fun pO=>(if 6+pO.size≤9223372036854775807 then(some ((⟨#[104,101,97,114,100,32]⟩:ByteArray)++pO,true))else(none)))))))))else(some ((⟨#[]⟩:ByteArray),false))))=some (r1,r2):=h;clear h;replace H:=Option.bind_eq_some_iff.mp H;obtain⟨Fu,fh,H⟩:=H
 (try dsimp only at H)
 have A2:=A_ fh;clear fh;by_cases c3:Fu=true
 ·subst c3;rw[if_pos rfl]at H;by_cases c4:a0_0=1
  ·rw[if_pos c4]at H;have kj:(a0_0==1)=true:=beq_iff_eq.mpr c4;have K_:(a0_0 != 1)=false:=bne_eq_false_iff_eq.mpr c4;clear c4;simp only[Option.some.injEq,Prod.mk.injEq]at H;obtain⟨rfl,rfl⟩:=H;go_enter Tryz.func36,Tryz.ntmps36
   go_wp2_with (first|((with_reducible refine gate_dst (N:=1) rfl ?_);refine bX (N:=1) (cs:= #[.int .i64 a0_0,.int .i64 ax,.int .i64 a0_2,.int .i64 aN]) (t:=57) ?_;intro km hg w5 cj hb;have ah:=A_ (bz (oB HB) hb);have ai:=A_ (cj);have ay:=A_ ((by rw[hg];exact(bn (oB HB)):w.heap.size≤km));have aG:=A_ ((by rw[hg];exact(bn (oB HB)):w.heap.size≤km));clear HB;have HB:=ah;have aV:=ai;have xc:=ay;have xb:=aG;clear ah ai ay aG;clear hb cj hg;have adX:=cz aV 0;have adY:=cz aV 1;have adZ:=cz aV 2;have hcz6_3:=cz aV 3;have aeC:=aJ aV.out 0;have aeD:=aJ aV.out 1;have aeE:=aJ aV.out 2;have aeF:=aJ aV.out 3)|((with_reducible refine bT (f:=59) rfl ?_);refine gL (some 5) Tryz.func59 #[.agg #[.int .i64 a0_0,.int .i64 ax,.int .i64 a0_2,.int .i64 aN]] ?_;(with_reducible refine(impl_ActOk.calls k a0_0 ax a0_2 aN true _ A2.out).mono ?_);rintro e w7 ⟨rfl,hb⟩;refine⟨_,rfl,?_⟩;have ah:=A_ (bb aV hb);have ai:=A_ (bz (oB HB) hb);clear aV;clear HB;have aV:=ah;have HB:=ai;clear ah ai;(try clear hb);(try clear hb2);(try clear hk);(try clear hi);have Md:=cz aV 0;have Me:=cz aV 1;have Mf:=cz aV 2;have aom:=cz aV 3;have Mj:=aJ aV.out 0;have hfz8_1:=aJ aV.out 1;have Ml:=aJ aV.out 2;have ap3:=aJ aV.out 3))
   go_ret2;exact⟨eR,oB HB⟩
  ·rw[if_neg c4]at H;have kj:(a0_0==1)=false:=beq_eq_false_iff_ne.mpr c4;have K_:(a0_0 != 1)=true:=bne_iff_ne.mpr c4;by_cases c9:a0_0=2
   ·rw[if_pos c9]at H;have mF:(a0_0==2)=true:=beq_iff_eq.mpr c9;have sS:(a0_0 != 2)=false:=bne_eq_false_iff_eq.mpr c9;clear c9;obtain⟨Pk,hy1573⟩:∃y_:List Int,y_=(([ax]:List Int)):=⟨_,rfl⟩;replace H:((dQ.f k Pk).bind fun pL=>(if 5+pL.size≤9223372036854775807 then(some ((⟨#[119,97,114,109,32]⟩:ByteArray)++pL,true))else(none)))=some (r1,r2):=by first|(rw[hy1573];with_reducible exact H)|(have aI:=(Option.bind_some _ _).symm.trans H;rw[hy1573];with_reducible exact aI)|(have aI:=(Option.bind_some _ _).symm.trans H;with_reducible exact aI)|with_reducible exact H|(rw[hy1573];exact H)|exact H
    have QS:=A_ hy1573;clear hy1573;replace H:=Option.bind_eq_some_iff.mp H;obtain⟨pL,vq,H⟩:=H
    (try dsimp only at H)
    have BU:=A_ vq;clear vq;by_cases c11:5+pL.size≤9223372036854775807
    ·rw[if_pos c11]at H;have Hh:=eq_true c11;have Hi:decide (5+pL.size≤9223372036854775807)=true:=decide_eq_true c11
     try have RP:(9223372036854775807<5+pL.size)=False:=eq_false (Nat.not_lt.2 c11)
     simp only[Option.some.injEq,Prod.mk.injEq]at H;obtain⟨rfl,rfl⟩:=H;go_enter Tryz.func36,Tryz.ntmps36
     go_wp2_with (first|((with_reducible refine gate_dst (N:=1) rfl ?_);refine bX (N:=1) (cs:= #[.int .i64 a0_0,.int .i64 ax,.int .i64 a0_2,.int .i64 aN]) (t:=57) ?_;intro km hg w12 cj hb;have ah:=A_ (bz (oB HB) hb);have ai:=A_ (cj);have ay:=A_ ((by rw[hg];exact(bn (oB HB)):w.heap.size≤km));have aG:=A_ ((by rw[hg];exact(bn (oB HB)):w.heap.size≤km));clear HB;have HB:=ah;have aV:=ai;have xc:=ay;have xb:=aG;clear ah ai ay aG;clear hb cj hg;have C5:=cz aV 0;have C6:=cz aV 1;have C7:=cz aV 2;have Tp:=cz aV 3;have Db:=aJ aV.out 0;have Dc:=aJ aV.out 1;have Dd:=aJ aV.out 2;have TP:=aJ aV.out 3)|((with_reducible refine bT (f:=59) rfl ?_);refine gL (some 5) Tryz.func59 #[.agg #[.int .i64 a0_0,.int .i64 ax,.int .i64 a0_2,.int .i64 aN]] ?_;(with_reducible refine(impl_ActOk.calls k a0_0 ax a0_2 aN true _ A2.out).mono ?_);rintro e wW ⟨rfl,hb⟩;refine⟨_,rfl,?_⟩;have ah:=A_ (bb aV hb);have ai:=A_ (bz (oB HB) hb);clear aV;clear HB;have aV:=ah;have HB:=ai;clear ah ai;(try clear hb);(try clear hb2);(try clear hk);(try clear hi);have amU:=cz aV 0;have amV:=cz aV 1;have amW:=cz aV 2;have amX:=cz aV 3;have aoC:=aJ aV.out 0;have aoD:=aJ aV.out 1;have aoE:=aJ aV.out 2;have aoF:=aJ aV.out 3)|((with_reducible refine gate_dst (N:=15) rfl ?_);refine Kd.iB (Kd.int .i64) _ 3 ?hg (N:=15) ?hd (xs:=([ax]:List Int)) (inner:=[.int .i64 ax]) (ok:=fun _=>True) (cU:=fun _=>True) ?hr ?hp (fun _ hk=>hk) trivial (Below.refl _ _) (Nat.le_refl _) (by simp) ?_;(case hd=>rfl);(case hg=>rfl);(case hr=>first|(go_simp;done)|(go_simp;rfl));(case hp=>exact(bf.one (show Kd.M (Kd.int .i64) _ _ _ ax [.int .i64 ax]from rfl) (bf.none _ _)));intro arS l5 gh hb cT dx;clear cT dx;(first|rw[←QS.out]at gh|(simp only[Int.reduceToNat]at gh;rw[←QS.out]at gh));have ah:=A_ (Kd.dr gh (bn (oB HB)));have ai:=A_ (bb aV hb);have ay:=A_ (bz (oB HB) hb);clear aV;clear HB;have zP:=ah;have aV:=ai;have HB:=ay;clear ah ai ay;clear hb gh;obtain⟨PN,Ht,LA⟩:=Kd.dp zP.out;subst LA)|((with_reducible refine bT (f:=33) rfl ?_);refine gL (some 16) Tryz.func33 #[.slice PN Pk.length Ht] ?_;(with_reducible refine(dQ.calls k _ _ Pk pL _ ?bG ?bH BU.out ?sideT).mono ?_);(case sideT=>exact⟨mY ht_.out (oB HB)⟩);(case bG=>repeat(first|exact(Kd.ct zP.out).2.2|(with_reducible refine Kd.gP ?_ _)|(with_reducible refine Kd.gX ?_ _)|(with_reducible refine Kd.gW ?_)));(case bH=>exact(Kd.ct zP.out).2.1);rintro e w19 ⟨rfl,hb⟩;refine⟨_,rfl,?_⟩;have ah:=A_ (Kd.bh (oR zP) hb);have ai:=A_ (bb aV hb);have ay:=A_ (bz (oB HB) hb);clear zP;clear aV;clear HB;have zP:=ah;have aV:=ai;have HB:=ay;clear ah ai ay;(try clear hb);(try clear hb2);(try clear hk);(try clear hi)))
     go_ret2;exact⟨eR,oB HB⟩
    ·rw[if_neg c11]at H;exact absurd H (by simp)
   ·rw[if_neg c9]at H;have mF:(a0_0==2)=false:=beq_eq_false_iff_ne.mpr c9;have sS:(a0_0 != 2)=true:=bne_iff_ne.mpr c9;by_cases c20:a0_0=3
    ·rw[if_pos c20]at H;have vU:(a0_0==3)=true:=beq_iff_eq.mpr c20;have CK:(a0_0 != 3)=false:=bne_eq_false_iff_eq.mpr c20;clear c20;obtain⟨Pm,D_⟩:∃y_:List Int,y_=(([ax,a0_2,aN]:List Int)):=⟨_,rfl⟩;replace H:((dQ.f k Pm).bind fun pM=>(if 6+pM.size≤9223372036854775807 then(some ((⟨#[102,97,117,108,116,32]⟩:ByteArray)++pM,true))else(none)))=some (r1,r2):=by first|(rw[D_];with_reducible exact H)|(have aI:=(Option.bind_some _ _).symm.trans H;rw[D_];with_reducible exact aI)|(have aI:=(Option.bind_some _ _).symm.trans H;with_reducible exact aI)|with_reducible exact H|(rw[D_];exact H)|exact H
     have QT:=A_ D_;clear D_;replace H:=Option.bind_eq_some_iff.mp H;obtain⟨pM,BV,H⟩:=H
     (try dsimp only at H)
     have Gw:=A_ BV;clear BV;by_cases lv:6+pM.size≤9223372036854775807
     ·rw[if_pos lv]at H;have abI:=eq_true lv;have al3:decide (6+pM.size≤9223372036854775807)=true:=decide_eq_true lv
      try have al4:(9223372036854775807<6+pM.size)=False:=eq_false (Nat.not_lt.2 lv)
      simp only[Option.some.injEq,Prod.mk.injEq]at H;obtain⟨rfl,rfl⟩:=H;go_enter Tryz.func36,Tryz.ntmps36
      go_wp2_with (first|((with_reducible refine gate_dst (N:=1) rfl ?_);refine bX (N:=1) (cs:= #[.int .i64 a0_0,.int .i64 ax,.int .i64 a0_2,.int .i64 aN]) (t:=57) ?_;intro km hg F0 cj hb;have ah:=A_ (bz (oB HB) hb);have ai:=A_ (cj);have ay:=A_ ((by rw[hg];exact(bn (oB HB)):w.heap.size≤km));have aG:=A_ ((by rw[hg];exact(bn (oB HB)):w.heap.size≤km));clear HB;have HB:=ah;have aV:=ai;have xc:=ay;have xb:=aG;clear ah ai ay aG;clear hb cj hg;have adz:=cz aV 0;have adA:=cz aV 1;have adB:=cz aV 2;have amY:=cz aV 3;have aee:=aJ aV.out 0;have aef:=aJ aV.out 1;have aeg:=aJ aV.out 2;have aoG:=aJ aV.out 3)|((with_reducible refine bT (f:=59) rfl ?_);refine gL (some 5) Tryz.func59 #[.agg #[.int .i64 a0_0,.int .i64 ax,.int .i64 a0_2,.int .i64 aN]] ?_;(with_reducible refine(impl_ActOk.calls k a0_0 ax a0_2 aN true _ A2.out).mono ?_);rintro e F2 ⟨rfl,hb⟩;refine⟨_,rfl,?_⟩;have ah:=A_ (bb aV hb);have ai:=A_ (bz (oB HB) hb);clear aV;clear HB;have aV:=ah;have HB:=ai;clear ah ai;(try clear hb);(try clear hb2);(try clear hk);(try clear hi);have H7:=cz aV 0;have H8:=cz aV 1;have hcz26_2:=cz aV 2;have H_:=cz aV 3;have Ih:=aJ aV.out 0;have Ii:=aJ aV.out 1;have Ij:=aJ aV.out 2;have Ik:=aJ aV.out 3)|((with_reducible refine gate_dst (N:=26) rfl ?_);refine Kd.iB (Kd.int .i64) _ 3 ?hg (N:=26) ?hd (xs:=([ax,a0_2,aN]:List Int)) (inner:=[.int .i64 ax,.int .i64 a0_2,.int .i64 aN]) (ok:=fun _=>True) (cU:=fun _=>True) ?hr ?hp (fun _ hk=>hk) trivial (Below.refl _ _) (Nat.le_refl _) (by simp) ?_;(case hd=>rfl);(case hg=>rfl);(case hr=>first|(go_simp;done)|(go_simp;rfl));(case hp=>exact(bf.one (show Kd.M (Kd.int .i64) _ _ _ ax [.int .i64 ax]from rfl) (bf.one (show Kd.M (Kd.int .i64) _ _ _ a0_2 [.int .i64 a0_2]from rfl) (bf.one (show Kd.M (Kd.int .i64) _ _ _ aN [.int .i64 aN]from rfl) (bf.none _ _)))));intro arT zz qy hb cT dx;clear cT dx;(first|rw[←QT.out]at qy|(simp only[Int.reduceToNat]at qy;rw[←QT.out]at qy));have ah:=A_ (Kd.dr qy (bn (oB HB)));have ai:=A_ (bb aV hb);have ay:=A_ (bz (oB HB) hb);clear aV;clear HB;have zQ:=ah;have aV:=ai;have HB:=ay;clear ah ai ay;clear hb qy;obtain⟨X8,ace,acM⟩:=Kd.dp zQ.out;subst acM)|((with_reducible refine bT (f:=33) rfl ?_);refine gL (some 27) Tryz.func33 #[.slice X8 Pm.length ace] ?_;(with_reducible refine(dQ.calls k _ _ Pm pM _ ?bG ?bH Gw.out ?sideT).mono ?_);(case sideT=>exact⟨mY ht_.out (oB HB)⟩);(case bG=>repeat(first|exact(Kd.ct zQ.out).2.2|(with_reducible refine Kd.gP ?_ _)|(with_reducible refine Kd.gX ?_ _)|(with_reducible refine Kd.gW ?_)));(case bH=>exact(Kd.ct zQ.out).2.1);rintro e F4 ⟨rfl,hb⟩;refine⟨_,rfl,?_⟩;have ah:=A_ (Kd.bh (oR zQ) hb);have ai:=A_ (bb aV hb);have ay:=A_ (bz (oB HB) hb);clear zQ;clear aV;clear HB;have zQ:=ah;have aV:=ai;have HB:=ay;clear ah ai ay;(try clear hb);(try clear hb2);(try clear hk);(try clear hi)))
      go_ret2;exact⟨eR,oB HB⟩
     ·rw[if_neg lv]at H;exact absurd H (by simp)
    ·rw[if_neg c20]at H;have vU:(a0_0==3)=false:=beq_eq_false_iff_ne.mpr c20;have CK:(a0_0 != 3)=true:=bne_iff_ne.mpr c20;by_cases c31:a0_0=4
     ·rw[if_pos c31]at H;have K8:(a0_0==4)=true:=beq_iff_eq.mpr c31;have abL:(a0_0 != 4)=false:=bne_eq_false_iff_eq.mpr c31;clear c31;obtain⟨Pn,Ea⟩:∃y_:List Int,y_=(([ax,a0_2]:List Int)):=⟨_,rfl⟩;replace H:((dQ.f k Pn).bind fun pN=>(if 6+pN.size≤9223372036854775807 then(some ((⟨#[107,110,111,99,107,32]⟩:ByteArray)++pN,true))else(none)))=some (r1,r2):=by first|(rw[Ea];with_reducible exact H)|(have aI:=(Option.bind_some _ _).symm.trans H;rw[Ea];with_reducible exact aI)|(have aI:=(Option.bind_some _ _).symm.trans H;with_reducible exact aI)|with_reducible exact H|(rw[Ea];exact H)|exact H
      have QU:=A_ Ea;clear Ea;replace H:=Option.bind_eq_some_iff.mp H;obtain⟨pN,PH,H⟩:=H
      (try dsimp only at H)
      have XY:=A_ PH;clear PH;by_cases qo:6+pN.size≤9223372036854775807
      ·rw[if_pos qo]at H;have RU:=eq_true qo;have ama:decide (6+pN.size≤9223372036854775807)=true:=decide_eq_true qo
       try have amb:(9223372036854775807<6+pN.size)=False:=eq_false (Nat.not_lt.2 qo)
       simp only[Option.some.injEq,Prod.mk.injEq]at H;obtain⟨rfl,rfl⟩:=H;go_enter Tryz.func36,Tryz.ntmps36
       go_wp2_with (first|((with_reducible refine gate_dst (N:=1) rfl ?_);refine bX (N:=1) (cs:= #[.int .i64 a0_0,.int .i64 ax,.int .i64 a0_2,.int .i64 aN]) (t:=57) ?_;intro km hg w34 cj hb;have ah:=A_ (bz (oB HB) hb);have ai:=A_ (cj);have ay:=A_ ((by rw[hg];exact(bn (oB HB)):w.heap.size≤km));have aG:=A_ ((by rw[hg];exact(bn (oB HB)):w.heap.size≤km));clear HB;have HB:=ah;have aV:=ai;have xc:=ay;have xb:=aG;clear ah ai ay aG;clear hb cj hg;have adL:=cz aV 0;have adM:=cz aV 1;have adN:=cz aV 2;have am9:=cz aV 3;have aeq:=aJ aV.out 0;have aer:=aJ aV.out 1;have aes:=aJ aV.out 2;have aoR:=aJ aV.out 3)|((with_reducible refine bT (f:=59) rfl ?_);refine gL (some 5) Tryz.func59 #[.agg #[.int .i64 a0_0,.int .i64 ax,.int .i64 a0_2,.int .i64 aN]] ?_;(with_reducible refine(impl_ActOk.calls k a0_0 ax a0_2 aN true _ A2.out).mono ?_);rintro e OG ⟨rfl,hb⟩;refine⟨_,rfl,?_⟩;have ah:=A_ (bb aV hb);have ai:=A_ (bz (oB HB) hb);clear aV;clear HB;have aV:=ah;have HB:=ai;clear ah ai;(try clear hb);(try clear hb2);(try clear hk);(try clear hi);have adO:=cz aV 0;have adP:=cz aV 1;have adQ:=cz aV 2;have anc:=cz aV 3;have aet:=aJ aV.out 0;have aeu:=aJ aV.out 1;have aev:=aJ aV.out 2;have aoW:=aJ aV.out 3)|((with_reducible refine gate_dst (N:=35) rfl ?_);refine Kd.iB (Kd.int .i64) _ 3 ?hg (N:=35) ?hd (xs:=([ax,a0_2]:List Int)) (inner:=[.int .i64 ax,.int .i64 a0_2]) (ok:=fun _=>True) (cU:=fun _=>True) ?hr ?hp (fun _ hk=>hk) trivial (Below.refl _ _) (Nat.le_refl _) (by simp) ?_;(case hd=>rfl);(case hg=>rfl);(case hr=>first|(go_simp;done)|(go_simp;rfl));(case hp=>exact(bf.one (show Kd.M (Kd.int .i64) _ _ _ ax [.int .i64 ax]from rfl) (bf.one (show Kd.M (Kd.int .i64) _ _ _ a0_2 [.int .i64 a0_2]from rfl) (bf.none _ _))));intro arU WT Di hb cT dx;clear cT dx;(first|rw[←QU.out]at Di|(simp only[Int.reduceToNat]at Di;rw[←QU.out]at Di));have ah:=A_ (Kd.dr Di (bn (oB HB)));have ai:=A_ (bb aV hb);have ay:=A_ (bz (oB HB) hb);clear aV;clear HB;have zR:=ah;have aV:=ai;have HB:=ay;clear ah ai ay;clear hb Di;obtain⟨lf,lx,LG⟩:=Kd.dp zR.out;subst LG)|((with_reducible refine bT (f:=33) rfl ?_);refine gL (some 36) Tryz.func33 #[.slice lf Pn.length lx] ?_;(with_reducible refine(dQ.calls k _ _ Pn pN _ ?bG ?bH XY.out ?sideT).mono ?_);(case sideT=>exact⟨mY ht_.out (oB HB)⟩);(case bG=>repeat(first|exact(Kd.ct zR.out).2.2|(with_reducible refine Kd.gP ?_ _)|(with_reducible refine Kd.gX ?_ _)|(with_reducible refine Kd.gW ?_)));(case bH=>exact(Kd.ct zR.out).2.1);rintro e w41 ⟨rfl,hb⟩;refine⟨_,rfl,?_⟩;have ah:=A_ (Kd.bh (oR zR) hb);have ai:=A_ (bb aV hb);have ay:=A_ (bz (oB HB) hb);clear zR;clear aV;clear HB;have zR:=ah;have aV:=ai;have HB:=ay;clear ah ai ay;(try clear hb);(try clear hb2);(try clear hk);(try clear hi)))
       go_ret2;exact⟨eR,oB HB⟩
      ·rw[if_neg qo]at H;exact absurd H (by simp)
     ·rw[if_neg c31]at H;have K8:(a0_0==4)=false:=beq_eq_false_iff_ne.mpr c31;have abL:(a0_0 != 4)=true:=bne_iff_ne.mpr c31;by_cases xQ:a0_0=5
      ·rw[if_pos xQ]at H;have abS:(a0_0==5)=true:=beq_iff_eq.mpr xQ;have abT:(a0_0 != 5)=false:=bne_eq_false_iff_eq.mpr xQ;clear xQ;simp only[Option.some.injEq,Prod.mk.injEq]at H;obtain⟨rfl,rfl⟩:=H;go_enter Tryz.func36,Tryz.ntmps36
       go_wp2_with (first|((with_reducible refine gate_dst (N:=1) rfl ?_);refine bX (N:=1) (cs:= #[.int .i64 a0_0,.int .i64 ax,.int .i64 a0_2,.int .i64 aN]) (t:=57) ?_;intro km hg w43 cj hb;have ah:=A_ (bz (oB HB) hb);have ai:=A_ (cj);have ay:=A_ ((by rw[hg];exact(bn (oB HB)):w.heap.size≤km));have aG:=A_ ((by rw[hg];exact(bn (oB HB)):w.heap.size≤km));clear HB;have HB:=ah;have aV:=ai;have xc:=ay;have xb:=aG;clear ah ai ay aG;clear hb cj hg;have anv:=cz aV 0;have anw:=cz aV 1;have anx:=cz aV 2;have anz:=cz aV 3;have apc:=aJ aV.out 0;have apd:=aJ aV.out 1;have ape:=aJ aV.out 2;have apf:=aJ aV.out 3)|((with_reducible refine bT (f:=59) rfl ?_);refine gL (some 5) Tryz.func59 #[.agg #[.int .i64 a0_0,.int .i64 ax,.int .i64 a0_2,.int .i64 aN]] ?_;(with_reducible refine(impl_ActOk.calls k a0_0 ax a0_2 aN true _ A2.out).mono ?_);rintro e w45 ⟨rfl,hb⟩;refine⟨_,rfl,?_⟩;have ah:=A_ (bb aV hb);have ai:=A_ (bz (oB HB) hb);clear aV;clear HB;have aV:=ah;have HB:=ai;clear ah ai;(try clear hb);(try clear hb2);(try clear hk);(try clear hi);have anG:=cz aV 0;have anH:=cz aV 1;have anI:=cz aV 2;have anJ:=cz aV 3;have apm:=aJ aV.out 0;have apn:=aJ aV.out 1;have apo:=aJ aV.out 2;have apq:=aJ aV.out 3))
       go_ret2;exact⟨eR,oB HB⟩
      ·rw[if_neg xQ]at H;have abS:(a0_0==5)=false:=beq_eq_false_iff_ne.mpr xQ;have abT:(a0_0 != 5)=true:=bne_iff_ne.mpr xQ;by_cases qp:a0_0=6
       ·rw[if_pos qp]at H;have RV:(a0_0==6)=true:=beq_iff_eq.mpr qp;have abV:(a0_0 != 6)=false:=bne_eq_false_iff_eq.mpr qp;clear qp;simp only[Option.some.injEq,Prod.mk.injEq]at H;obtain⟨rfl,rfl⟩:=H;go_enter Tryz.func36,Tryz.ntmps36
        go_wp2_with (first|((with_reducible refine gate_dst (N:=1) rfl ?_);refine bX (N:=1) (cs:= #[.int .i64 a0_0,.int .i64 ax,.int .i64 a0_2,.int .i64 aN]) (t:=57) ?_;intro km hg w48 cj hb;have ah:=A_ (bz (oB HB) hb);have ai:=A_ (cj);have ay:=A_ ((by rw[hg];exact(bn (oB HB)):w.heap.size≤km));have aG:=A_ ((by rw[hg];exact(bn (oB HB)):w.heap.size≤km));clear HB;have HB:=ah;have aV:=ai;have xc:=ay;have xb:=aG;clear ah ai ay aG;clear hb cj hg;have anQ:=cz aV 0;have anR:=cz aV 1;have anS:=cz aV 2;have anT:=cz aV 3;have apx:=aJ aV.out 0;have apy:=aJ aV.out 1;have apz:=aJ aV.out 2;have apA:=aJ aV.out 3)|((with_reducible refine bT (f:=59) rfl ?_);refine gL (some 5) Tryz.func59 #[.agg #[.int .i64 a0_0,.int .i64 ax,.int .i64 a0_2,.int .i64 aN]] ?_;(with_reducible refine(impl_ActOk.calls k a0_0 ax a0_2 aN true _ A2.out).mono ?_);rintro e w50 ⟨rfl,hb⟩;refine⟨_,rfl,?_⟩;have ah:=A_ (bb aV hb);have ai:=A_ (bz (oB HB) hb);clear aV;clear HB;have aV:=ah;have HB:=ai;clear ah ai;(try clear hb);(try clear hb2);(try clear hk);(try clear hi);have anX:=cz aV 0;have anY:=cz aV 1;have anZ:=cz aV 2;have an0:=cz aV 3;have apD:=aJ aV.out 0;have apE:=aJ aV.out 1;have apF:=aJ aV.out 2;have apG:=aJ aV.out 3))
        go_ret2;exact⟨eR,oB HB⟩
       ·rw[if_neg qp]at H;have RV:(a0_0==6)=false:=beq_eq_false_iff_ne.mpr qp;have abV:(a0_0 != 6)=true:=bne_iff_ne.mpr qp;obtain⟨Po,Eb⟩:∃y_:List Int,y_=(([ax]:List Int)):=⟨_,rfl⟩;replace H:((dQ.f k Po).bind fun pO=>(if 6+pO.size≤9223372036854775807 then(some ((⟨#[104,101,97,114,100,32]⟩:ByteArray)++pO,true))else(none)))=some (r1,r2):=by first|(rw[Eb];with_reducible exact H)|(have aI:=(Option.bind_some _ _).symm.trans H;rw[Eb];with_reducible exact aI)|(have aI:=(Option.bind_some _ _).symm.trans H;with_reducible exact aI)|with_reducible exact H|(rw[Eb];exact H)|exact H
        have QV:=A_ Eb;clear Eb;replace H:=Option.bind_eq_some_iff.mp H;obtain⟨pO,A520,H⟩:=H
        (try dsimp only at H)
        have JI:=A_ A520;clear A520;by_cases c53:6+pO.size≤9223372036854775807
        ·rw[if_pos c53]at H;have amf:=eq_true c53;have amg:decide (6+pO.size≤9223372036854775807)=true:=decide_eq_true c53
         try have amh:(9223372036854775807<6+pO.size)=False:=eq_false (Nat.not_lt.2 c53)
         simp only[Option.some.injEq,Prod.mk.injEq]at H;obtain⟨rfl,rfl⟩:=H;go_enter Tryz.func36,Tryz.ntmps36
         go_wp2_with (first|((with_reducible refine gate_dst (N:=1) rfl ?_);refine bX (N:=1) (cs:= #[.int .i64 a0_0,.int .i64 ax,.int .i64 a0_2,.int .i64 aN]) (t:=57) ?_;intro km hg w54 cj hb;have ah:=A_ (bz (oB HB) hb);have ai:=A_ (cj);have ay:=A_ ((by rw[hg];exact(bn (oB HB)):w.heap.size≤km));have aG:=A_ ((by rw[hg];exact(bn (oB HB)):w.heap.size≤km));clear HB;have HB:=ah;have aV:=ai;have xc:=ay;have xb:=aG;clear ah ai ay aG;clear hb cj hg;have an7:=cz aV 0;have an8:=cz aV 1;have an9:=cz aV 2;have an_:=cz aV 3;have apN:=aJ aV.out 0;have apO:=aJ aV.out 1;have apP:=aJ aV.out 2;have apQ:=aJ aV.out 3)|((with_reducible refine bT (f:=59) rfl ?_);refine gL (some 5) Tryz.func59 #[.agg #[.int .i64 a0_0,.int .i64 ax,.int .i64 a0_2,.int .i64 aN]] ?_;(with_reducible refine(impl_ActOk.calls k a0_0 ax a0_2 aN true _ A2.out).mono ?_);rintro e w56 ⟨rfl,hb⟩;refine⟨_,rfl,?_⟩;have ah:=A_ (bb aV hb);have ai:=A_ (bz (oB HB) hb);clear aV;clear HB;have aV:=ah;have HB:=ai;clear ah ai;(try clear hb);(try clear hb2);(try clear hk);(try clear hi);have an':=cz aV 0;have aoa:=cz aV 1;have aob:=cz aV 2;have aoc:=cz aV 3;have apR:=aJ aV.out 0;have apS:=aJ aV.out 1;have apT:=aJ aV.out 2;have apU:=aJ aV.out 3)|((with_reducible refine gate_dst (N:=44) rfl ?_);refine Kd.iB (Kd.int .i64) _ 3 ?hg (N:=44) ?hd (xs:=([ax]:List Int)) (inner:=[.int .i64 ax]) (ok:=fun _=>True) (cU:=fun _=>True) ?hr ?hp (fun _ hk=>hk) trivial (Below.refl _ _) (Nat.le_refl _) (by simp) ?_;(case hd=>rfl);(case hg=>rfl);(case hr=>first|(go_simp;done)|(go_simp;rfl));(case hp=>exact(bf.one (show Kd.M (Kd.int .i64) _ _ _ ax [.int .i64 ax]from rfl) (bf.none _ _)));intro arV w58 Dk hb cT dx;clear cT dx;(first|rw[←QV.out]at Dk|(simp only[Int.reduceToNat]at Dk;rw[←QV.out]at Dk));have ah:=A_ (Kd.dr Dk (bn (oB HB)));have ai:=A_ (bb aV hb);have ay:=A_ (bz (oB HB) hb);clear aV;clear HB;have zS:=ah;have aV:=ai;have HB:=ay;clear ah ai ay;clear hb Dk;obtain⟨Yb,acj,acY⟩:=Kd.dp zS.out;subst acY)|((with_reducible refine bT (f:=33) rfl ?_);refine gL (some 45) Tryz.func33 #[.slice Yb Po.length acj] ?_;(with_reducible refine(dQ.calls k _ _ Po pO _ ?bG ?bH JI.out ?sideT).mono ?_);(case sideT=>exact⟨mY ht_.out (oB HB)⟩);(case bG=>repeat(first|exact(Kd.ct zS.out).2.2|(with_reducible refine Kd.gP ?_ _)|(with_reducible refine Kd.gX ?_ _)|(with_reducible refine Kd.gW ?_)));(case bH=>exact(Kd.ct zS.out).2.1);rintro e w61 ⟨rfl,hb⟩;refine⟨_,rfl,?_⟩;have ah:=A_ (Kd.bh (oR zS) hb);have ai:=A_ (bb aV hb);have ay:=A_ (bz (oB HB) hb);clear zS;clear aV;clear HB;have zS:=ah;have aV:=ai;have HB:=ay;clear ah ai ay;(try clear hb);(try clear hb2);(try clear hk);(try clear hi)))
         go_ret2;exact⟨eR,oB HB⟩
        ·rw[if_neg c53]at H;exact absurd H (by simp)
 ·replace c3:=Bool.eq_false_iff.mpr c3;subst c3;rw[if_neg (show¬(false=true)by decide)]at H;simp only[Option.some.injEq,Prod.mk.injEq]at H;obtain⟨rfl,rfl⟩:=H;go_enter Tryz.func36,Tryz.ntmps36
  go_wp2_with (first|((with_reducible refine gate_dst (N:=1) rfl ?_);refine bX (N:=1) (cs:= #[.int .i64 a0_0,.int .i64 ax,.int .i64 a0_2,.int .i64 aN]) (t:=57) ?_;intro km hg w62 cj hb;have ah:=A_ (bz (oB HB) hb);have ai:=A_ (cj);have ay:=A_ ((by rw[hg];exact(bn (oB HB)):w.heap.size≤km));have aG:=A_ ((by rw[hg];exact(bn (oB HB)):w.heap.size≤km));clear HB;have HB:=ah;have aV:=ai;have xc:=ay;have xb:=aG;clear ah ai ay aG;clear hb cj hg;have aog:=cz aV 0;have aoh:=cz aV 1;have aoi:=cz aV 2;have aoj:=cz aV 3;have apX:=aJ aV.out 0;have apY:=aJ aV.out 1;have apZ:=aJ aV.out 2;have ap0:=aJ aV.out 3)|((with_reducible refine bT (f:=59) rfl ?_);refine gL (some 5) Tryz.func59 #[.agg #[.int .i64 a0_0,.int .i64 ax,.int .i64 a0_2,.int .i64 aN]] ?_;(with_reducible refine(impl_ActOk.calls k a0_0 ax a0_2 aN false _ A2.out).mono ?_);rintro e eH ⟨rfl,hb⟩;refine⟨_,rfl,?_⟩;have ah:=A_ (bb aV hb);have ai:=A_ (bz (oB HB) hb);clear aV;clear HB;have aV:=ah;have HB:=ai;clear ah ai;(try clear hb);(try clear hb2);(try clear hk);(try clear hi)))
  go_ret2;exact⟨eR,oB HB⟩
end Go.Proofs.YtnjfiaekdcekgaaGreatDoor.P
namespace Go.Proofs.YtnjfiaekdcekgaaGreatDoor.P
open Go.Shelf Go.RowKit Go.Lib Go.Proofs.YtnjfiaekdcekgaaGreatDoorW.bS
theorem sY (c:UInt8):∀l:List UInt8,Go.Lib.index l [c]=Go.Lib.indexByte l c
  |[]=>rfl
  |b::l=>by
   rw[Go.Lib.index,Go.Lib.indexByte,sY c l]
   have e:[c].isPrefixOf (b::l)=(b==c):=by
     show(c==b&&true)=_;rw[Bool.and_true,Bool.eq_iff_iff,beq_iff_eq,beq_iff_eq];exact eq_comm
   rw[e]
set_option maxHeartbeats 1000000 in
theorem aiv {P:Program} {ρ:Ren} (L:Lays.n146 P ρ) (hi9:(P.info? (ρ.t 9)).map (fun i=>(i.zero,i.size,i.bytes))=some (some (.string ByteArray.empty),1,16)) (s:ByteArray) (b:UInt8) (w:World) (hs:s.size<4294967281):
    Calls P (ρ.f 146) #[.string s,.string ⟨#[b]⟩] w fun e w'=>
      e= .returned (.slice (some ⟨w.heap.size,0,none⟩) (Go.Lib.countB s ⟨#[b]⟩+1) (Go.Lib.countB s ⟨#[b]⟩+1))∧w'=w.alloc (.cells ((Go.Lib.splitB ⟨#[b]⟩ 0 (Go.Lib.countB s ⟨#[b]⟩) s).map Value.string).toArray (ρ.t 9)):=by
  have h1:1≤(⟨#[b]⟩:ByteArray).size:=Nat.le_refl 1;have hle:=Go.Lib.countB_le ⟨#[b]⟩ h1 s.size s (Nat.le_refl _);have hlen:=Go.Lib.splitB_all ⟨#[b]⟩ h1 0 _ s rfl
  have cI:∀(x:ByteArray) (c:Array Value),x.size≤s.size→Calls P (ρ.f 143) #[.string x,.string ⟨#[b]⟩] (w.alloc (.cells c (ρ.t 9))) fun e w'=>e= .returned (.int .i64 (Go.Lib.indexB x ⟨#[b]⟩))∧w'=w.alloc (.cells c (ρ.t 9)):=fun x c _=>
    (Any.strings_Index_one {L with} x b _).mono fun e w' ⟨he,hw⟩=>⟨by rw[he,←sY],hw⟩
  have cC:Calls P (ρ.f 138) #[.string s,.string ⟨#[b]⟩] w fun e w'=>e= .returned (.int .i64 (Go.Lib.countB s ⟨#[b]⟩))∧w'=w:=by
    refine(Any.strings_Count_one {L with} s b w).mono fun e w' ⟨he,hw⟩=>⟨?_,hw⟩;rw[he];show _=Ending.returned (Value.int .i64 ((Go.Lib.count s.data.toList [b]:Nat):Int));rw[Go.Lib.count_one];rfl
  have c:=Any.strings_genSplit_core {L with} hi9 s ⟨#[b]⟩ 0 (-1) (Go.Lib.countB s ⟨#[b]⟩+1) w hs h1 (Nat.zero_le _) cI cC (by decide) (by decide) (by rw[if_pos (by decide)];omega);rw[Nat.add_sub_cancel,hlen]at c;have e2:Go.Lib.cellsOf (Go.Lib.splitB ⟨#[b]⟩ 0 (Go.Lib.countB s ⟨#[b]⟩) s) (Go.Lib.countB s ⟨#[b]⟩+1)=((Go.Lib.splitB ⟨#[b]⟩ 0 (Go.Lib.countB s ⟨#[b]⟩) s).map Value.string).toArray:=by rw[←hlen];exact Go.Lib.cellsOf_full _
  rw[e2]at c;have t3:=L.t3;have t9:=L.t9;have t31:=L.t31;have a3:=L.a3;have a9:=L.a9;have a31:=L.a31;have z3:=L.z3;have v3:=L.v3;have z9:=L.z9;have v9:=L.v9;have z31:=L.z31;have v31:=L.v31;have amJ:∀args w,(callFunc (ρ.f 221) args).run P w= .ok (.enter (ρ.f 221) args) w:=enters_of L.f221 (by kernel_rfl) rfl;go_enter L.f146,Body.n146_ntmps ρ
  go_wp2_with (go_at_fn (ρ.f 221);refine c.mono ?_;rintro e w' ⟨rfl,hw⟩;rw[hw])
  go_ret;exact⟨rfl,rfl⟩
theorem aiy:Lays.n146 Tryz.prog Wh:={Wf with}
theorem aiu (s:ByteArray) (b:UInt8) (w:World) (hs:s.size<4294967281):
    Calls Tryz.prog 39 #[.string s,.string ⟨#[b]⟩] w fun e w'=>∃v0_:Value,e= .returned v0_∧Kd.R Kd.string 9 w' w.heap.size (fun _=>True) v0_ (Go.Lib.splitB ⟨#[b]⟩ 0 (Go.Lib.countB s ⟨#[b]⟩) s)∧Below w.heap.size w w':=by
  refine(aiv aiy Wf.i9 s b w hs).mono ?_;rintro e w' ⟨rfl,rfl⟩;have hlen:=Go.Lib.splitB_all ⟨#[b]⟩ (Nat.le_refl 1) 0 _ s rfl;have hle:=Go.Lib.countB_le ⟨#[b]⟩ (Nat.le_refl 1) s.size s (Nat.le_refl _);refine⟨_,rfl,Kd.Kn ⟨by simp[encs],.inr ⟨w.heap.size,_,_,by rw[hlen],Nat.le_refl _,heap_alloc_new _ _,by omega,?_,?_,?_⟩⟩ (fun _ _=>trivial),dB (Below.refl _ _) _⟩
  · have:maxLen=9223372036854775807:=(by decide);omega
  · simp[hlen]
  · rw[Nat.mul_one,List.take_of_length_le (by simp[hlen])];rfl
end Go.Proofs.YtnjfiaekdcekgaaGreatDoor.P
namespace Go.Proofs.YtnjfiaekdcekgaaGreatDoor.P
open Go.RowKit Go.Proofs.YtnjfiaekdcekgaaGreatDoorW.bS Go.Proofs.YtnjfiaekdcekgaaGreatDoorW.dU Go.Proofs.YtnjfiaekdcekgaaGreatDoorW.dX Go.Proofs.YtnjfiaekdcekgaaGreatDoor.V
attribute [local go_sem] fV fW
attribute [local go_sem] fE fI fH fL fG fK fF fJ
def strings_Split.f (a0:ByteArray) (a1:ByteArray):Option ((List ByteArray)):=if a1.size=1∧a0.size<4294967281 then some (Go.Lib.splitB a1 0 (Go.Lib.countB a0 a1) a0)else none
theorem strings_Split.calls (a0:ByteArray) (a1:ByteArray) (r:List ByteArray) (w:World) (h:strings_Split.f a0 a1=some r):
  Calls Tryz.prog 39 #[.string a0,.string a1] w fun e w'=>∃v0_:Value,e= .returned (v0_)∧Kd.R Kd.string 9 w' w.heap.size (fun _=>True) v0_ r∧Below w.heap.size w w':=by
 unfold strings_Split.f at h;by_cases hc:a1.size=1∧a0.size<4294967281;rotate_left
 ·rw[if_neg hc]at h;cases h
 rw[if_pos hc]at h;obtain rfl:=Option.some.inj h;obtain⟨b,rfl⟩:=Go.Lib.one_byte a1 hc.1;exact aiu a0 b w hc.2
end Go.Proofs.YtnjfiaekdcekgaaGreatDoor.P
namespace Go.Proofs.YtnjfiaekdcekgaaGreatDoor.P
set_option maxHeartbeats 8000000
set_option maxRecDepth 100000
open Go.RowKit Go.Proofs.YtnjfiaekdcekgaaGreatDoorW.bS Go.Proofs.YtnjfiaekdcekgaaGreatDoorW.dU Go.Proofs.YtnjfiaekdcekgaaGreatDoorW.dX
attribute [local go_sem] fE fI fH fL fG fK fF fJ
mutual
def gR.l0:Nat→ByteArray→Int→Option (List ByteArray×Bool)
 |0,_,_=>none
 |k+1,x0,x4=>if x4<(x0.size:Int)then(if 0≤x4 then(if(bt x0 x4)<32 then(some (([]:List ByteArray),false))else(if(bt x0 x4)>126 then(some (([]:List ByteArray),false))else(gR.l0 k x0 (wrap64 (x4+1)))))else(none))else((strings_Split.f x0 (⟨#[32]⟩:ByteArray)).bind fun iq=>(gR.l1 k (([]:List ByteArray)) iq (iq.length:Int) 0))
def gR.l1:Nat→List ByteArray→List ByteArray→Int→Int→Option (List ByteArray×Bool)
 |0,_,_,_,_=>none
 |k+1,x5,Gf,OY,sB=>if sB<OY then(if 0≤sB then(if sB<(Gf.length:Int)then(if(eG ByteArray.empty Gf sB).toList=([]:List UInt8)then(gR.l1 k x5 Gf OY (wrap64 (sB+1)))else(if x5.length<8796093022208 then(gR.l1 k (x5++[eG ByteArray.empty Gf sB]) Gf OY (wrap64 (sB+1)))else(none)))else(none))else(none))else(if(x5.length:Int)>24 then(some (([]:List ByteArray),false))else(some (x5,true)))
end
def gR.f (k:Nat) (a0:ByteArray):Option (List ByteArray×Bool):=if(a0.size:Int)>600 then(some (([]:List ByteArray),false))else(gR.l0 k a0 0)
theorem gR.calls (k:Nat) (a0:ByteArray) (r1:List ByteArray) (r2:Bool) (w:World) (h:gR.f k a0=some (r1,r2)):
  Calls Tryz.prog 40 #[.string a0] w fun e w'=>∃v0_:Value,e= .returned (.tuple #[v0_,.bool r2])∧Kd.R Kd.string 9 w' w.heap.size (fun _=>True) v0_ r1∧Below w.heap.size w w':=by
 have HB:=A_ (Below.refl w.heap.size w);have H:(if(a0.size:Int)>600 then(some (([]:List ByteArray),false))else(gR.l0 k a0 0))=some (r1,r2):=h;clear h;by_cases c2:(a0.size:Int)>600
 ·rw[if_pos c2]at H;have qm:decide (600<(a0.size:Int))=true:=decide_eq_true c2;have vV:decide (600<a0.size)=true:=decide_eq_true (by omega);clear c2;simp only[Option.some.injEq,Prod.mk.injEq]at H;obtain⟨rfl,rfl⟩:=H;go_enter Tryz.func40,Tryz.ntmps40;go_wp2;go_ret2;exact⟨_,eR,by first|exact Kd.bM _ _ _ _ _|exact Kd.p_ _ _ _ _ _|exact Kd.qf _ _ _ _ _|exact Kd.Q_nil _ _ _ _ _|exact Kd.S_nil _ _ _ _ _,oB HB⟩
 ·rw[if_neg c2]at H;have qm:decide (600<(a0.size:Int))=false:=decide_eq_false c2;have vV:decide (600<a0.size)=false:=decide_eq_false (by omega);clear c2;have H':=A_ H;clear H;go_enter Tryz.func40,Tryz.ntmps40;go_wp2
  go_loopg [4] k (fun kq v4 w'=>∃(aC:Int),v4= .int .i64 aC∧aj (gR.l0 kq a0 aC=some (r1,r2))∧aj (kq≤k)∧aj (Below w.heap.size w w'))
  case atStart=>exact⟨(0),eS,H',⟨Nat.le_refl _⟩,⟨oB HB⟩⟩
  case round=>
   clear H'
   try clear c2
   try clear qm
   try clear vV
   try clear p2
   obtain⟨aC,rfl,HA,dh,HB⟩:=hrel;cases gk with
   |zero=>exact absurd HA.out (by simp[gR.l0])
   |succ k1=>
    have H:=HA.out;clear HA;simp only[gR.l0]at H;by_cases c3:aC<(a0.size:Int)
    ·rw[if_pos c3]at H;have c3b0:decide (aC<(a0.size:Int))=true:=decide_eq_true c3;clear c3;by_cases c4:0≤aC
     ·rw[if_pos c4]at H;have kj:decide (0≤aC)=true:=decide_eq_true c4;clear c4;by_cases c6:(bt a0 aC)<32
      ·rw[if_pos c6]at H;have rI:decide ((bt a0 aC)<32)=true:=decide_eq_true c6;clear c6;simp only[Option.some.injEq,Prod.mk.injEq]at H;obtain⟨rfl,rfl⟩:=H;have p5:0≤(aC:Int):=oD;have q5:aC<(a0.size:Int):=oD;have Mv:=Ay a0 aC;replace p5:=eq_true p5;replace q5:=eq_true q5;go_wp2;go_ret2;exact⟨_,eR,by first|exact Kd.bM _ _ _ _ _|exact Kd.p_ _ _ _ _ _|exact Kd.qf _ _ _ _ _|exact Kd.Q_nil _ _ _ _ _|exact Kd.S_nil _ _ _ _ _,oB HB⟩
      ·rw[if_neg c6]at H;have rI:decide ((bt a0 aC)<32)=false:=decide_eq_false c6;clear c6;by_cases c8:(bt a0 aC)>126
       ·rw[if_pos c8]at H;have vW:decide (126<(bt a0 aC))=true:=decide_eq_true c8;clear c8;simp only[Option.some.injEq,Prod.mk.injEq]at H;obtain⟨rfl,rfl⟩:=H;have p5:0≤(aC:Int):=oD;have q5:aC<(a0.size:Int):=oD;have Mv:=Ay a0 aC;replace p5:=eq_true p5;replace q5:=eq_true q5;have p7:0≤(aC:Int):=oD;have q7:aC<(a0.size:Int):=oD;have Uu:=Ay a0 aC;replace p7:=eq_true p7;replace q7:=eq_true q7;go_wp2;go_ret2;exact⟨_,eR,by first|exact Kd.bM _ _ _ _ _|exact Kd.p_ _ _ _ _ _|exact Kd.qf _ _ _ _ _|exact Kd.Q_nil _ _ _ _ _|exact Kd.S_nil _ _ _ _ _,oB HB⟩
       ·rw[if_neg c8]at H;have vW:decide (126<(bt a0 aC))=false:=decide_eq_false c8;clear c8;have H':=A_ H;clear H;have p5:0≤(aC:Int):=oD;have q5:aC<(a0.size:Int):=oD;have Mv:=Ay a0 aC;replace p5:=eq_true p5;replace q5:=eq_true q5;have p7:0≤(aC:Int):=oD;have q7:aC<(a0.size:Int):=oD;have Uu:=Ay a0 aC;replace p7:=eq_true p7;replace q7:=eq_true q7;go_wp2
        go_roundg k1
        case measure=>have:=dh.out;omega
        case rel=>exact⟨(wrap64 (aC+1)),eS,H',⟨by have:=dh.out;omega⟩,⟨oB HB⟩⟩
     ·rw[if_neg c4]at H;exact absurd H (by simp)
    ·rw[if_neg c3]at H;have c3b0:decide (aC<(a0.size:Int))=false:=decide_eq_false c3;clear c3;obtain⟨Xz,Eo⟩:∃y_:List ByteArray,y_=(([]:List ByteArray)):=⟨_,rfl⟩;replace H:((strings_Split.f a0 (⟨#[32]⟩:ByteArray)).bind fun iq=>(gR.l1 k1 Xz iq (iq.length:Int) 0))=some (r1,r2):=by first|(rw[Eo];with_reducible exact H)|(have aI:=(Option.bind_some _ _).symm.trans H;rw[Eo];with_reducible exact aI)|(have aI:=(Option.bind_some _ _).symm.trans H;with_reducible exact aI)|with_reducible exact H|(rw[Eo];exact H)|exact H
     have Ny1666:=A_ Eo;clear Eo;replace H:=Option.bind_eq_some_iff.mp H;obtain⟨iq,pY,H⟩:=H
     (try dsimp only at H)
     have A9:=A_ pY;clear pY;have H':=A_ H;clear H
     go_wp2_with (first|((with_reducible refine gate_dst (N:=27) rfl ?_);refine Kd.iB Kd.string _ 9 ?hg (N:=27) ?hd (xs:=([]:List ByteArray)) (inner:=[]) (ok:=fun _=>True) (cU:=fun _=>True) ?hr ?hp (fun _ hk=>hk) trivial (Below.refl _ _) (Nat.le_refl _) (by simp) ?_;(case hd=>rfl);(case hg=>rfl);(case hr=>first|(go_simp;done)|(go_simp;rfl));(case hp=>exact(bf.none _ _));intro ar6 lJ mI hb cT dx;clear cT dx;(first|rw[←Ny1666.out]at mI|(simp only[Int.reduceToNat]at mI;rw[←Ny1666.out]at mI));have ah:=A_ (Kd.dr mI (bn (oB HB)));have ai:=A_ (bz (oB HB) hb);clear HB;have Cb:=ah;have HB:=ai;clear ah ai;clear hb mI)|((with_reducible refine bT (f:=39) rfl ?_);refine gL (some 29) Tryz.func39 #[.string a0,.string (⟨#[32]⟩:ByteArray)] ?_;(with_reducible refine(strings_Split.calls a0 (⟨#[32]⟩:ByteArray) iq _ A9.out).mono ?_);rintro e w12 ⟨ar7,rfl,ho0,hb⟩;refine⟨_,rfl,?_⟩;have ah:=A_ (Kd.iA (oR Cb) (Kd.fT ho0) hb);have ai:=A_ (Kd.dr (Kd.ki ho0 (Kd.gY (oR Cb))) (bn (oB HB)));have ay:=A_ (bz (oB HB) hb);clear Cb;clear HB;have Cb:=ah;have Qh:=ai;have HB:=ay;clear ah ai ay;(try clear hb);(try clear hb2);(try clear hk);(try clear hi);(try clear ho0);obtain⟨ke,co13,AH⟩:=Kd.dp Qh.out;subst AH))
     go_loopg [5,31] k1 (fun kq v5 v31 w'=>∃(qU:List ByteArray) (jm:Int),v31= .int .i64 jm∧aj (gR.l1 kq qU iq (iq.length:Int) jm=some (r1,r2))∧aj (kq≤k1)∧aj (Kd.R Kd.string 9 w' w.heap.size (fun k_=>some k_≠((.slice ke iq.length co13):Value).ownBlock) v5 qU)∧aj (Kd.R Kd.string 9 w' w.heap.size (fun k_=>some k_≠(v5:Value).ownBlock) (.slice ke iq.length co13) iq)∧aj (Below w.heap.size w w'))
     case atStart=>exact⟨(Xz),(0),eS,H',⟨Nat.le_refl _⟩,⟨by(with_reducible repeat(first|apply Kd.bY|apply Kd.R_drewN|apply Kd.R_drew));exact Kd.bN Cb.out (fun _ hk=>hk.2)⟩,⟨by(with_reducible repeat(first|apply Kd.bY|apply Kd.R_drewN|apply Kd.R_drew));exact Kd.bN Qh.out (fun _ hk=>hk.2)⟩,⟨oB HB⟩⟩
     case round=>
      clear H'
      try clear c2
      try clear qm
      try clear vV
      try clear p2
      try clear c3
      try clear c3b0
      try clear c4
      try clear kj
      try clear p5
      try clear q5
      try clear Mv
      try clear c6
      try clear rI
      try clear p6
      try clear p7
      try clear q7
      try clear Uu
      try clear c8
      try clear vW
      try clear p2
      try clear p5
      try clear p7
      try clear q5
      try clear q7
      obtain⟨qU,jm,rfl,HA,jJ,zV,vG,HB⟩:=hrel;cases gk with
      |zero=>exact absurd HA.out (by simp[gR.l1])
      |succ k2=>
       have H:=HA.out;clear HA;simp only[gR.l1]at H;by_cases c14:jm<(iq.length:Int)
       ·rw[if_pos c14]at H;have RQ:decide (jm<(iq.length:Int))=true:=decide_eq_true c14;clear c14;by_cases c15:0≤jm
        ·rw[if_pos c15]at H;have abG:decide (0≤jm)=true:=decide_eq_true c15;clear c15;by_cases c16:jm<(iq.length:Int)
         ·rw[if_pos c16]at H;have CI:decide (jm<(iq.length:Int))=true:=decide_eq_true c16;clear c16;by_cases c17:(eG ByteArray.empty iq jm).toList=([]:List UInt8)
          ·rw[if_pos c17]at H;have AA:((eG ByteArray.empty iq jm).toList==([]:List UInt8))=true:=beq_iff_eq.mpr c17;have abH:((eG ByteArray.empty iq jm).toList != ([]:List UInt8))=false:=bne_eq_false_iff_eq.mpr c17;clear c17;have H':=A_ H;clear H;have yN:0≤(jm:Int):=oD;have q1672:jm<(iq.length:Int):=oD;obtain⟨Rs,Ln,ae1⟩:=Kd.tW (Kd.ct vG.out).2.2 jm yN q1672;cases Ln;replace yN:=eq_true yN;replace q1672:=eq_true q1672;go_wp2
           go_roundg k2
           case measure=>have:=dh.out;have:=jJ.out;omega
           case rel=>exact⟨(qU),(wrap64 (jm+1)),eS,H',⟨by have:=dh.out;have:=jJ.out;omega⟩,⟨oR zV⟩,⟨oR vG⟩,⟨oB HB⟩⟩
          ·rw[if_neg c17]at H;have AA:((eG ByteArray.empty iq jm).toList==([]:List UInt8))=false:=beq_eq_false_iff_ne.mpr c17;have abH:((eG ByteArray.empty iq jm).toList != ([]:List UInt8))=true:=bne_iff_ne.mpr c17;by_cases c18:qU.length<8796093022208
           ·rw[if_pos c18]at H;have ZH:=A_ c18;clear c18;obtain⟨XA,Ep⟩:∃y_:List ByteArray,y_=(qU++[eG ByteArray.empty iq jm]):=⟨_,rfl⟩;replace H:(gR.l1 k2 XA iq (iq.length:Int) (wrap64 (jm+1)))=some (r1,r2):=by first|(rw[Ep];with_reducible exact H)|(have aI:=(Option.bind_some _ _).symm.trans H;rw[Ep];with_reducible exact aI)|(have aI:=(Option.bind_some _ _).symm.trans H;with_reducible exact aI)|with_reducible exact H|(rw[Ep];exact H)|exact H
            have aak:=A_ Ep;clear Ep;have H':=A_ H;clear H;have yN:0≤(jm:Int):=oD;have q1672:jm<(iq.length:Int):=oD;obtain⟨Rs,Ln,ae1⟩:=Kd.tW (Kd.ct vG.out).2.2 jm yN q1672;cases Ln;replace yN:=eq_true yN;replace q1672:=eq_true q1672
            go_wp2_with (first|((with_reducible refine jz (b:= .append) (xs:= #[.tmp 37,.tmp 39]) rfl ?_);at_builtin;refine Kd.R_append Kd.string (w0:=w) w.heap.size rfl (.tmp 37) (.tmp 39) 38 9 (.string ⟨#[]⟩) 16 rfl Tryz.underlying38 ym rfl (by decide) (by omega) u5 qU (eG ByteArray.empty iq jm) [.string (eG ByteArray.empty iq jm)] (fun k_=>some k_≠(.slice (some Rs) iq.length co13:Value).ownBlock) (fun _=>False) rfl rfl ?aP (fun _ hk=>hk.elim) ?aF ?aO ?aB ?aS ?aL ?_;(case aP=>exact rfl);(case aB=>exact(oB HB));(case aF=>exact(fun k_ hk=>Kd.fresh' (Kd.gY (oR vG)) k_ hk));(case aO=>exact(oR zV));(case aS=>exact(bn (oB HB)));(case aL=>have:=ZH.out;omega);intro ar8 w19 ho hb hg hat;rw[←aak.out]at ho;have ah:=A_ (Kd.Cl (ok:=(fun _=>True)) (by(with_reducible repeat(first|apply Kd.bY|apply Kd.R_drewN|apply Kd.R_drew));exact Kd.bN vG.out (fun _ hk=>⟨trivial,hk⟩)) hg hat);have ai:=A_ (hb);have ay:=A_ (ho);clear vG;clear HB;clear zV;have vG:=ah;have HB:=ai;have Ze:=ay;clear ah ai ay;clear ho hb hg hat))
            go_roundg k2
            case measure=>have:=dh.out;have:=jJ.out;omega
            case rel=>exact⟨(XA),(wrap64 (jm+1)),eS,H',⟨by have:=dh.out;have:=jJ.out;omega⟩,⟨oR Ze⟩,⟨by(with_reducible repeat(first|apply Kd.bY|apply Kd.R_drewN|apply Kd.R_drew));exact Kd.bN vG.out (fun _ hk=>hk.2)⟩,⟨oB HB⟩⟩
           ·rw[if_neg c18]at H;exact absurd H (by simp)
         ·rw[if_neg c16]at H;exact absurd H (by simp)
        ·rw[if_neg c15]at H;exact absurd H (by simp)
       ·rw[if_neg c14]at H;have RQ:decide (jm<(iq.length:Int))=false:=decide_eq_false c14;clear c14;by_cases c20:(qU.length:Int)>24
        ·rw[if_pos c20]at H;have vU:decide (24<(qU.length:Int))=true:=decide_eq_true c20;have CK:decide (24<qU.length)=true:=decide_eq_true (by omega);clear c20;simp only[Option.some.injEq,Prod.mk.injEq]at H;obtain⟨rfl,rfl⟩:=H;obtain⟨PO,co21,LB⟩:=Kd.dp zV.out;subst LB;go_wp2;go_ret2;exact⟨_,eR,by first|exact Kd.bM _ _ _ _ _|exact Kd.p_ _ _ _ _ _|exact Kd.qf _ _ _ _ _|exact Kd.Q_nil _ _ _ _ _|exact Kd.S_nil _ _ _ _ _,oB HB⟩
        ·rw[if_neg c20]at H;have vU:decide (24<(qU.length:Int))=false:=decide_eq_false c20;have CK:decide (24<qU.length)=false:=decide_eq_false (by omega);clear c20;simp only[Option.some.injEq,Prod.mk.injEq]at H;obtain⟨rfl,rfl⟩:=H;obtain⟨ak7,amv,acL⟩:=Kd.dp zV.out;subst acL;go_wp2;go_ret2;exact⟨_,eR,by(with_reducible repeat(first|apply Kd.bY|apply Kd.R_drewN|apply Kd.R_drew));exact Kd.bN zV.out (fun _ hk=>trivial),oB HB⟩
end Go.Proofs.YtnjfiaekdcekgaaGreatDoor.P
namespace Go.Proofs.YtnjfiaekdcekgaaGreatDoor.Q
open Go.RowKit Go.Proofs.YtnjfiaekdcekgaaGreatDoor.P Go.Proofs.YtnjfiaekdcekgaaGreatDoorW.bS
def txt (l:List UInt8):ByteArray:=⟨l.toArray⟩
theorem aj2 (a b:List UInt8):txt a++txt b=txt (a++b):=by
  apply ByteArray.ext;simp[txt]
theorem u7 (a:List UInt8):(txt a).size=a.length:=by simp[txt,ByteArray.size]
theorem wU (a:List UInt8):(txt a).data.toList=a:=by simp[txt]
theorem aj3 {a b:List UInt8} (h:txt a=txt b):a=b:=by have:=congrArg (fun s=>s.data.toList) h;simpa[txt]using this
def num (n:Int):List UInt8:=Go.Lib.itoa n
theorem LK (n:Int) (h1: -9223372036854775808≤n) (h2:n≤9223372036854775807):impl_FormatInt.f n=some (txt (num n)):=by
  unfold impl_FormatInt.f;rw[if_pos ⟨h1,h2⟩];rfl
theorem E6 (n:Int) (h1: -9223372036854775808≤n) (h2:n≤9223372036854775807):(num n).length≤21:=Go.Lib.itoa_length_le n h1 h2
def lI (l:List Int):List UInt8:=l.flatMap fun n=>32::num n
theorem Wz (l:List Int) (h:∀n∈l,-9223372036854775808≤n∧n≤9223372036854775807):(lI l).length≤22*l.length:=by
  induction l with
  |nil=>simp[lI]
  |cons a r ih=>
   have h1:=E6 a (h a (by simp)).1 (h a (by simp)).2;have h2:=ih (fun n hn=>h n (by simp[hn]));simp only[lI,List.flatMap_cons,List.length_append,List.length_cons]at h2 ⊢;omega
def line (l:List Int):List UInt8:=Go.Lib.join (l.map num) [32]
theorem MP (a:Int) (r:List Int):line (a::r)=num a++lI r:=by
  unfold line;rw[List.map_cons,Go.Lib.join_cons]
  congr 1
  induction r with
  |nil=>rfl
  |cons b r ih=>
   simp only[Go.Lib.joinTail,List.map_cons,List.flatten_cons,lI,List.flatMap_cons]at ih ⊢;rw[ih];rfl
theorem MQ (l:List Int) (h:∀n∈l,-9223372036854775808≤n∧n≤9223372036854775807):(line l).length≤22*l.length:=by
  cases l with
  |nil=>simp[line,Go.Lib.join_nil]
  |cons a r=>
   rw[MP];have h1:=E6 a (h a (by simp)).1 (h a (by simp)).2;have h2:=Wz r (fun n hn=>h n (by simp[hn]));simp only[List.length_append,List.length_cons];omega
theorem akr (l:List Int) (h:∀n∈l,-9223372036854775808≤n∧n≤9223372036854775807) (hl:l.length≤1048576):∀(d i:Nat),i+d=l.length→
    Ev (fun k=>dQ.l0 k ((l.take i).map fun n=>txt (num n)) l (l.length:Int) (i:Int)) (txt (line l)):=by
  intro d
  induction d with
  |zero=>
   intro i hi;obtain rfl:i=l.length:=(by omega);refine Ev.step (fun k=>by rw[dQ.l0]) (aT (by omega) ?_);refine bR (a:=txt (line l)) ?_ (evs rfl);unfold strings_Join.f;rw[List.take_length]
   have e:((l.map fun n=>txt (num n)).map fun x=>x.data.toList)=l.map num:=by
     rw[List.map_map];exact List.map_congr_left (fun n _=>wU _)
   rw[e];have h3:=MQ l h;rw[if_pos ⟨by simp;omega,by unfold line at h3;show(Go.Lib.join (l.map num) [32]).length≤_;omega⟩];rfl
  |succ d ih=>
   intro i hi;have hlt:i<l.length:=(by omega);have hm:=h l[i] (List.getElem_mem hlt);refine Ev.step (fun k=>by rw[dQ.l0]) (evp (by omega) (evp (by omega) (evp (by omega) ?_)));rw[Ff l i hlt];refine bR (LK _ hm.1 hm.2) (evp (by simp;omega) ?_);have:=ih (i+1) (by omega);rw[List.take_succ_eq_append_getElem hlt,List.map_append]at this;rw[eH (by omega) (by omega)];exact this
theorem Jn (l:List Int) (h:∀n∈l,-9223372036854775808≤n∧n≤9223372036854775807) (hl:l.length≤1048576):Ev (fun k=>dQ.f k l) (txt (line l)):=by
  unfold dQ.f;exact akr l h hl l.length 0 (by omega)
def scanW:List UInt8→List UInt8→List (List UInt8)
  |cur,[]=>if cur=[]then[]else[cur]
  |cur,b::r=>if b=32 then(if cur=[]then scanW [] r else cur::scanW [] r)else scanW (cur++[b]) r
def lW (c:List UInt8):List (List UInt8)→List (List UInt8)
  |[]=>[]
  |p::r=>(c++p)::r
theorem VC (a b:List UInt8) (X:List (List UInt8)):lW a (lW b X)=lW (a++b) X:=by cases X<;>simp[lW]
theorem I2 (X:List (List UInt8)):lW [] X=X:=by cases X<;>simp[lW]
theorem ait (b:UInt8) (hb:b≠32) (k:Nat) (l:List UInt8):Go.Lib.splitK [32] 0 k (b::l)=lW [b] (Go.Lib.splitK [32] 0 k l):=by
  cases k with
  |zero=>rfl
  |succ k=>
   have h1:=Go.Lib.indexByte_ge l 32
   have e:Go.Lib.index (b::l) [32]=if(Go.Lib.index l [32]== -1)=true then-1 else Go.Lib.index l [32]+1:=by
     rw[sY,sY,Go.Lib.indexByte];have:(b==32)=false:=(by simpa using hb);rw[this];simp
   rw[←sY]at h1;unfold Go.Lib.splitK;rw[e];by_cases h:Go.Lib.index l [32]= -1
   · simp[h,lW]
   · obtain⟨i,hi⟩:∃i:Nat,Go.Lib.index l [32]=i:=⟨(Go.Lib.index l [32]).toNat,by omega⟩;have n1:((i:Int)== -1)=false:=(by rw[beq_eq_false_iff_ne];omega);have n2:((i:Int)+1== -1)=false:=(by rw[beq_eq_false_iff_ne];omega);rw[hi,n1];simp only[Bool.false_eq_true,if_false,n2,lW];have n3:((i:Int)+1).toNat=i+1:=(by omega);rw[n3];simp
theorem ais (k:Nat) (l:List UInt8):Go.Lib.splitK [32] 0 (k+1) (32::l)=[]::Go.Lib.splitK [32] 0 k l:=by
  have e:Go.Lib.index (32::l) [32]=0:=by rw[sY,Go.Lib.indexByte];simp
  rw[Go.Lib.splitK,e];simp
theorem OI:∀(l cur:List UInt8),(lW cur (Go.Lib.splitK [32] 0 (l.count 32) l)).filter (fun p=>decide (p≠[]))=scanW cur l
  |[],cur=>by
   simp only[List.count_nil,Go.Lib.splitK,lW,scanW,List.append_nil];by_cases h:cur=[]<;>simp[h]
  |b::r,cur=>by
   rw[scanW];by_cases hb:b=32
   · subst hb;rw[if_pos rfl,List.count_cons_self,ais];have ih:=OI r [];rw[I2]at ih;by_cases h:cur=[]
     · subst h;rw[if_pos rfl,←ih];simp[lW]
     · rw[if_neg h,←ih];simp[h,lW]
   · rw[if_neg hb,List.count_cons_of_ne hb,ait b hb,VC];exact OI r (cur++[b])
theorem aix (l:List UInt8):(Go.Lib.split l [32]).filter (fun p=>decide (p≠[]))=scanW [] l:=by
  rw[Go.Lib.split,Go.Lib.count_one,←OI l [],I2]
def okB (b:UInt8):Bool:=decide (32≤b.toNat)&&decide (b.toNat≤126)
def mf (s:ByteArray):List ByteArray×Bool:=
  if s.size≤600∧s.data.toList.all okB=true then(if((scanW [] s.data.toList).map txt).length>24 then([],false)else((scanW [] s.data.toList).map txt,true))else([],false)
theorem abE (s:ByteArray) (i:Nat) (h:i<s.data.toList.length):bt s (i:Int)=((s.data.toList[i]).toNat:Int):=by
  have h':(i:Int).toNat<s.size:=by have e:s.data.toList.length=s.size:=Array.length_toList;omega
  have:=Ay s (i:Int) h';rw[←this];rfl
theorem toList_eq (s:ByteArray):s.toList=s.data.toList:=Go.Lib.toList_data s
theorem WK (s:ByteArray):txt s.data.toList=s:=by apply ByteArray.ext;simp[txt]
theorem ac5 (P:List ByteArray) (hP:P.length≤1000):∀(d i:Nat) (acc:List ByteArray),i+d=P.length→acc.length≤i→
    Ev (fun k=>gR.l1 k acc P (P.length:Int) (i:Int)) (if(acc++(P.drop i).filter (fun p=>decide (p.data.toList≠[]))).length>24 then([],false)else(acc++(P.drop i).filter (fun p=>decide (p.data.toList≠[])),true)):=by
  intro d
  induction d with
  |zero=>
   intro i acc h ha;obtain rfl:i=P.length:=(by omega);refine Ev.step (fun k=>by rw[gR.l1]) (aT (by omega) ?_);simp only[List.drop_length,List.filter_nil,List.append_nil];exact um (fun h=>df (by omega) (Ev.now _)) (fun h=>cq (by omega) (Ev.now _))
  |succ d ih=>
   intro i acc h ha;have hi:i<P.length:=(by omega);have e:eG ByteArray.empty P (i:Int)=P[i]:=(by simp[eG,List.getD_eq_getElem?_getD,hi]);refine Ev.step (fun k=>by rw[gR.l1]) (evp (by omega) (evp (by omega) (evp (by omega) ?_)));rw[e,toList_eq,eH (by omega) (by omega),List.drop_eq_getElem_cons hi];by_cases hz:P[i].data.toList=[]
   · refine evp hz ?_;have:=ih (i+1) acc (by omega) (by omega);rw[List.filter_cons_of_neg (by simp[hz])];simpa using this
   · refine aT hz (evp (by omega) ?_);have:=ih (i+1) (acc++[P[i]]) (by omega) (by simp;omega);rw[List.filter_cons_of_pos (by simp[hz])];simpa using this
theorem Vm {b:UInt8} (h1:32≤b.toNat) (h2:b.toNat≤126):okB b=true:=by unfold okB;rw[decide_eq_true h1,decide_eq_true h2];rfl
theorem Vl {b:UInt8} (h:b.toNat<32∨126<b.toNat) {c:Bool}:¬(okB b&&c)=true:=by
  intro h1;unfold okB at h1;rw[Bool.and_eq_true,Bool.and_eq_true]at h1;have a1:=of_decide_eq_true h1.1.1;have a2:=of_decide_eq_true h1.1.2;omega
theorem Sw (s:ByteArray):Ev (fun k=>gR.f k s) (mf s):=by
  unfold gR.f mf;refine um (fun h=>cq (by omega) (Ev.now _)) (fun h=> ?_);have hsz:s.size≤600:=by omega
  have hl:s.data.toList.length=s.size:=Array.length_toList
  have key:∀(d i:Nat),i+d=s.size→Ev (fun k=>gR.l0 k s (i:Int)) (if(s.data.toList.drop i).all okB=true then(if((scanW [] s.data.toList).map txt).length>24 then([],false)else((scanW [] s.data.toList).map txt,true))else([],false)):=by
    intro d
    induction d with
    |zero=>
     intro i h;have hi:i=s.size:=(by omega);refine Ev.step (fun k=>by rw[gR.l0]) (aT (by omega) ?_);rw[List.drop_eq_nil_of_le (by omega)];refine df rfl ?_;have hc:=Go.Lib.countB_le (⟨#[32]⟩:ByteArray) (Nat.le_refl 1) s.size s (Nat.le_refl _);have hn:=Go.Lib.splitB_all (⟨#[32]⟩:ByteArray) (Nat.le_refl 1) 0 _ s rfl;refine bR (a:=Go.Lib.splitB (⟨#[32]⟩:ByteArray) 0 (Go.Lib.countB s ⟨#[32]⟩) s) (by unfold strings_Split.f;rw[if_pos ⟨rfl,by omega⟩]) ?_;have h1:=ac5 (Go.Lib.splitB (⟨#[32]⟩:ByteArray) 0 (Go.Lib.countB s ⟨#[32]⟩) s) (by omega) _ 0 [] (Nat.zero_add _) (Nat.zero_le _)
     have e:(Go.Lib.splitB (⟨#[32]⟩:ByteArray) 0 (Go.Lib.countB s ⟨#[32]⟩) s).filter (fun p=>decide (p.data.toList≠[]))=(scanW [] s.data.toList).map txt:=by
       have e1:(Go.Lib.splitB (⟨#[32]⟩:ByteArray) 0 (Go.Lib.countB s ⟨#[32]⟩) s).map (·.data.toList)=Go.Lib.split s.data.toList [32]:=(by rw[Go.Lib.splitB_data];rfl);rw[←aix,←e1];generalize Go.Lib.splitB (⟨#[32]⟩:ByteArray) 0 (Go.Lib.countB s ⟨#[32]⟩) s=X
       induction X with
       |nil=>rfl
       |cons p r ih=>
        by_cases hz:p.data.toList=[]
        · rw[List.filter_cons_of_neg (by simp[hz]),List.map_cons,List.filter_cons_of_neg (by simp[hz])];exact ih
        · rw[List.filter_cons_of_pos (by simp[hz]),List.map_cons,List.filter_cons_of_pos (by simp[hz]),List.map_cons,WK,ih]
     simp only[List.drop_zero,List.nil_append,e]at h1;exact h1
    |succ d ih=>
     intro i h;have hi:i<s.data.toList.length:=(by omega);refine Ev.step (fun k=>by rw[gR.l0]) (evp (by omega) (evp (by omega) ?_));rw[abE s i hi,eH (by omega) (by omega),List.drop_eq_getElem_cons hi,List.all_cons];refine um (fun hb=>cq (Vl (.inl (by omega))) (Ev.now _)) (fun hb=>um (fun hc=>cq (Vl (.inr (by omega))) (Ev.now _)) (fun hc=> ?_));have e:okB s.data.toList[i]=true:=Vm (by omega) (by omega);rw[e,Bool.true_and];have:=ih (i+1) (by omega);simpa using this
  have:=key s.size 0 (Nat.zero_add _);simp only[List.drop_zero]at this;have e:(s.size≤600∧s.data.toList.all okB=true)=(s.data.toList.all okB=true):=by simp[hsz]
  simp only[e];exact this
end Go.Proofs.YtnjfiaekdcekgaaGreatDoor.Q
namespace Go.Proofs.YtnjfiaekdcekgaaGreatDoor.Q
open Go.RowKit Go.Proofs.YtnjfiaekdcekgaaGreatDoor.P Go.Proofs.YtnjfiaekdcekgaaGreatDoorW.bS Go.Proofs.YtnjfiaekdcekgaaGreatDoorW.dX
theorem afp (a:Int):lz.f a=some (decide (-10≤a∧a≤40)):=by
  unfold lz.f;rw[oZ];rfl
def gZ (n a b c:Int):Bool:=
  if n=1∨n=5∨n=6 then decide (a=0∧b=0∧c=0)
  else if n=2 then decide ((-10≤a∧a≤40)∧b=0∧c=0)
  else if n=3 then decide ((0≤a∧a≤3)∧(0≤b∧b≤39)∧(0≤c∧c≤2))
  else if n=4 then decide ((0≤a∧a≤11)∧(-100000≤b∧b≤100000)∧c=0)
  else if n=7 then decide ((0≤a∧a≤11)∧b=0∧c=0)else false
theorem Rl (n a b c:Int):Ev (fun k=>impl_ActOk.f k n a b c) (gZ n a b c):=by
  have J:∀x:Bool,x=decide (n=1∨n=5∨n=6)→Ev (fun k=>impl_ActOk.j0 k n x n a b c) (gZ n a b c):=by
    intro x hx;refine Ev.step (fun k=>by rw[impl_ActOk.j0]) ?_;unfold gZ;by_cases h:n=1∨n=5∨n=6
    · refine evp (by simp[hx,h]) (evs ?_);rw[if_pos h,Bool.eq_iff_iff];simp
    rw[if_neg h];refine aT (by simp[hx,h]) ?_;by_cases h2:n=2
    · refine evp h2 ?_;rw[if_pos h2];by_cases hz:b=0∧c=0
      · refine evp (by simp[hz]) (bR (afp _) (evs ?_));simp[hz]
      · refine aT (by simpa using hz) (evs ?_);rw[Bool.eq_iff_iff];simp;intros;omega
    refine aT h2 ?_;rw[if_neg h2];by_cases h3:n=3
    · refine evp h3 ?_;rw[if_pos h3];refine bR (oZ _ _ _) ?_;by_cases p1:0≤a∧a≤3;rotate_left
      · exact aT (by simpa using p1) (evs (by simp[p1]))
      refine evp (by simpa using p1) (bR (oZ _ _ _) ?_);by_cases p2:0≤b∧b≤39;rotate_left
      · exact aT (by simpa using p2) (evs (by simp[p2]))
      refine evp (by simpa using p2) (bR (oZ _ _ _) (evs ?_));simp[p1,p2]
    refine aT h3 ?_;rw[if_neg h3];by_cases h4:n=4
    · refine evp h4 ?_;rw[if_pos h4];by_cases p0:c=0;rotate_left
      · exact aT (by simpa using p0) (evs (by simp[p0]))
      refine evp (by simpa using p0) (bR (oZ _ _ _) ?_);by_cases p1:0≤a∧a≤11;rotate_left
      · exact aT (by simpa using p1) (evs (by simp[p1]))
      refine evp (by simpa using p1) (bR (oZ _ _ _) (evs ?_));simp[p0,p1]
    refine aT h4 ?_;rw[if_neg h4];by_cases h7:n=7
    · refine evp h7 ?_;rw[if_pos h7];by_cases hz:b=0∧c=0
      · refine evp (by simp[hz]) (bR (oZ _ _ _) (evs ?_));simp[hz]
      · refine aT (by simpa using hz) (evs ?_);rw[Bool.eq_iff_iff];simp;intros;omega
    refine aT h7 ?_;rw[if_neg h7];exact Ev.now _
  unfold impl_ActOk.f;refine um (fun h=>J _ (by simp[h])) (fun h=>um (fun h5=>J _ (by simp[h5])) (fun h5=>J _ ?_));rw[Bool.eq_iff_iff];simp[h,h5]
theorem Rm {n a b c:Int} (h:gZ n a b c=true):1≤n∧n≤7:=by
  unfold gZ at h;by_cases h1:n=1∨n=5∨n=6
  · omega
  rw[if_neg h1]at h;by_cases h2:n=2
  · omega
  rw[if_neg h2]at h;by_cases h3:n=3
  · omega
  rw[if_neg h3]at h;by_cases h4:n=4
  · omega
  rw[if_neg h4]at h;by_cases h7:n=7
  · omega
  rw[if_neg h7]at h;cases h
theorem ah5 (l:List ByteArray) (hl:l.length≤9000000000000000000):Ev (fun k=>mM.f k l l) true:=by
  have key:∀i,i≤l.length→Ev (fun k=>mM.l0 k l l (i:Int)) true:=by
    refine down (n:=l.length) ?_ ?_
    · exact Ev.step (fun k=>by rw[mM.l0]) (aT (by omega) (evs rfl))
    · intro i hi ih;refine Ev.step (fun k=>by rw[mM.l0]) (evp (by omega) (evp (by omega) (evp (by omega) (evp rfl ?_))));rw[eH (by omega) (by omega)];exact ih
  unfold mM.f;exact evp rfl (key 0 (Nat.zero_le _))
end Go.Proofs.YtnjfiaekdcekgaaGreatDoor.Q
namespace Go.Proofs.YtnjfiaekdcekgaaGreatDoor.Q
open Go.RowKit Go.Proofs.YtnjfiaekdcekgaaGreatDoor.P Go.Proofs.YtnjfiaekdcekgaaGreatDoorW.bS
def in64 (n:Int):Prop:= -9223372036854775808≤n∧n≤9223372036854775807
def nY (n:Int):List UInt8:=
  if n=1 then[116,117,110,101]else if n=2 then[119,97,114,109]else if n=3 then[102,97,117,108,116]else if n=4 then[107,110,111,99,107]
  else if n=5 then[114,101,112,97,105,114]else if n=6 then[108,101,102,116]else[104,101,97,114,100]
def mB (n a b c:Int):List Int:=if n=2∨n=7 then[a]else if n=3 then[a,b,c]else if n=4 then[a,b]else[]
def lN (n a b c:Int):List UInt8:=if gZ n a b c=true then nY n++lI (mB n a b c)else[]
theorem ajS (a:Int) (r:List Int):[32]++line (a::r)=lI (a::r):=by
  rw[MP];simp[lI]
theorem Sx (n a b c:Int) (ha:in64 a) (hb:in64 b) (hc:in64 c):Ev (fun k=>pE.f k n a b c) (txt (lN n a b c),gZ n a b c):=by
  unfold pE.f;refine Ev.bind (Rl n a b c) ?_;by_cases hok:gZ n a b c=true;rotate_left
  · refine aT hok (evs ?_);unfold lN;rw[if_neg hok,Bool.eq_false_iff.mpr hok];rfl
  have hk:=Rm hok
  have W:∀(nm:List UInt8) (x:Int) (r:List Int) (q:Nat),(nm++[32]).length=q→q≤100→(x::r).length≤3→(∀m∈x::r,in64 m)→nm=nY n→x::r=mB n a b c→
      Ev (fun k=>(dQ.f k (x::r)).bind fun t=>(if q+t.size≤9223372036854775807 then(some (txt (nm++[32])++t,true))else(none))) (txt (lN n a b c),gZ n a b c):=by
    intro nm x r q hq hq1 hl hm e1 e2;refine Ev.bind (Jn (x::r) hm (by omega)) (evp ?_ (evs ?_))
    · have:=MQ (x::r) hm;rw[u7];omega
    · rw[aj2,List.append_assoc,ajS,hok];unfold lN;rw[if_pos hok,←e1,←e2]
  have N:∀(nm:List UInt8),nm=nY n→mB n a b c=[]→Ev (fun _=>some (txt nm,true)) (txt (lN n a b c),gZ n a b c):=by
    intro nm e1 e2;refine evs ?_;unfold lN;rw[if_pos hok,hok,e2,e1];simp[lI]
  refine evp hok ?_;rcases(show n=1∨n=2∨n=3∨n=4∨n=5∨n=6∨n=7 by omega)with rfl|rfl|rfl|rfl|rfl|rfl|rfl
  · exact evp rfl (N _ rfl rfl)
  · exact aT (by decide) (evp rfl (W [119,97,114,109] a [] 5 rfl (by decide) (by simp) (by simpa using ha) rfl rfl))
  · exact aT (by decide) (aT (by decide) (evp rfl (W [102,97,117,108,116] a [b,c] 6 rfl (by decide) (by simp) (by simp;exact⟨ha,hb,hc⟩) rfl rfl)))
  · exact aT (by decide) (aT (by decide) (aT (by decide) (evp rfl (W [107,110,111,99,107] a [b] 6 rfl (by decide) (by simp) (by simp;exact⟨ha,hb⟩) rfl rfl))))
  · exact aT (by decide) (aT (by decide) (aT (by decide) (aT (by decide) (evp rfl (N _ rfl rfl)))))
  · exact aT (by decide) (aT (by decide) (aT (by decide) (aT (by decide) (aT (by decide) (evp rfl (N _ rfl rfl))))))
  · exact aT (by decide) (aT (by decide) (aT (by decide) (aT (by decide) (aT (by decide) (aT (by decide) (W [104,101,97,114,100] a [] 6 rfl (by decide) (by simp) (by simpa using ha) rfl rfl))))))
end Go.Proofs.YtnjfiaekdcekgaaGreatDoor.Q
namespace Go.Proofs.YtnjfiaekdcekgaaGreatDoor.P
open Go Go.RowKit Go.ChangeShapes
theorem Wj: "*" ++ "errors.errorString" = "*errors.errorString" :=by decide
theorem VY (u:TypeId) (h:Tryz.prog.typeName? 3 u=some "*errors.errorString"):u=192:=
  typeName_ptr_named (nm:= "errors.errorString") (by rw[Wj];kernel_rfl) (by kernel_rfl) (by decide) u (by rw[Wj];exact h)
theorem ac0 {W:World} {t1 t2:List UInt8} {ra rb:List (String×DataW Unit)} (h1:laidMet Tryz.prog (("strconv.ErrSyntax",.iface "*errors.errorString" (.ptr (.agg [.lit (.string t1)])))::ra) W)
    (h2:laidMet Tryz.prog (("strconv.ErrRange",.iface "*errors.errorString" (.ptr (.agg [.lit (.string t2)])))::rb) W):ErrV W:=by
  have c1:Tryz.prog.cellsOf 194=1:=by kernel_rfl
  have c2:Tryz.prog.cellsOf 9=1:=by kernel_rfl
  obtain⟨a,s,hv,_⟩:=laid_sentinel (ti:=71) h1 zr.m15 (by kernel_rfl) Tryz.underlying71 VY Tryz.underlying192 Tryz.underlying194 rfl rfl Tryz.underlying9 c1 c2;obtain⟨b,u,hw,_⟩:=laid_sentinel (ti:=71) h2 zr.m16 (by kernel_rfl) Tryz.underlying71 VY Tryz.underlying192 Tryz.underlying194 rfl rfl Tryz.underlying9 c1 c2;exact⟨⟨_,_,hv⟩,_,_,hw⟩
end Go.Proofs.YtnjfiaekdcekgaaGreatDoor.P
namespace Go.Proofs.YtnjfiaekdcekgaaGreatDoor.P
set_option maxHeartbeats 8000000
set_option maxRecDepth 100000
set_option synthInstance.maxHeartbeats 400000
set_option synthInstance.maxSize 100000
open Go.RowKit Go.Proofs.YtnjfiaekdcekgaaGreatDoorW.bS Go.Proofs.YtnjfiaekdcekgaaGreatDoorW.dU Go.Proofs.YtnjfiaekdcekgaaGreatDoorW.dX Go.Proofs.YtnjfiaekdcekgaaGreatDoor.V
attribute [local go_sem] fV fW
attribute [local go_sem] fE fI fH fL fG fK fF fJ
def wI.f (k:Nat) (l0:List (S64)):Option (Bool):=some (Q.gA l0)
attribute [local go_sem] cellR_c
theorem wI.calls (k:Nat) (A0:Option Addr) (c0:Nat) (l0:List (S64)) (r:Bool) (w:World) (cd:Kd.C k64 w A0 l0.length l0) (hc0:l0.length≤c0) (h:wI.f k l0=some r):
  Calls Tryz.prog 71 #[.slice A0 l0.length c0] w fun e w'=>e= .returned (.bool r)∧Below w.heap.size w w':=by
 have win:∀(a b c:Int) (d:Bool),decide (b≤a∧a≤c)=d→aj (∀W:World,Calls Tryz.prog 72 #[.int .i64 a,.int .i64 b,.int .i64 c] W fun e w'=>e= .returned (.bool d)∧cV W w'):=fun a b c d hd=>
  ⟨fun W=>im.calls a b c d W (by rw[←hd];unfold im.f;by_cases hh:a≥b<;>simp[hh]<;>omega)⟩
 have hm:l0.length≤9223372036854775807:=Kd.xa cd;have HQ:aj ((Q.kK (Q.jP l0 0) (l0.drop 0)&&decide (l0.length≤30))=r):=⟨Option.some.inj h⟩;have dI:=A_ cd;have px:=A_ win;clear cd h win;have hu:=Tryz.underlying64;go_enter Tryz.func71,Tryz.ntmps71;go_wp2
 go_loopg [3] (l0.length+1) (fun kq v3 w'=>∃(i:Nat),v3= .int .i64 (i:Int)∧aj (i+kq=l0.length+1)∧aj (i≤l0.length)∧aj ((Q.kK (Q.jP l0 i) (l0.drop i)&&decide (l0.length≤30))=r)∧aj (Below w.heap.size w w'))
 case atStart=>exact⟨0,rfl,⟨by omega⟩,⟨by omega⟩,HQ,⟨by repeat(first|exact Below.refl _ _|apply dB|apply pw_below_drewN|apply fC)⟩⟩
 case round=>
  clear HQ;obtain⟨i,rfl,kU,HI2,HQ,HB⟩:=hrel;have jf:From w wr:=⟨HB.out⟩;have js:Sz w wr:=⟨HB.out.size⟩;by_cases hlt:i<l0.length;rotate_left
  ·have hb3:decide ((i:Int)<(l0.length:Int))=false:=decide_eq_false (by omega);have hb4:decide (i<l0.length)=false:=decide_eq_false (by omega);obtain rfl:i=l0.length:=(by have:=HI2.out;omega);have HX:aj (decide (l0.length≤30)=r):=⟨by rw[←HQ.out,List.drop_eq_nil_of_le (Nat.le_refl _)];simp[Q.kK]⟩;have hx1:decide ((l0.length:Int)≤30)=r:=(by rw[←HX.out];exact decide_eq_decide.mpr (by omega));clear HQ dI px;go_wp2;go_ret;exact⟨by first|rfl|(simp[hx1];done),HB.out⟩
  ·have hb3:decide ((i:Int)<(l0.length:Int))=true:=decide_eq_true (by omega);have hb4:decide (i<l0.length)=true:=decide_eq_true hlt;obtain⟨ad,e,hx0,hx1,hx2,hx3⟩:=tV dI.out (i:Int) (by omega) (by omega);cases e;obtain⟨x,hx⟩:∃x,dn l0 (i:Int)=x:=⟨_,rfl⟩;rw[hx]at hx0 hx1 hx2 hx3;simp only[Int.toNat_natCast]at hx0 hx1 hx2 hx3;have j0:fx wr _ _:=⟨hW HB hx0⟩;have j1:fx wr _ _:=⟨hW HB hx1⟩;have j2:fx wr _ _:=⟨hW HB hx2⟩;have j3:fx wr _ _:=⟨hW HB hx3⟩;have e0:l0[i]=x:=(by rw[←hx];simp[dn,List.getD_eq_getElem?_getD,hlt]);have HD:=A_ (Q.U0 l0 i hlt);rw[e0]at HD;obtain⟨b1,hb1⟩:∃b,decide (0≤x.f0.f0∧x.f0.f0≤3)=b:=⟨_,rfl⟩;obtain⟨b2,hb2⟩:∃b,decide (0≤x.f0.f1∧x.f0.f1≤39)=b:=⟨_,rfl⟩;obtain⟨b3,hb3'⟩:∃b,decide (0≤x.f1∧x.f1≤2)=b:=⟨_,rfl⟩;obtain⟨b4,rT⟩:∃b,decide (0≤x.f2∧x.f2≤100000)=b:=⟨_,rfl⟩;have W1:=px.out _ _ _ _ hb1;have W2:=px.out _ _ _ _ hb2;have W3:=px.out _ _ _ _ hb3';have W4:=px.out _ _ _ _ rT;have HE:aj (Q.xU x=(b1&&(b2&&(b3&&b4)))):=⟨by rw[←hb1,←hb2,←hb3',←rT];rfl⟩;have HP:aj (0<i→Q.jP l0 i=(dn l0 ((i-1:Nat):Int)).f2):=⟨fun h0=>by rw[Q.VD l0 i h0 hlt];simp[dn,List.getD_eq_getElem?_getD,show i-1<l0.length by omega]⟩;have HZ:aj (b4=true→i=0→Q.jP l0 i≤x.f2):=⟨fun h4 h0=>by subst h0;rw[h4,decide_eq_true_eq]at rT;exact rT.1⟩;clear hx hx0 hx1 hx2 hx3 e0 px hb1 hb2 hb3' rT;cases b1 with
   |false=>
    obtain rfl:false=r:=(by rw[←HQ.out,HD.out,HE.out];rfl);clear dI HQ HD HE HP HZ
    go_wp2_with (first|((with_reducible refine gate_dst (N:=4) rfl ?_);refine bV #[.int .i64 0,.int .i64 0,.int .i64 0,.int .i64 0] 64 fun g w1 j1 j2 j3=> ?_)|(go_at_call 72;(first|(with_reducible refine(W1.out _).mono ?_)|(with_reducible refine(W2.out _).mono ?_)|(with_reducible refine(W3.out _).mono ?_)|(with_reducible refine(W4.out _).mono ?_));rintro e w' ⟨rfl,⟨nd,rfl⟩⟩))
    repeat(go_quiet (first|(go_at_call 72;(first|(with_reducible refine(W1.out _).mono ?_)|(with_reducible refine(W2.out _).mono ?_)|(with_reducible refine(W3.out _).mono ?_)|(with_reducible refine(W4.out _).mono ?_));rintro e w' ⟨rfl,⟨nd,rfl⟩⟩;exact⟨rfl,_,World.drewN_drewN _ _ _⟩));try go_wp2)
    go_ret;exact⟨rfl,From.out⟩
   |true=>
    cases b2 with
    |false=>
     obtain rfl:false=r:=(by rw[←HQ.out,HD.out,HE.out];rfl);clear dI HQ HD HE HP HZ
     go_wp2_with (first|((with_reducible refine gate_dst (N:=4) rfl ?_);refine bV #[.int .i64 0,.int .i64 0,.int .i64 0,.int .i64 0] 64 fun g w1 j1 j2 j3=> ?_)|(go_at_call 72;(first|(with_reducible refine(W1.out _).mono ?_)|(with_reducible refine(W2.out _).mono ?_)|(with_reducible refine(W3.out _).mono ?_)|(with_reducible refine(W4.out _).mono ?_));rintro e w' ⟨rfl,⟨nd,rfl⟩⟩))
     repeat(go_quiet (first|(go_at_call 72;(first|(with_reducible refine(W1.out _).mono ?_)|(with_reducible refine(W2.out _).mono ?_)|(with_reducible refine(W3.out _).mono ?_)|(with_reducible refine(W4.out _).mono ?_));rintro e w' ⟨rfl,⟨nd,rfl⟩⟩;exact⟨rfl,_,World.drewN_drewN _ _ _⟩));try go_wp2)
     go_ret;exact⟨rfl,From.out⟩
    |true=>
     cases b3 with
     |false=>
      obtain rfl:false=r:=(by rw[←HQ.out,HD.out,HE.out];rfl);clear dI HQ HD HE HP HZ
      go_wp2_with (first|((with_reducible refine gate_dst (N:=4) rfl ?_);refine bV #[.int .i64 0,.int .i64 0,.int .i64 0,.int .i64 0] 64 fun g w1 j1 j2 j3=> ?_)|(go_at_call 72;(first|(with_reducible refine(W1.out _).mono ?_)|(with_reducible refine(W2.out _).mono ?_)|(with_reducible refine(W3.out _).mono ?_)|(with_reducible refine(W4.out _).mono ?_));rintro e w' ⟨rfl,⟨nd,rfl⟩⟩))
      repeat(go_quiet (first|(go_at_call 72;(first|(with_reducible refine(W1.out _).mono ?_)|(with_reducible refine(W2.out _).mono ?_)|(with_reducible refine(W3.out _).mono ?_)|(with_reducible refine(W4.out _).mono ?_));rintro e w' ⟨rfl,⟨nd,rfl⟩⟩;exact⟨rfl,_,World.drewN_drewN _ _ _⟩));try go_wp2)
      go_ret;exact⟨rfl,From.out⟩
     |true=>
      cases b4 with
      |false=>
       obtain rfl:false=r:=(by rw[←HQ.out,HD.out,HE.out];rfl);clear dI HQ HD HE HP HZ
       go_wp2_with (first|((with_reducible refine gate_dst (N:=4) rfl ?_);refine bV #[.int .i64 0,.int .i64 0,.int .i64 0,.int .i64 0] 64 fun g w1 j1 j2 j3=> ?_)|(go_at_call 72;(first|(with_reducible refine(W1.out _).mono ?_)|(with_reducible refine(W2.out _).mono ?_)|(with_reducible refine(W3.out _).mono ?_)|(with_reducible refine(W4.out _).mono ?_));rintro e w' ⟨rfl,⟨nd,rfl⟩⟩))
       repeat(go_quiet (first|(go_at_call 72;(first|(with_reducible refine(W1.out _).mono ?_)|(with_reducible refine(W2.out _).mono ?_)|(with_reducible refine(W3.out _).mono ?_)|(with_reducible refine(W4.out _).mono ?_));rintro e w' ⟨rfl,⟨nd,rfl⟩⟩;exact⟨rfl,_,World.drewN_drewN _ _ _⟩));try go_wp2)
       go_ret;exact⟨rfl,From.out⟩
      |true=>
       have hs:(i:Int)+1≤9223372036854775807:=(by omega);by_cases hz:i=0
       ·have hz1:decide ((i:Int)>0)=false:=decide_eq_false (by omega);have hz2:decide ((0:Int)<(i:Int))=false:=decide_eq_false (by omega);have hz3:decide (0<i)=false:=decide_eq_false (by omega);have HN:aj ((Q.kK (Q.jP l0 (i+1)) (l0.drop (i+1))&&decide (l0.length≤30))=r):=⟨by rw[←HQ.out,HD.out,HE.out,show decide (Q.jP l0 i≤x.f2)=true from decide_eq_true (HZ.out rfl hz)];rfl⟩;clear HQ HD HE HP HZ hz
        go_wp2_with (first|((with_reducible refine gate_dst (N:=4) rfl ?_);refine bV #[.int .i64 0,.int .i64 0,.int .i64 0,.int .i64 0] 64 fun g w1 j1 j2 j3=> ?_)|(go_at_call 72;(first|(with_reducible refine(W1.out _).mono ?_)|(with_reducible refine(W2.out _).mono ?_)|(with_reducible refine(W3.out _).mono ?_)|(with_reducible refine(W4.out _).mono ?_));rintro e w' ⟨rfl,⟨nd,rfl⟩⟩))
        repeat(go_quiet (first|(go_at_call 72;(first|(with_reducible refine(W1.out _).mono ?_)|(with_reducible refine(W2.out _).mono ?_)|(with_reducible refine(W3.out _).mono ?_)|(with_reducible refine(W4.out _).mono ?_));rintro e w' ⟨rfl,⟨nd,rfl⟩⟩;exact⟨rfl,_,World.drewN_drewN _ _ _⟩));try go_wp2)
        go_roundg (l0.length-i)
        case measure=>have:=kU.out;omega
        case rel=>exact⟨i+1,by go_num,⟨by omega⟩,⟨by omega⟩,HN,⟨From.out⟩⟩
       ·obtain⟨j,hj⟩:∃j,j=i-1:=⟨_,rfl⟩;have hz1:decide ((i:Int)>0)=true:=decide_eq_true (by omega);have hz2:decide ((0:Int)<(i:Int))=true:=decide_eq_true (by omega);have hz3:decide (0<i)=true:=decide_eq_true (by omega);have hw1:wrap64 ((i:Int)-1)=(j:Int):=(by unfold wrap64;omega);have hw2:IntKind.i64.wrap ((i:Int)-1)=(j:Int):=(by rw[eJ];exact hw1);have hj1:(j:Int)<(l0.length:Int):=(by omega);have hj2:j<l0.length:=(by omega);have hl1:decide ((j:Int)<(l0.length:Int))=true:=decide_eq_true (by omega);have hl2:decide (j<l0.length)=true:=decide_eq_true (by omega);obtain⟨rv,e2,_,_,_,mK⟩:=tV dI.out (j:Int) (by omega) (by omega);cases e2;obtain⟨y,hy⟩:∃y,dn l0 (j:Int)=y:=⟨_,rfl⟩;have rf:=A_ (HP.out (by omega));rw[←hj,hy]at rf;rw[hy]at mK;simp only[Int.toNat_natCast]at mK;have j4:fx wr _ _:=⟨hW HB mK⟩;clear hy mK HP hj;by_cases h5:y.f2≤x.f2
        ·have LQ:decide (y.f2>x.f2)=false:=decide_eq_false (by omega);have LR:decide (x.f2<y.f2)=false:=decide_eq_false (by omega);have HN:aj ((Q.kK (Q.jP l0 (i+1)) (l0.drop (i+1))&&decide (l0.length≤30))=r):=⟨by rw[←HQ.out,HD.out,HE.out,show decide (Q.jP l0 i≤x.f2)=true from decide_eq_true (by rw[rf.out];exact h5)];rfl⟩;clear HQ HD HE rf HZ dI
         go_wp2_with (first|((with_reducible refine gate_dst (N:=4) rfl ?_);refine bV #[.int .i64 0,.int .i64 0,.int .i64 0,.int .i64 0] 64 fun g w1 j1 j2 j3=> ?_)|(go_at_call 72;(first|(with_reducible refine(W1.out _).mono ?_)|(with_reducible refine(W2.out _).mono ?_)|(with_reducible refine(W3.out _).mono ?_)|(with_reducible refine(W4.out _).mono ?_));rintro e w' ⟨rfl,⟨nd,rfl⟩⟩))
         repeat(go_quiet (first|(go_at_call 72;(first|(with_reducible refine(W1.out _).mono ?_)|(with_reducible refine(W2.out _).mono ?_)|(with_reducible refine(W3.out _).mono ?_)|(with_reducible refine(W4.out _).mono ?_));rintro e w' ⟨rfl,⟨nd,rfl⟩⟩;exact⟨rfl,_,World.drewN_drewN _ _ _⟩));try go_wp2)
         go_roundg (l0.length-i)
         case measure=>have:=kU.out;omega
         case rel=>exact⟨i+1,by go_num,⟨by omega⟩,⟨by omega⟩,HN,⟨From.out⟩⟩
        ·have LQ:decide (y.f2>x.f2)=true:=decide_eq_true (by omega);have LR:decide (x.f2<y.f2)=true:=decide_eq_true (by omega);obtain rfl:false=r:=(by rw[←HQ.out,HD.out,HE.out,show decide (Q.jP l0 i≤x.f2)=false from decide_eq_false (by rw[rf.out];exact h5)];rfl);clear HQ HD HE rf HZ dI
         go_wp2_with (first|((with_reducible refine gate_dst (N:=4) rfl ?_);refine bV #[.int .i64 0,.int .i64 0,.int .i64 0,.int .i64 0] 64 fun g w1 j1 j2 j3=> ?_)|(go_at_call 72;(first|(with_reducible refine(W1.out _).mono ?_)|(with_reducible refine(W2.out _).mono ?_)|(with_reducible refine(W3.out _).mono ?_)|(with_reducible refine(W4.out _).mono ?_));rintro e w' ⟨rfl,⟨nd,rfl⟩⟩))
         repeat(go_quiet (first|(go_at_call 72;(first|(with_reducible refine(W1.out _).mono ?_)|(with_reducible refine(W2.out _).mono ?_)|(with_reducible refine(W3.out _).mono ?_)|(with_reducible refine(W4.out _).mono ?_));rintro e w' ⟨rfl,⟨nd,rfl⟩⟩;exact⟨rfl,_,World.drewN_drewN _ _ _⟩));try go_wp2)
         go_ret;exact⟨rfl,From.out⟩
end Go.Proofs.YtnjfiaekdcekgaaGreatDoor.P
namespace Go.Proofs.YtnjfiaekdcekgaaGreatDoor.P
set_option maxHeartbeats 8000000
set_option maxRecDepth 100000
set_option synthInstance.maxHeartbeats 400000
set_option synthInstance.maxSize 100000
open Go.RowKit Go.Proofs.YtnjfiaekdcekgaaGreatDoorW.bS Go.Proofs.YtnjfiaekdcekgaaGreatDoorW.dU Go.Proofs.YtnjfiaekdcekgaaGreatDoorW.dX Go.Proofs.YtnjfiaekdcekgaaGreatDoor.V
attribute [local go_sem] fV fW cellR_c sT sU uh uq
attribute [local go_sem] fE fI fH fL fG fK fF fJ
def spec_AddEntry.f (k:Nat) (l0:List (S64)) (cZ:Int) (dc:Int) (e6:Int) (e7:Int):Option ((List (S64))×Bool):=(qM.f l0).bind fun Wq=>((some (([(⟨(⟨cZ,dc⟩:fp),e6,e7⟩:S64)]:List (S64)):List (S64))).bind fun XL=>(if Wq.length+XL.length<4398046511104 then((some (Wq++XL:List (S64))).bind fun XM=>((wI.f k l0).bind fun ajd=>(if ajd=true then((wI.f k XM).bind fun aje=>(if aje=true then(some (XM,true))else((qM.f l0).bind fun ajf=>(some (ajf,false)))))else((qM.f l0).bind fun ajg=>(some (ajg,false))))))else(none)))
noncomputable def spec_AddEntry.T1:Bool×List (List Nat×List Nat):=rtab .any (opsOf Tryz.f115 1)
def spec_AddEntry.B1:List Nat:=[0,1,0,4,15,31]
theorem spec_AddEntry.FN:rtab .any (opsOf Tryz.f115 1)=spec_AddEntry.T1:=rfl
theorem spec_AddEntry.Ct:eN spec_AddEntry.T1.2 spec_AddEntry.B1=true:=by kernel_rfl
theorem spec_AddEntry.calls (k:Nat) (A0:Option Addr) (c0:Nat) (l0:List (S64)) (cZ:Int) (dc:Int) (e6:Int) (e7:Int) (r1:List (S64)) (r2:Bool) (w:World) (cd:Kd.C k64 w A0 l0.length l0) (hc0:l0.length≤c0) (h:spec_AddEntry.f k l0 cZ dc e6 e7=some (r1,r2)):
  Calls Tryz.prog 115 #[.slice A0 l0.length c0,.agg #[.int .i64 cZ,.int .i64 dc,.int .i64 e6,.int .i64 e7]] w fun e w'=>∃v0_:Value,e= .returned (.tuple #[v0_,.bool r2])∧Kd.R k64 64 w' w.heap.size (fun _=>True) v0_ r1∧Below w.heap.size w w':=by
 replace cd:=cg.mk cd;replace hc0:=az.mk hc0;unfold spec_AddEntry.f at h;have hu64:=Tryz.underlying64
 (repeat' first|((with_reducible replace h:=cG h);rcases h with ⟨hc,h⟩|⟨hc,h⟩<;>first|exact(none_some h).elim|exact absurd hc (by decide)|subst hc|(replace hc:=br hc;subst hc)|(replace hc:=ey hc;subst hc)|(replace hc:=hH_ hc;subst hc)|(have hd:(_==_)=true:=hc)|(have hd:(_==_)=false:=br hc)|(have hd:=hI_ hc;have he:=cD hc;clear hc)|(have hd:=cE hc;have he:=hL_ hc)|(have hd:=decide_eq_false hc)|(have hd:=decide_eq_true hc;(try(have hn:=Int.natCast_pos.mp hc;have hm:=decide_eq_true hn;replace hn:=eq_true hn));first|(obtain⟨g_,e_,i_⟩:=ew (by assumption) (by first|assumption|decide) hc;cases e_)|(obtain⟨a_,e_,c_⟩:=er (by assumption) (by first|assumption|decide) hc;cases e_))|(have hd:=decide_eq_true hc)|skip)|((with_reducible replace h:=eu h);obtain⟨hl_,h⟩:=h;replace hl_:=A_ hl_;(try dsimp only at h)))
 all_goals go_enter Tryz.func115,Tryz.ntmps115
 all_goals go_wp2_with ((first
  |((with_reducible refine gate_dst (N:=3) rfl ?_);refine bV #[.int .i64 cZ,.int .i64 dc,.int .i64 e6,.int .i64 e7] 64 fun g w1 j1 j2 j3=> ?_)
  |(go_at_call 69;(try rw[hl_.out]);replace h:=bI h;obtain⟨t,A,h⟩:=h;(try dsimp only at h);refine(qM.calls _ _ _ _ _ Rd.out az.out A).mono ?_;rintro e w2 ⟨v0,rfl,ho0,hb⟩;obtain⟨B0,b0,rfl,j0,q0⟩:=aX ho0;have jb:=aK.mk hb;clear A ho0 hb)
  |(go_at_call 71;(try rw[hl_.out]);replace h:=bI h;obtain⟨t,A,h⟩:=h;(try dsimp only at h);refine(wI.calls _ _ _ _ _ _ Rd.out az.out A).mono ?_;rintro e w2 ⟨rfl,hb⟩;have jb:=aK.mk hb;clear A hb)
  |(refine qR (id:=1) (ds:=[]) (l:= #[false,false,false,false,false,false]) spec_AddEntry.FN spec_AddEntry.Ct ?_;intro ag HW_ w3 jw u0 iu hHeld;refine qA 0 (some 7) ag ?_;refine qT 2 (some 9) ag HW_ hHeld ?_;replace h:=bI h;obtain⟨t,A,h⟩:=h;(try dsimp only at h);simp only[Option.bind_some]at h;(repeat' first|((with_reducible replace h:=cG h);rcases h with ⟨hc,h⟩|⟨hc,h⟩<;>first|exact(none_some h).elim|exact absurd hc (by decide)|subst hc|(replace hc:=br hc;subst hc)|(replace hc:=ey hc;subst hc)|(replace hc:=hH_ hc;subst hc)|(have hd:(_==_)=true:=hc)|(have hd:(_==_)=false:=br hc)|(have hd:=hI_ hc;have he:=cD hc;clear hc)|(have hd:=cE hc;have he:=hL_ hc)|(have hd:=decide_eq_false hc)|(have hd:=decide_eq_true hc;(try(have hn:=Int.natCast_pos.mp hc;have hm:=decide_eq_true hn;replace hn:=eq_true hn));first|(obtain⟨g_,e_,i_⟩:=ew (by assumption) (by first|assumption|decide) hc;cases e_)|(obtain⟨a_,e_,c_⟩:=er (by assumption) (by first|assumption|decide) hc;cases e_))|(have hd:=decide_eq_true hc)|skip)|((with_reducible replace h:=eu h);obtain⟨hl_,h⟩:=h;replace hl_:=A_ hl_;(try dsimp only at h)));refine wE 1 3 (some 8) (some 10) ag (fun K hK=> ?_) (fun K hK=> ?_);(focus (refine gH Tryz.func69 (by kernel_rfl) rfl _ (by rfl) rfl rfl (by(try simp only[List.map_toArray,List.map_cons,List.map_nil]);rfl) ?_;refine(qM.calls _ _ _ _ _ Rd.out az.out A).mono ?_;rintro e u1 ⟨v0,rfl,ho0,hb⟩;obtain⟨B0,b0,rfl,j0,q0⟩:=aX ho0;have jb:=aK.mk hb;(try clear ho0 hb);refine⟨_,rfl,hK.out _ _ From.out fun hHeld=> ?_⟩;clear hK K;refine qN ?_;refine qI k64 3 64 10 ([(⟨(⟨cZ,dc⟩:fp),e6,e7⟩:S64)]:List (S64)) [.int .i64 cZ,.int .i64 dc,.int .i64 e6,.int .i64 e7] ag hHeld (bf.c4 (show Kd.M k64 _ _ _ (⟨(⟨cZ,dc⟩:fp),e6,e7⟩:S64) [.int .i64 cZ,.int .i64 dc,.int .i64 e6,.int .i64 e7]from(k64_mkM _ _ _ (⟨(⟨cZ,dc⟩:fp),e6,e7⟩:S64))) (bf.none _ _)) ?_;intro B9 b9 u9 j9 IA hHeld));rotate_left;(focus (refine NI k64 64 10 ([(⟨(⟨cZ,dc⟩:fp),e6,e7⟩:S64)]:List (S64)) [.int .i64 cZ,.int .i64 dc,.int .i64 e6,.int .i64 e7] (bf.c4 (show Kd.M k64 _ _ _ (⟨(⟨cZ,dc⟩:fp),e6,e7⟩:S64) [.int .i64 cZ,.int .i64 dc,.int .i64 e6,.int .i64 e7]from(k64_mkM _ _ _ (⟨(⟨cZ,dc⟩:fp),e6,e7⟩:S64))) (bf.none _ _)) ?_;intro B9 b9 u9 j9 IA;refine hK.out _ _ From.out fun hHeld=> ?_;clear hK K;refine qN ?_;refine qC 1 8 Tryz.func69 ag fun K hK=> ?_;refine(qM.calls _ _ _ _ _ Rd.out az.out A).mono ?_;rintro e u1 ⟨v0,rfl,ho0,hb⟩;obtain⟨B0,b0,rfl,j0,q0⟩:=aX ho0;have jb:=aK.mk hb;(try clear ho0 hb);refine⟨_,rfl,hK _ _ From.out fun hHeld=> ?_⟩;clear hK K;refine qN ?_));all_goals(refine qP k64 t ([(⟨(⟨cZ,dc⟩:fp),e6,e7⟩:S64)]:List (S64)) 4 11 (.tmp 8) (.tmp 10) 28 (.agg #[(.int .i64 0),(.int .i64 0),(.int .i64 0),(.int .i64 0)]) 32 ag hHeld Tryz.underlying28 EU rfl (by decide) (by omega) (fun _ _ h=>h) (by simp at hc ⊢;omega) ?_;intro B8 b8 u8 j8 jb8 hHeld;have q8:=az.mk (pI j8);generalize t++([(⟨(⟨cZ,dc⟩:fp),e6,e7⟩:S64)]:List (S64))=y8 at h j8 q8 ⊢;refine qA 5 (some 6) ag ?_;refine qD ag ?_)));(repeat' first|((with_reducible replace h:=cG h);rcases h with ⟨hc,h⟩|⟨hc,h⟩<;>first|exact(none_some h).elim|exact absurd hc (by decide)|subst hc|(replace hc:=br hc;subst hc)|(replace hc:=ey hc;subst hc)|(replace hc:=hH_ hc;subst hc)|(have hd:(_==_)=true:=hc)|(have hd:(_==_)=false:=br hc)|(have hd:=hI_ hc;have he:=cD hc;clear hc)|(have hd:=cE hc;have he:=hL_ hc)|(have hd:=decide_eq_false hc)|(have hd:=decide_eq_true hc;(try(have hn:=Int.natCast_pos.mp hc;have hm:=decide_eq_true hn;replace hn:=eq_true hn));first|(obtain⟨g_,e_,i_⟩:=ew (by assumption) (by first|assumption|decide) hc;cases e_)|(obtain⟨a_,e_,c_⟩:=er (by assumption) (by first|assumption|decide) hc;cases e_))|(have hd:=decide_eq_true hc)|skip)|((with_reducible replace h:=eu h);obtain⟨hl_,h⟩:=h;replace hl_:=A_ hl_;(try dsimp only at h)));all_goals(try have hn:decide (0<t.length)=true:=decide_eq_true (by omega));all_goals(try have hn:decide (0<t.length)=false:=decide_eq_false (by omega)))
 all_goals simp only[Option.some.injEq,Prod.mk.injEq]at h
 all_goals obtain⟨rfl,rfl⟩:=h
 all_goals go_ret2
 all_goals exact⟨_,rfl,(by first|exact cn|exact Kd.bM _ _ _ _ _|exact eB|exact irowFin' (by simp)),From.out⟩
end Go.Proofs.YtnjfiaekdcekgaaGreatDoor.P
namespace Go.Proofs.YtnjfiaekdcekgaaGreatDoor.P
set_option maxRecDepth 100000
set_option synthInstance.maxHeartbeats 400000
set_option synthInstance.maxSize 100000
open Go.RowKit Go.Proofs.YtnjfiaekdcekgaaGreatDoorW.bS Go.Proofs.YtnjfiaekdcekgaaGreatDoorW.dU Go.Proofs.YtnjfiaekdcekgaaGreatDoorW.dX Go.Proofs.YtnjfiaekdcekgaaGreatDoor.V
attribute [local go_sem] fV fW
attribute [local go_sem] fE fI fH fL fG fK fF fJ
def cm.f (k:Nat) (ak:List (ar)) (ax:Int) (aq:List Int) (aN:Int) (a0_4:Int) (aD:List (S64)):Option (Bool):=(fe.f k ak ax aq).bind fun b=>some (b&&(Q.gA aD&&(decide (-10≤aN∧aN≤40)&&(decide (0≤a0_4∧a0_4≤100000)&&decide (Q.qE aD a0_4)))))
def cm.T2:Bool×List (List Nat×List Nat):=(true,[([],[]),([0],[0]),([1],[1]),([2,2],[2]),([3],[3]),([4,3],[3,4]),([5,3,3],[3,5]),([3,6],[3,6]),([7,6],[7]),([8],[8]),([9,8],[8,9]),([10,8,8],[8,10]),([8,11],[8,11]),([12,11],[12]),([13],[13]),([14,13],[13,14]),([15,13,13],[13,15]),([13,16],[13,16]),([17,16],[17]),([18],[18]),([19,18],[18,19]),([20,18,18],[18,20]),([21],[21]),([22,21],[21,22]),([21],[21]),([24,21],[21,24]),([23,25,21],[21,23,25]),([26,21],[21,26]),([27,21],[21,27]),([21],[21]),([29,21],[21,29]),([28,30,21],[21,28,30]),([21,31,18],[18,21,31]),([18,32],[18,32]),([33,21,0,1,2,3,4,5,6,7,8,9,10,11,12,13,14,15,16,17,18,19,20,21,22,23,24,25,26,27,28,29,30,31,32,33],[33])])
def cm.B2:List Nat:=[0,1,3,7,15,31,63,127,255,511,1023,2047,4095,8191,16383,32767,65535,131071,262143,524287,1048575,2097151,4194303,8388607,4194303,20971519,67108863,134217727,268435455,4194303,541065215,2147483647,4294967295,8589934591,17179869183]
theorem cm.Ol:rtab .any (opsOf Tryz.f31 2)=cm.T2:=by kernel_rfl
theorem cm.KE:eN cm.T2.2 cm.B2=true:=by kernel_rfl
def cm.m (n:Nat):Array Bool:=((List.range 35).map (fun j=>decide (j<n))).toArray
attribute [local go_sem] cellR_c
set_option maxHeartbeats 4000000 in
theorem cm.calls (k:Nat) (aU:Option Addr) (c0_0:Nat) (ak:List (ar)) (ax:Int) (a6:Option Addr) (aW:Nat) (aq:List Int) (aN:Int) (a0_4:Int) (cy:Option Addr) (cu:Nat) (aD:List (S64)) (r:Bool) (w:World) (cp:Kd.C bl w aU ak.length ak) (cx:ak.length≤c0_0) (cv:Kd.C (Kd.int .i64) w a6 aq.length aq) (cA:aq.length≤aW) (dW:Kd.C k64 w cy aD.length aD) (eC:aD.length≤cu) (h:cm.f k ak ax aq aN a0_4 aD=some r):
  Calls Tryz.prog 31 #[.agg #[.slice aU ak.length c0_0,.int .i64 ax,.slice a6 aq.length aW,.int .i64 aN,.int .i64 a0_4,.slice cy aD.length cu]] w fun e w'=>e= .returned (.bool r)∧Below w.heap.size w w':=by
 obtain⟨b1,hb1,h⟩:=Option.bind_eq_some_iff.mp h;obtain⟨b2,hb2⟩:∃b,Q.gA aD=b:=⟨_,rfl⟩;obtain⟨b3,hb3⟩:∃b,decide (-10≤aN∧aN≤40)=b:=⟨_,rfl⟩;obtain⟨b4,hb4⟩:∃b,decide (0≤a0_4∧a0_4≤100000)=b:=⟨_,rfl⟩;obtain⟨b5,pD⟩:∃b,decide (Q.qE aD a0_4)=b:=⟨_,rfl⟩;have HQ:aj ((b1&&(b2&&(b3&&(b4&&b5))))=r):=⟨by rw[←hb2,←hb3,←hb4,←pD];exact Option.some.inj h⟩;have A1:aj (fe.f k ak ax aq=some b1):=⟨hb1⟩;have A2:aj (wI.f k aD=some b2):=⟨by rw[←hb2];rfl⟩;have A3:aj (im.f aN (-10) 40=some b3):=⟨by rw[←hb3];unfold im.f;by_cases hh:aN≥ -10<;>simp[hh]<;>omega⟩;have A4:aj (im.f a0_4 0 100000=some b4):=⟨by rw[←hb4];unfold im.f;by_cases hh:a0_4≥0<;>simp[hh]<;>omega⟩;have H5:=A_ pD;have HR:=A_ dW;have HM:=A_ (Kd.xa dW);have i0:=cg.mk cp;have i1:=az.mk cx;have i2:=cg.mk cv;have i3:=az.mk cA;have i4:=cg.mk dW;have i5:=az.mk eC;have hu:=Tryz.underlying30;clear cp cx cv cA dW eC h hb1 hb2 hb3 hb4 pD
 have hzz:aD.length=0∨∃(rv:Addr) (j:Nat) (y:S64),cy=some rv∧((aD.length:Int)==0)=false∧((aD.length:Int) != 0)=true∧wrap64 ((aD.length:Int)-1)=(j:Int)∧IntKind.i64.wrap ((aD.length:Int)-1)=(j:Int)∧(j:Int)<(aD.length:Int)∧j<aD.length∧fx w ⟨(rv.add (j*4)).block,(rv.add (j*4)).off+3,none⟩ (.int .i64 y.f2)∧decide (y.f2≤a0_4)=b5:=by
  by_cases hz:aD.length=0
  ·exact .inl hz
  right;obtain⟨j,hj⟩:∃j,j+1=aD.length:=⟨aD.length-1,by omega⟩;have hM:=HM.out;obtain⟨rv,e2,_,_,_,mK⟩:=tV HR.out (j:Int) (by omega) (by omega);have hw1:wrap64 ((aD.length:Int)-1)=(j:Int):=by unfold wrap64;omega
  simp only[Int.toNat_natCast]at mK;refine⟨rv,j,dn aD (j:Int),e2,beq_eq_false_iff_ne.mpr (by omega),bne_iff_ne.mpr (by omega),hw1,by rw[eJ];exact hw1,by omega,by omega,⟨mK⟩,?_⟩;rw[←H5.out];refine decide_eq_decide.mpr ?_;unfold Q.qE;rw[show aD.length-1=j by omega];simp[dn,hz]
 have aeX:(b1=false∧r=false)∨(b1=true∧b2=false∧r=false)∨(b1=true∧b2=true∧b3=false∧r=false)∨(b1=true∧b2=true∧b3=true∧b4=false∧r=false)∨(b1=true∧b2=true∧b3=true∧b4=true∧b5=r):=by
  have:=HQ.out;cases b1<;>cases b2<;>cases b3<;>cases b4<;>simp_all
 replace hzz:=hzz.imp (fun hz=>(⟨by rw[←H5.out];exact(decide_eq_true (.inl hz)).symm,beq_iff_eq.mpr (by omega),bne_eq_false_iff_eq.mpr (by omega)⟩:true=b5∧((aD.length:Int)==0)=true∧((aD.length:Int) != 0)=false)) id;clear HQ H5 HR HM;rcases aeX with ⟨rfl,rfl⟩|⟨rfl,rfl,rfl⟩|⟨rfl,rfl,rfl,rfl⟩|⟨rfl,rfl,rfl,rfl,rfl⟩|⟨rfl,rfl,rfl,rfl,rfl⟩
 rotate_right
 rcases hzz with ⟨rfl,z1,z2⟩|⟨rv,j,y,rfl,z1,z2,z3,z4,z5,z6,z7,z8⟩
 all_goals try clear hzz
 all_goals go_enter Tryz.func31,Tryz.ntmps31
 all_goals go_wp2_with (first|((with_reducible refine gate_dst (N:=1) rfl ?_);(try(refine mg (by rfl) ?_;dsimp only));(first|refine vO rfl (N:=1) rfl (cs:= #[.slice aU ak.length c0_0,.int .i64 ax,.slice a6 aq.length aW,.int .i64 aN,.int .i64 a0_4,.slice cy aD.length cu]) (t:=30) (by first|(go_simp;done)|(go_simp;rfl)) ?_|refine vO rfl (N:=1) rfl (cs:= #[.slice aU ak.length c0_0,.int .i64 ax,.slice a6 aq.length aW,.int .i64 aN,.int .i64 a0_4,.slice (some rv) aD.length cu]) (t:=30) (by first|(go_simp;done)|(go_simp;rfl)) ?_);intro g hg w1 hk hb;have j1:=ma.mk hg;have j2:=aK.mk hb;have j3:=a7.mk hk;clear hg hb hk))
 all_goals(refine pJ (n:=35) (S:=fun w'=>Below w1.heap.size w1 w') (ds:=[]) (cm.m 0) (by kernel_rfl) rfl (by kernel_rfl) From.out (fun hHeld=> ?_);refine su cm.Ol cm.KE (fun ag HW_=> ?_))
 all_goals first|(refine pA 0 (some 7) ag.out ?_ (l':=(cm.m 1)) (hl:=by rfl))|(refine pU 0 (some 7) ag.out ?_ (l':=(cm.m 1)) (hl:=by rfl))
 all_goals first|(refine pT 1 (some 8) ag.out HW_.out hHeld ?_ (l':=(cm.m 2)) (hl:=by rfl) (hy:=by intro w' hS;have jS:Sin w1 w':=⟨hS⟩;go_simp;with_reducible rfl))|(refine pU 1 (some 8) ag.out ?_ (l':=(cm.m 2)) (hl:=by rfl))
 all_goals first|(refine one_ (i:=2) (N:=some 9) (cm.m 3) rfl rfl (ji ag.out (by kernel_rfl)) (by decide) (fun K hK=> ?_);refine gH Tryz.func70 (by kernel_rfl) rfl #[.agg #[.slice aU ak.length c0_0,.int .i64 ax,.slice a6 aq.length aW]] (by rfl) rfl rfl (by(try simp only[List.map_toArray,List.map_cons,List.map_nil]);first|done|rfl) ?_;refine(fe.calls k _ _ _ _ _ _ _ _ _ Rd.out az.out Rd.out az.out A1.out).mono ?_;rintro e w2 ⟨rfl,hb⟩;have jb:=aK.mk hb;clear hb;refine⟨_,rfl,?_⟩;refine hK.out _ _ From.out (fun hHeld=> ?_);clear hK K;refine kM (a':= ?_) ?_ ?_;rotate_left;(focus (show Act.put _ (some 9) _=_;simp only[Act.put,List.setIfInBounds_toArray,List.set_cons_zero,List.set_cons_succ,eJ,gj];rfl)))|(refine pU 2 (some 9) ag.out ?_ (l':=(cm.m 3)) (hl:=by rfl))
 all_goals first|(refine pA 3 (some 10) ag.out ?_ (l':=(cm.m 4)) (hl:=by rfl))|(refine pU 3 (some 10) ag.out ?_ (l':=(cm.m 4)) (hl:=by rfl))
 all_goals first|(refine pA 4 (some 11) ag.out ?_ (l':=(cm.m 5)) (hl:=by rfl))|(refine pU 4 (some 11) ag.out ?_ (l':=(cm.m 5)) (hl:=by rfl))
 all_goals first|(refine pT 5 (some 12) ag.out HW_.out hHeld ?_ (l':=(cm.m 6)) (hl:=by rfl) (hy:=by intro w' hS;have jS:Sin w1 w':=⟨hS⟩;go_simp;with_reducible rfl))|(refine pU 5 (some 12) ag.out ?_ (l':=(cm.m 6)) (hl:=by rfl))
 all_goals first|(refine one_ (i:=6) (N:=some 13) (cm.m 7) rfl rfl (ji ag.out (by kernel_rfl)) (by decide) (fun K hK=> ?_);refine gH Tryz.func71 (by kernel_rfl) rfl #[.slice _ aD.length cu] (by rfl) rfl rfl (by(try simp only[List.map_toArray,List.map_cons,List.map_nil]);first|done|rfl) ?_;refine(wI.calls k _ _ _ _ _ Rd.out az.out A2.out).mono ?_;rintro e w2 ⟨rfl,hb⟩;have jb:=aK.mk hb;clear hb;refine⟨_,rfl,?_⟩;refine hK.out _ _ From.out (fun hHeld=> ?_);clear hK K;refine kM (a':= ?_) ?_ ?_;rotate_left;(focus (show Act.put _ (some 13) _=_;simp only[Act.put,List.setIfInBounds_toArray,List.set_cons_zero,List.set_cons_succ,eJ,gj];rfl)))|(refine pU 6 (some 13) ag.out ?_ (l':=(cm.m 7)) (hl:=by rfl))
 all_goals first|(refine pA 7 (some 14) ag.out ?_ (l':=(cm.m 8)) (hl:=by rfl))|(refine pU 7 (some 14) ag.out ?_ (l':=(cm.m 8)) (hl:=by rfl))
 all_goals first|(refine pA 8 (some 15) ag.out ?_ (l':=(cm.m 9)) (hl:=by rfl))|(refine pU 8 (some 15) ag.out ?_ (l':=(cm.m 9)) (hl:=by rfl))
 all_goals first|(refine pA 9 (some 16) ag.out ?_ (l':=(cm.m 10)) (hl:=by rfl))|(refine pU 9 (some 16) ag.out ?_ (l':=(cm.m 10)) (hl:=by rfl))
 all_goals first|(refine pT 10 (some 17) ag.out HW_.out hHeld ?_ (l':=(cm.m 11)) (hl:=by rfl) (hy:=by intro w' hS;have jS:Sin w1 w':=⟨hS⟩;go_simp;with_reducible rfl))|(refine pU 10 (some 17) ag.out ?_ (l':=(cm.m 11)) (hl:=by rfl))
 all_goals first|(refine one_ (i:=11) (N:=some 18) (cm.m 12) rfl rfl (ji ag.out (by kernel_rfl)) (by decide) (fun K hK=> ?_);refine gH Tryz.func72 (by kernel_rfl) rfl #[.int .i64 aN,.int .i64 (-10),.int .i64 40] (by rfl) rfl rfl (by(try simp only[List.map_toArray,List.map_cons,List.map_nil]);first|done|rfl) ?_;refine(im.calls _ _ _ _ _ A3.out).mono ?_;rintro e w2 ⟨rfl,n,rfl⟩;refine⟨_,rfl,?_⟩;refine hK.out _ _ From.out (fun hHeld=> ?_);clear hK K;refine kM (a':= ?_) ?_ ?_;rotate_left;(focus (show Act.put _ (some 18) _=_;simp only[Act.put,List.setIfInBounds_toArray,List.set_cons_zero,List.set_cons_succ,eJ,gj];rfl)))|(refine pU 11 (some 18) ag.out ?_ (l':=(cm.m 12)) (hl:=by rfl))
 all_goals first|(refine pA 12 (some 19) ag.out ?_ (l':=(cm.m 13)) (hl:=by rfl))|(refine pU 12 (some 19) ag.out ?_ (l':=(cm.m 13)) (hl:=by rfl))
 all_goals first|(refine pA 13 (some 20) ag.out ?_ (l':=(cm.m 14)) (hl:=by rfl))|(refine pU 13 (some 20) ag.out ?_ (l':=(cm.m 14)) (hl:=by rfl))
 all_goals first|(refine pA 14 (some 21) ag.out ?_ (l':=(cm.m 15)) (hl:=by rfl))|(refine pU 14 (some 21) ag.out ?_ (l':=(cm.m 15)) (hl:=by rfl))
 all_goals first|(refine pT 15 (some 22) ag.out HW_.out hHeld ?_ (l':=(cm.m 16)) (hl:=by rfl) (hy:=by intro w' hS;have jS:Sin w1 w':=⟨hS⟩;go_simp;with_reducible rfl))|(refine pU 15 (some 22) ag.out ?_ (l':=(cm.m 16)) (hl:=by rfl))
 all_goals first|(refine one_ (i:=16) (N:=some 23) (cm.m 17) rfl rfl (ji ag.out (by kernel_rfl)) (by decide) (fun K hK=> ?_);refine gH Tryz.func72 (by kernel_rfl) rfl #[.int .i64 a0_4,.int .i64 0,.int .i64 100000] (by rfl) rfl rfl (by(try simp only[List.map_toArray,List.map_cons,List.map_nil]);first|done|rfl) ?_;refine(im.calls _ _ _ _ _ A4.out).mono ?_;rintro e w2 ⟨rfl,n,rfl⟩;refine⟨_,rfl,?_⟩;refine hK.out _ _ From.out (fun hHeld=> ?_);clear hK K;refine kM (a':= ?_) ?_ ?_;rotate_left;(focus (show Act.put _ (some 23) _=_;simp only[Act.put,List.setIfInBounds_toArray,List.set_cons_zero,List.set_cons_succ,eJ,gj];rfl)))|(refine pU 16 (some 23) ag.out ?_ (l':=(cm.m 17)) (hl:=by rfl))
 all_goals first|(refine pA 17 (some 24) ag.out ?_ (l':=(cm.m 18)) (hl:=by rfl))|(refine pU 17 (some 24) ag.out ?_ (l':=(cm.m 18)) (hl:=by rfl))
 all_goals first|(refine pA 18 (some 25) ag.out ?_ (l':=(cm.m 19)) (hl:=by rfl))|(refine pU 18 (some 25) ag.out ?_ (l':=(cm.m 19)) (hl:=by rfl))
 all_goals first|(refine pA 19 (some 26) ag.out ?_ (l':=(cm.m 20)) (hl:=by rfl))|(refine pU 19 (some 26) ag.out ?_ (l':=(cm.m 20)) (hl:=by rfl))
 all_goals first|(refine pA 20 (some 27) ag.out ?_ (l':=(cm.m 21)) (hl:=by rfl))|(refine pU 20 (some 27) ag.out ?_ (l':=(cm.m 21)) (hl:=by rfl))
 all_goals first|(refine pA 21 (some 28) ag.out ?_ (l':=(cm.m 22)) (hl:=by rfl))|(refine pU 21 (some 28) ag.out ?_ (l':=(cm.m 22)) (hl:=by rfl))
 all_goals first|(refine pA 22 (some 29) ag.out ?_ (l':=(cm.m 23)) (hl:=by rfl))|(refine pU 22 (some 29) ag.out ?_ (l':=(cm.m 23)) (hl:=by rfl))
 all_goals first|(refine pT 23 (some 30) ag.out HW_.out hHeld ?_ (l':=(cm.m 24)) (hl:=by rfl) (hy:=by intro w' hS;have jS:Sin w1 w':=⟨hS⟩;go_simp;with_reducible rfl))|(refine pU 23 (some 30) ag.out ?_ (l':=(cm.m 24)) (hl:=by rfl))
 all_goals first|(refine pA 24 (some 31) ag.out ?_ (l':=(cm.m 25)) (hl:=by rfl))|(refine pU 24 (some 31) ag.out ?_ (l':=(cm.m 25)) (hl:=by rfl))
 all_goals first|(refine pA 25 (some 32) ag.out ?_ (l':=(cm.m 26)) (hl:=by rfl))|(refine pU 25 (some 32) ag.out ?_ (l':=(cm.m 26)) (hl:=by rfl))
 all_goals first|(refine pA 26 (some 33) ag.out ?_ (l':=(cm.m 27)) (hl:=by rfl))|(refine pU 26 (some 33) ag.out ?_ (l':=(cm.m 27)) (hl:=by rfl))
 all_goals first|(refine pA 27 (some 34) ag.out ?_ (l':=(cm.m 28)) (hl:=by rfl))|(refine pU 27 (some 34) ag.out ?_ (l':=(cm.m 28)) (hl:=by rfl))
 all_goals first|(refine pT 28 (some 35) ag.out HW_.out hHeld ?_ (l':=(cm.m 29)) (hl:=by rfl) (hy:=by intro w' hS;have jS:Sin w1 w':=⟨hS⟩;go_simp;with_reducible rfl))|(refine pU 28 (some 35) ag.out ?_ (l':=(cm.m 29)) (hl:=by rfl))
 all_goals first|(refine pA 29 (some 36) ag.out ?_ (l':=(cm.m 30)) (hl:=by rfl))|(refine pU 29 (some 36) ag.out ?_ (l':=(cm.m 30)) (hl:=by rfl))
 all_goals first|(refine pT 30 (some 37) ag.out HW_.out hHeld ?_ (l':=(cm.m 31)) (hl:=by rfl) (hy:=by intro w' hS;have jS:Sin w1 w':=⟨hS⟩;go_simp;with_reducible rfl))|(refine pU 30 (some 37) ag.out ?_ (l':=(cm.m 31)) (hl:=by rfl))
 all_goals first|(refine pA 31 (some 38) ag.out ?_ (l':=(cm.m 32)) (hl:=by rfl))|(refine pU 31 (some 38) ag.out ?_ (l':=(cm.m 32)) (hl:=by rfl))
 all_goals first|(refine pA 32 (some 39) ag.out ?_ (l':=(cm.m 33)) (hl:=by rfl))|(refine pU 32 (some 39) ag.out ?_ (l':=(cm.m 33)) (hl:=by rfl))
 all_goals first|(refine pA 33 (some 40) ag.out ?_ (l':=(cm.m 34)) (hl:=by rfl))|(refine pU 33 (some 40) ag.out ?_ (l':=(cm.m 34)) (hl:=by rfl))
 all_goals first|(refine pA 34 (some 2) ag.out ?_ (l':=(cm.m 35)) (hl:=by rfl))|(refine pU 34 (some 2) ag.out ?_ (l':=(cm.m 35)) (hl:=by rfl))
 all_goals refine done_ (done_of ag.out (by kernel_rfl)) ?_
 all_goals try go_wp2
 all_goals go_ret
 all_goals exact⟨by first|rfl|(simp[*];done),From.out⟩
end Go.Proofs.YtnjfiaekdcekgaaGreatDoor.P
namespace Go.Proofs.YtnjfiaekdcekgaaGreatDoor.P
set_option maxHeartbeats 8000000
set_option maxRecDepth 100000
set_option synthInstance.maxHeartbeats 400000
set_option synthInstance.maxSize 100000
open Go.RowKit Go.Proofs.YtnjfiaekdcekgaaGreatDoorW.bS Go.Proofs.YtnjfiaekdcekgaaGreatDoorW.dU Go.Proofs.YtnjfiaekdcekgaaGreatDoorW.dX Go.Proofs.YtnjfiaekdcekgaaGreatDoor.V
attribute [local go_sem] fV fW
attribute [local go_sem] fE fI fH fL fG fK fF fJ
def wL.f (k:Nat) (ak:List (ar)) (ax:Int) (aq:List Int) (aN:Int) (a0_4:Int) (aD:List (S64)):Option ((List (ar))×Int×List Int×Int×Int×(List (S64))×Bool):=(nI.f ak ax aq aN a0_4 aD).bind fun qi=>((cm.f k ak ax aq aN a0_4 aD).bind fun ai'=>(if ai'=true then((il.f k ak ax aq).bind fun aja=>(if(aja.length:Int)>0 then((jQ.f k ak ax aq).bind fun G_=>(some (G_.1,G_.2.1,G_.2.2.1,qi.2.2.2.1,qi.2.2.2.2.1,qi.2.2.2.2.2,G_.2.2.2)))else((jF.f k ak ax aq).bind fun Ha=>(some (Ha.1,Ha.2.1,Ha.2.2.1,qi.2.2.2.1,qi.2.2.2.2.1,qi.2.2.2.2.2,Ha.2.2.2)))))else(some (qi.1,qi.2.1,qi.2.2.1,qi.2.2.2.1,qi.2.2.2.2.1,qi.2.2.2.2.2,false))))
theorem wL.calls (k:Nat) (aU:Option Addr) (c0_0:Nat) (ak:List (ar)) (ax:Int) (a6:Option Addr) (aW:Nat) (aq:List Int) (aN:Int) (a0_4:Int) (cy:Option Addr) (cu:Nat) (aD:List (S64)) (r1:List (ar)) (r2:Int) (r3:List Int) (r4:Int) (r5:Int) (r6:List (S64)) (r7:Bool) (w:World) (cp:Kd.C bl w aU ak.length ak) (cx:ak.length≤c0_0) (cv:Kd.C (Kd.int .i64) w a6 aq.length aq) (cA:aq.length≤aW) (dW:Kd.C k64 w cy aD.length aD) (eC:aD.length≤cu) (h:wL.f k ak ax aq aN a0_4 aD=some (r1,r2,r3,r4,r5,r6,r7)):
  Calls Tryz.prog 74 #[.agg #[.slice aU ak.length c0_0,.int .i64 ax,.slice a6 aq.length aW,.int .i64 aN,.int .i64 a0_4,.slice cy aD.length cu]] w fun e w'=>∃v0_ cB dL:Value,e= .returned (.tuple #[.agg #[v0_,.int .i64 r2,cB,.int .i64 r4,.int .i64 r5,dL],.bool r7])∧Kd.R bl 110 w' w.heap.size (fun _=>True) v0_ r1∧Kd.R (Kd.int .i64) 3 w' w.heap.size (fun _=>True) cB r3∧Kd.R k64 64 w' w.heap.size (fun _=>True) dL r6∧Below w.heap.size w w':=by
 replace cp:=cg.mk cp;replace cx:=az.mk cx;replace cv:=cg.mk cv;replace cA:=az.mk cA;replace dW:=cg.mk dW;replace eC:=az.mk eC;unfold wL.f at h;have kp:=Tryz.underlying30
 (repeat' first|((with_reducible replace h:=cG h);rcases h with ⟨hc,h⟩|⟨hc,h⟩<;>first|exact(none_some h).elim|exact absurd hc (by decide)|subst hc|(replace hc:=br hc;subst hc)|(have hd:=hI_ hc;have he:=cD hc;clear hc)|(have hd:=cE hc;have he:=hL_ hc)|(have hd:=decide_eq_false hc)|(have hd:=decide_eq_true hc)|skip))
 all_goals go_enter Tryz.func74,Tryz.ntmps74
 all_goals go_wp2_with ((first
  |((with_reducible refine gate_dst (N:=1) rfl ?_);refine bV #[.slice aU ak.length c0_0,.int .i64 ax,.slice a6 aq.length aW,.int .i64 aN,.int .i64 a0_4,.slice cy aD.length cu] 30 fun g w1 j1 j2 j3=> ?_)
  |((with_reducible refine gate_dst (N:=2) rfl ?_);refine bV #[.slice none 0 0,.int .i64 0,.slice none 0 0,.int .i64 0,.int .i64 0,.slice none 0 0] 30 fun g w1 j1 j2 j3=> ?_)
  |((with_reducible refine gate_dst (N:=4) rfl ?_);refine bV #[.slice none 0 0,.int .i64 0,.slice none 0 0,.int .i64 0,.int .i64 0,.slice none 0 0] 30 fun g w1 j1 j2 j3=> ?_)
  |(go_at_call 30;replace h:=bI h;obtain⟨⟨t1,t2,t3,t4,t5,t6⟩,A,h⟩:=h;(try dsimp only at h);refine(nI.calls _ _ _ _ _ _ _ _ _ _ _ _ _ _ _ _ _ _ _ Rd.out az.out Rd.out az.out Rd.out az.out A).mono ?_;rintro e w2 ⟨v0,v1,v2,rfl,ho0,aY,bB,hb⟩;obtain⟨B0,b0,rfl,j0,q0⟩:=aX ho0;obtain⟨B1,b1,rfl,j1,q1⟩:=aX aY;obtain⟨B2,b2,rfl,j2,q2⟩:=aX bB;have jb:=aK.mk hb;clear A ho0 aY bB hb)
  |(go_at_call 31;replace h:=bI h;obtain⟨t,A,h⟩:=h;(try dsimp only at h);refine(cm.calls _ _ _ _ _ _ _ _ _ _ _ _ _ _ _ Rd.out az.out Rd.out az.out Rd.out az.out A).mono ?_;rintro e w2 ⟨rfl,hb⟩;have jb:=aK.mk hb;clear A hb)
  |(go_at_call 112;replace h:=bI h;obtain⟨t,A,h⟩:=h;(try dsimp only at h);refine(il.calls _ _ _ _ _ _ _ _ _ _ Rd.out az.out Rd.out az.out A).mono ?_;rintro e w2 ⟨v0,rfl,ho0,hb⟩;obtain⟨B0,b0,rfl,j0,q0⟩:=aX ho0;have jb:=aK.mk hb;clear A ho0 hb)
  |(go_at_call 113;replace h:=bI h;obtain⟨⟨t1,t2,t3,t4⟩,A,h⟩:=h;(try dsimp only at h);refine(jQ.calls _ _ _ _ _ _ _ _ _ _ _ _ _ Rd.out az.out Rd.out az.out A).mono ?_;rintro e w2 ⟨v0,v1,rfl,ho0,aY,hb⟩;obtain⟨B0,b0,rfl,j0,q0⟩:=aX ho0;obtain⟨B1,b1,rfl,j1,q1⟩:=aX aY;have jb:=aK.mk hb;clear A ho0 aY hb)
  |(go_at_call 114;replace h:=bI h;obtain⟨⟨t1,t2,t3,t4⟩,A,h⟩:=h;(try dsimp only at h);refine(jF.calls _ _ _ _ _ _ _ _ _ _ _ _ _ Rd.out az.out Rd.out az.out A).mono ?_;rintro e w2 ⟨v0,v1,rfl,ho0,aY,hb⟩;obtain⟨B0,b0,rfl,j0,q0⟩:=aX ho0;obtain⟨B1,b1,rfl,j1,q1⟩:=aX aY;have jb:=aK.mk hb;clear A ho0 aY hb));(repeat' first|((with_reducible replace h:=cG h);rcases h with ⟨hc,h⟩|⟨hc,h⟩<;>first|exact(none_some h).elim|exact absurd hc (by decide)|subst hc|(replace hc:=br hc;subst hc)|(have hd:=hI_ hc;have he:=cD hc;clear hc)|(have hd:=cE hc;have he:=hL_ hc)|(have hd:=decide_eq_false hc)|(have hd:=decide_eq_true hc)|skip));all_goals(try have hn:decide (0<t.length)=true:=decide_eq_true (by omega));all_goals(try have hn:decide (0<t.length)=false:=decide_eq_false (by omega)))
 all_goals simp only[Option.some.injEq,Prod.mk.injEq]at h
 all_goals obtain⟨rfl,rfl,rfl,rfl,rfl,rfl,rfl⟩:=h
 all_goals refine bodyPost_ret (results_ct rfl _ _ _ _ _ (0,0) _ rfl a7.out Tryz.underlying30 rfl (by kernel_rfl)) rfl ?_
 all_goals exact⟨_,_,_,rfl,(by first|exact cn|exact Kd.bM _ _ _ _ _),(by first|exact cn|exact Kd.bM _ _ _ _ _),(by first|exact cn|exact Kd.bM _ _ _ _ _),From.out⟩
def wM.f (k:Nat) (ak:List (ar)) (ax:Int) (aq:List Int) (aN:Int) (a0_4:Int) (aD:List (S64)) (a1:Int):Option ((List (ar))×Int×List Int×Int×Int×(List (S64))×Bool):=(nI.f ak ax aq aN a0_4 aD).bind fun tX=>((cm.f k ak ax aq aN a0_4 aD).bind fun ajb=>(if ajb=true then(if a0_4=100000 then((nI.f ak ax aq aN a0_4 aD).bind fun Ai=>(some (Ai.1,Ai.2.1,Ai.2.2.1,Ai.2.2.2.1,Ai.2.2.2.2.1,Ai.2.2.2.2.2,false)))else((cm.f k tX.1 tX.2.1 tX.2.2.1 a1 tX.2.2.2.2.1 tX.2.2.2.2.2).bind fun ajc=>(if ajc=true then(some (tX.1,tX.2.1,tX.2.2.1,a1,wrap64 (a0_4+1),tX.2.2.2.2.2,true))else((nI.f ak ax aq aN a0_4 aD).bind fun Aj=>(some (Aj.1,Aj.2.1,Aj.2.2.1,Aj.2.2.2.1,Aj.2.2.2.2.1,Aj.2.2.2.2.2,false))))))else((nI.f ak ax aq aN a0_4 aD).bind fun Ak=>(some (Ak.1,Ak.2.1,Ak.2.2.1,Ak.2.2.2.1,Ak.2.2.2.2.1,Ak.2.2.2.2.2,false)))))
theorem wM.calls (k:Nat) (aU:Option Addr) (c0_0:Nat) (ak:List (ar)) (ax:Int) (a6:Option Addr) (aW:Nat) (aq:List Int) (aN:Int) (a0_4:Int) (cy:Option Addr) (cu:Nat) (aD:List (S64)) (a1:Int) (r1:List (ar)) (r2:Int) (r3:List Int) (r4:Int) (r5:Int) (r6:List (S64)) (r7:Bool) (w:World) (cp:Kd.C bl w aU ak.length ak) (cx:ak.length≤c0_0) (cv:Kd.C (Kd.int .i64) w a6 aq.length aq) (cA:aq.length≤aW) (dW:Kd.C k64 w cy aD.length aD) (eC:aD.length≤cu) (h:wM.f k ak ax aq aN a0_4 aD a1=some (r1,r2,r3,r4,r5,r6,r7)):
  Calls Tryz.prog 75 #[.agg #[.slice aU ak.length c0_0,.int .i64 ax,.slice a6 aq.length aW,.int .i64 aN,.int .i64 a0_4,.slice cy aD.length cu],.int .i64 a1] w fun e w'=>∃v0_ cB dL:Value,e= .returned (.tuple #[.agg #[v0_,.int .i64 r2,cB,.int .i64 r4,.int .i64 r5,dL],.bool r7])∧Kd.R bl 110 w' w.heap.size (fun _=>True) v0_ r1∧Kd.R (Kd.int .i64) 3 w' w.heap.size (fun _=>True) cB r3∧Kd.R k64 64 w' w.heap.size (fun _=>True) dL r6∧Below w.heap.size w w':=by
 replace cp:=cg.mk cp;replace cx:=az.mk cx;replace cv:=cg.mk cv;replace cA:=az.mk cA;replace dW:=cg.mk dW;replace eC:=az.mk eC;unfold wM.f at h;have kp:=Tryz.underlying30
 (repeat' first|((with_reducible replace h:=cG h);rcases h with ⟨hc,h⟩|⟨hc,h⟩<;>first|exact(none_some h).elim|exact absurd hc (by decide)|subst hc|(replace hc:=br hc;subst hc)|(have hd:=hI_ hc;have he:=cD hc;clear hc)|(have hd:=cE hc;have he:=hL_ hc)|(have hd:=decide_eq_false hc)|(have hd:=decide_eq_true hc)|skip))
 all_goals go_enter Tryz.func75,Tryz.ntmps75
 all_goals go_wp2_with ((first
  |((with_reducible refine gate_dst (N:=2) rfl ?_);refine bV #[.slice aU ak.length c0_0,.int .i64 ax,.slice a6 aq.length aW,.int .i64 aN,.int .i64 a0_4,.slice cy aD.length cu] 30 fun g w1 j1 j2 j3=> ?_)
  |((with_reducible refine gate_dst (N:=4) rfl ?_);refine bV #[.slice none 0 0,.int .i64 0,.slice none 0 0,.int .i64 0,.int .i64 0,.slice none 0 0] 30 fun g w1 j1 j2 j3=> ?_)
  |((with_reducible refine gate_dst (N:=6) rfl ?_);refine bV #[.slice none 0 0,.int .i64 0,.slice none 0 0,.int .i64 0,.int .i64 0,.slice none 0 0] 30 fun g w1 j1 j2 j3=> ?_)
  |(go_at_call 30;replace h:=bI h;obtain⟨⟨t1,t2,t3,t4,t5,t6⟩,A,h⟩:=h;(try dsimp only at h);refine(nI.calls _ _ _ _ _ _ _ _ _ _ _ _ _ _ _ _ _ _ _ Rd.out az.out Rd.out az.out Rd.out az.out A).mono ?_;rintro e w2 ⟨v0,v1,v2,rfl,ho0,aY,bB,hb⟩;obtain⟨B0,b0,rfl,j0,q0⟩:=aX ho0;obtain⟨B1,b1,rfl,j1,q1⟩:=aX aY;obtain⟨B2,b2,rfl,j2,q2⟩:=aX bB;have jb:=aK.mk hb;clear A ho0 aY bB hb)
  |(go_at_call 31;replace h:=bI h;obtain⟨t,A,h⟩:=h;(try dsimp only at h);refine(cm.calls _ _ _ _ _ _ _ _ _ _ _ _ _ _ _ Rd.out az.out Rd.out az.out Rd.out az.out A).mono ?_;rintro e w2 ⟨rfl,hb⟩;have jb:=aK.mk hb;clear A hb));(repeat' first|((with_reducible replace h:=cG h);rcases h with ⟨hc,h⟩|⟨hc,h⟩<;>first|exact(none_some h).elim|exact absurd hc (by decide)|subst hc|(replace hc:=br hc;subst hc)|(have hd:=hI_ hc;have he:=cD hc;clear hc)|(have hd:=cE hc;have he:=hL_ hc)|(have hd:=decide_eq_false hc)|(have hd:=decide_eq_true hc)|skip)))
 all_goals simp only[Option.some.injEq,Prod.mk.injEq]at h
 all_goals obtain⟨rfl,rfl,rfl,rfl,rfl,rfl,rfl⟩:=h
 all_goals refine bodyPost_ret (results_ct rfl _ _ _ _ _ (0,0) _ rfl a7.out Tryz.underlying30 rfl (by kernel_rfl)) rfl ?_
 all_goals exact⟨_,_,_,rfl,(by first|exact cn|exact Kd.bM _ _ _ _ _),(by first|exact cn|exact Kd.bM _ _ _ _ _),(by first|exact cn|exact Kd.bM _ _ _ _ _),From.out⟩
def wJ.f (k:Nat) (ak:List (ar)) (ax:Int) (aq:List Int) (aN:Int) (a0_4:Int) (aD:List (S64)) (cZ:Int) (dc:Int) (a2:Int):Option ((List (ar))×Int×List Int×Int×Int×(List (S64))×Bool):=(nI.f ak ax aq aN a0_4 aD).bind fun mD=>((spec_AddEntry.f k aD cZ dc a2 a0_4).bind fun RM=>((cm.f k ak ax aq aN a0_4 aD).bind fun ajh=>(if ajh=true then(if RM.2=true then(some (mD.1,mD.2.1,mD.2.2.1,mD.2.2.2.1,mD.2.2.2.2.1,RM.1,true))else(some (mD.1,mD.2.1,mD.2.2.1,mD.2.2.2.1,mD.2.2.2.2.1,mD.2.2.2.2.2,false)))else(some (mD.1,mD.2.1,mD.2.2.1,mD.2.2.2.1,mD.2.2.2.2.1,mD.2.2.2.2.2,false)))))
theorem wJ.calls (k:Nat) (aU:Option Addr) (c0_0:Nat) (ak:List (ar)) (ax:Int) (a6:Option Addr) (aW:Nat) (aq:List Int) (aN:Int) (a0_4:Int) (cy:Option Addr) (cu:Nat) (aD:List (S64)) (cZ:Int) (dc:Int) (a2:Int) (r1:List (ar)) (r2:Int) (r3:List Int) (r4:Int) (r5:Int) (r6:List (S64)) (r7:Bool) (w:World) (cp:Kd.C bl w aU ak.length ak) (cx:ak.length≤c0_0) (cv:Kd.C (Kd.int .i64) w a6 aq.length aq) (cA:aq.length≤aW) (dW:Kd.C k64 w cy aD.length aD) (eC:aD.length≤cu) (h:wJ.f k ak ax aq aN a0_4 aD cZ dc a2=some (r1,r2,r3,r4,r5,r6,r7)):
  Calls Tryz.prog 76 #[.agg #[.slice aU ak.length c0_0,.int .i64 ax,.slice a6 aq.length aW,.int .i64 aN,.int .i64 a0_4,.slice cy aD.length cu],.agg #[.int .i64 cZ,.int .i64 dc],.int .i64 a2] w fun e w'=>∃v0_ cB dL:Value,e= .returned (.tuple #[.agg #[v0_,.int .i64 r2,cB,.int .i64 r4,.int .i64 r5,dL],.bool r7])∧Kd.R bl 110 w' w.heap.size (fun _=>True) v0_ r1∧Kd.R (Kd.int .i64) 3 w' w.heap.size (fun _=>True) cB r3∧Kd.R k64 64 w' w.heap.size (fun _=>True) dL r6∧Below w.heap.size w w':=by
 replace cp:=cg.mk cp;replace cx:=az.mk cx;replace cv:=cg.mk cv;replace cA:=az.mk cA;replace dW:=cg.mk dW;replace eC:=az.mk eC;unfold wJ.f at h;have kp:=Tryz.underlying30;have yc:=Tryz.underlying62
 (repeat' first|((with_reducible replace h:=cG h);rcases h with ⟨hc,h⟩|⟨hc,h⟩<;>first|exact(none_some h).elim|exact absurd hc (by decide)|subst hc|(replace hc:=br hc;subst hc)|(have hd:=hI_ hc;have he:=cD hc;clear hc)|(have hd:=cE hc;have he:=hL_ hc)|(have hd:=decide_eq_false hc)|(have hd:=decide_eq_true hc)|skip))
 all_goals go_enter Tryz.func76,Tryz.ntmps76
 all_goals go_wp2_with ((first
  |((with_reducible refine gate_dst (N:=3) rfl ?_);refine bV #[.slice aU ak.length c0_0,.int .i64 ax,.slice a6 aq.length aW,.int .i64 aN,.int .i64 a0_4,.slice cy aD.length cu] 30 fun g w1 j1 j2 j3=> ?_)
  |((with_reducible refine gate_dst (N:=4) rfl ?_);refine bV #[.int .i64 cZ,.int .i64 dc] 62 fun g w1 j1 j2 j3=> ?_)
  |((with_reducible refine gate_dst (N:=6) rfl ?_);refine bV #[.slice none 0 0,.int .i64 0,.slice none 0 0,.int .i64 0,.int .i64 0,.slice none 0 0] 30 fun g w1 j1 j2 j3=> ?_)
  |((with_reducible refine gate_dst (N:=8) rfl ?_);refine bV #[.slice none 0 0,.int .i64 0,.slice none 0 0,.int .i64 0,.int .i64 0,.slice none 0 0] 30 fun g w1 j1 j2 j3=> ?_)
  |(go_at_call 30;replace h:=bI h;obtain⟨⟨t1,t2,t3,t4,t5,t6⟩,A,h⟩:=h;(try dsimp only at h);refine(nI.calls _ _ _ _ _ _ _ _ _ _ _ _ _ _ _ _ _ _ _ Rd.out az.out Rd.out az.out Rd.out az.out A).mono ?_;rintro e w2 ⟨v0,v1,v2,rfl,ho0,aY,bB,hb⟩;obtain⟨B0,b0,rfl,j0,q0⟩:=aX ho0;obtain⟨B1,b1,rfl,j1,q1⟩:=aX aY;obtain⟨B2,b2,rfl,j2,q2⟩:=aX bB;have jb:=aK.mk hb;clear A ho0 aY bB hb)
  |(go_at_call 115;replace h:=bI h;obtain⟨⟨t1,t2⟩,A,h⟩:=h;(try dsimp only at h);refine(spec_AddEntry.calls _ _ _ _ _ _ _ _ _ _ _ Rd.out az.out A).mono ?_;rintro e w2 ⟨v0,rfl,ho0,hb⟩;obtain⟨B0,b0,rfl,j0,q0⟩:=aX ho0;have jb:=aK.mk hb;clear A ho0 hb)
  |(go_at_call 31;replace h:=bI h;obtain⟨t,A,h⟩:=h;(try dsimp only at h);refine(cm.calls _ _ _ _ _ _ _ _ _ _ _ _ _ _ _ Rd.out az.out Rd.out az.out Rd.out az.out A).mono ?_;rintro e w2 ⟨rfl,hb⟩;have jb:=aK.mk hb;clear A hb));(repeat' first|((with_reducible replace h:=cG h);rcases h with ⟨hc,h⟩|⟨hc,h⟩<;>first|exact(none_some h).elim|exact absurd hc (by decide)|subst hc|(replace hc:=br hc;subst hc)|(have hd:=hI_ hc;have he:=cD hc;clear hc)|(have hd:=cE hc;have he:=hL_ hc)|(have hd:=decide_eq_false hc)|(have hd:=decide_eq_true hc)|skip)))
 all_goals simp only[Option.some.injEq,Prod.mk.injEq]at h
 all_goals obtain⟨rfl,rfl,rfl,rfl,rfl,rfl,rfl⟩:=h
 all_goals refine bodyPost_ret (results_ct rfl _ _ _ _ _ (0,0) _ rfl a7.out Tryz.underlying30 rfl (by kernel_rfl)) rfl ?_
 all_goals exact⟨_,_,_,rfl,(by first|exact cn|exact Kd.bM _ _ _ _ _),(by first|exact cn|exact Kd.bM _ _ _ _ _),(by first|exact cn|exact Kd.bM _ _ _ _ _),From.out⟩
end Go.Proofs.YtnjfiaekdcekgaaGreatDoor.P
