/- What functions of the program come to (f), that their calls come to just this (calls), and the plain laws over lists and numbers, and the law FnActParts: for every argument it answers true. No condition but those of the given row. -/
import Derived.Test.YtnjfiaekdcekgaaGreatDoorRows
import Derived.Test.YtnjfiaekdcekgaaGreatDoorE5
import Derived.WalkKit
import Derived.ProofKit
import Derived.OpenShut
import Derived.ShutString
import Derived.ChangeOld
import Derived.Below
import Derived.SizedLaws
import Derived.Test.YtnjfiaekdcekgaaGreatDoorTie
import Derived.Test.YtnjfiaekdcekgaaGreatDoorCards
import GoSem.PinnedTables
import Derived.SevenTiedAt
import Derived.Stop.Joined
import Derived.Stop.LaidErr
import Derived.LaidLaws
import Derived.LaidMore
import Derived.LaidHandle
import Derived.MakeChecks
set_option linter.unusedVariables false
set_option linter.unusedSimpArgs false
namespace Go.Proofs.YtnjfiaekdcekgaaGreatDoor
namespace P
set_option maxHeartbeats 8000000
set_option maxRecDepth 100000
set_option synthInstance.maxHeartbeats 400000
set_option synthInstance.maxSize 100000
open Go.RowKit WW.bc WW.bY WW.bZ V
attribute [local go_sem] dB dC gT iV iW jI jJ
attribute [local go_sem] cP cT cS cW cR cV cQ cU
def dy.f (k:Nat) (l0:List Int):Option (Bool):=(ni.f l0).bind fun K=>(if K=true then(some true)else((my.f k l0).bind fun u=>((fV.f k l0).bind fun H=>(if 0<(H.length:Int)then(if(wrap64 ((u.2.2.2.2.2.2.length:Int)+1))=0 then(none)else((dw.f k u.1 u.2.1 u.2.2.1 u.2.2.2.1 u.2.2.2.2.1 u.2.2.2.2.2.1 u.2.2.2.2.2.2).bind fun z=>(if 0≤(Int.tmod (rd H 0) (wrap64 ((u.2.2.2.2.2.2.length:Int)+1)))then(if(Int.tmod (rd H 0) (wrap64 ((u.2.2.2.2.2.2.length:Int)+1)))≤(u.2.2.2.2.2.2.length:Int)then((dw.f k u.1 u.2.1 u.2.2.1 u.2.2.2.1 u.2.2.2.2.1 u.2.2.2.2.2.1 (u.2.2.2.2.2.2.take ((Int.tmod (rd H 0) (wrap64 ((u.2.2.2.2.2.2.length:Int)+1))):Int).toNat)).bind fun D=>((dw.f k D.1 D.2.1 D.2.2.1 D.2.2.2.1 D.2.2.2.2.1 D.2.2.2.2.2.1 (u.2.2.2.2.2.2.drop ((Int.tmod (rd H 0) (wrap64 ((u.2.2.2.2.2.2.length:Int)+1))):Int).toNat)).bind fun F=>((cB.f k u.1 u.2.1 u.2.2.1 u.2.2.2.1 u.2.2.2.2.1 u.2.2.2.2.2.1 u.2.2.2.2.2.2).bind fun G=>((dm.f k z.1 z.2.1 z.2.2.1 z.2.2.2.1 z.2.2.2.2.1 z.2.2.2.2.2.1).bind fun O=>((dT.f k G.1 G.2.1 G.2.2.1 G.2.2.2.1 G.2.2.2.2.1 G.2.2.2.2.2.1).bind fun U=>((fR.f k O U).bind fun V=>(if V=true then((fQ.f k z.2.2.2.2.2.2 G.2.2.2.2.2.2).bind fun X=>(if X=true then((dm.f k z.1 z.2.1 z.2.2.1 z.2.2.2.1 z.2.2.2.2.1 z.2.2.2.2.2.1).bind fun ad=>((dm.f k F.1 F.2.1 F.2.2.1 F.2.2.2.1 F.2.2.2.2.1 F.2.2.2.2.2.1).bind fun af=>((fR.f k ad af).bind fun ag=>(if ag=true then((some (([]:List Int):List Int)).bind fun I=>(if I.length+D.2.2.2.2.2.2.length<17592186044416 then((some (I++D.2.2.2.2.2.2:List Int)).bind fun J=>(if J.length+F.2.2.2.2.2.2.length<17592186044416 then((fQ.f k z.2.2.2.2.2.2 (J++F.2.2.2.2.2.2)).bind fun ak=>(some ak))else(none)))else(none)))else(some false)))))else(some false)))else(some false))))))))else(none))else(none))))else(none)))))
def dy.T7:Bool×List (List Nat×List Nat):=(true,[([],[]),([],[]),([],[]),([1,2],[1,2]),([0,3],[0,3]),([4],[4]),([5],[5]),([5],[5]),([],[]),([8,6,4,0,1,2,3,4,5,6,8],[6,8]),([7,9,0,1,2,3,4,5,6,7,8,9],[7])])
def dy.B7:List Nat:=[0,0,0,6,15,31,63,63,0,383,1023]
theorem dy.nC:aW .any (opsOf Tryz.f3 7)=dy.T7:=by kernel_rfl
theorem dy.mW:bL dy.T7.2 dy.B7=true:=by kernel_rfl
def dy.T8:Bool×List (List Nat×List Nat):=(true,[([],[]),([],[]),([],[]),([1,2],[1,2]),([0,3],[0,3]),([4],[4]),([5],[5]),([5],[5]),([],[]),([8,6,4,0,1,2,3,4,5,6,8],[6,8]),([7,9,0,1,2,3,4,5,6,7,8,9],[7])])
def dy.B8:List Nat:=[0,0,0,6,15,31,63,63,0,383,1023]
theorem dy.ju:aW .any (opsOf Tryz.f3 8)=dy.T8:=by kernel_rfl
theorem dy.iT:bL dy.T8.2 dy.B8=true:=by kernel_rfl
def dy.sI:Bool×List (List Nat×List Nat):=(true,[([],[]),([0],[0]),([],[]),([2,1],[2]),([1,3,3],[1,3]),([4,4],[4]),([5],[5]),([5],[5]),([6,7,5,5],[5,6,7]),([5,8],[5,8]),([9,8],[9]),([10],[10]),([11,10,10],[10,11]),([10],[10]),([13,12,10],[10,13]),([12,14,14,10],[10,12,14]),([10,15],[10,15]),([16,15],[16]),([17],[17]),([17],[17]),([17],[17]),([19,20,17,17],[17,19,20]),([17],[17]),([21,22,21,17],[17,21,22]),([18,23,23,17],[17,18,23]),([17,24],[17,24]),([25,24,0,1,2,3,4,5,6,7,8,9,10,11,12,13,14,15,16,17,18,19,20,21,22,23,24,25],[25])])
def dy.vY:List Nat:=[0,1,0,7,15,31,63,63,255,511,1023,2047,4095,2047,16383,32767,65535,131071,262143,262143,262143,1835007,262143,8126463,16777215,33554431,67108863]
theorem dy.BO:aW .any (opsOf Tryz.f3 10)=dy.sI:=by kernel_rfl
theorem dy.xA:bL dy.sI.2 dy.vY=true:=by kernel_rfl
theorem dy.c (k:Nat) (A0:Option Addr) (c0:Nat) (l0:List Int) (r:Bool) (w:World) (aB:Kd.C (Kd.int .u8) w A0 l0.length l0) (hc0:l0.length≤c0) (h:dy.f k l0=some r) (aD:ae (r=true)) (al:ae (kJ w)):
  Calls Tryz.prog 3 #[.slice A0 l0.length c0] w fun e w'=>e= .returned (.bool r)∧Below w.heap.size w w':=by
 replace aB:=a6.mk aB;replace hc0:=af.mk hc0;obtain rfl:=aD.out;clear aD;unfold dy.f at h;have aV:=Tryz.underlying30
 all_goals go_enter Tryz.func3,Tryz.ntmps3
 all_goals go_wp2_with ((first
  |((with_reducible refine aC (N:=3) rfl ?_);refine bV #[.slice none 0 0,.int .i64 0,.slice none 0 0,.int .i64 0,.int .i64 0,.slice none 0 0] 30 fun g w1 j1 j2 V=> ?_)
  |((with_reducible refine aC (N:=7) rfl ?_);refine bV #[.slice none 0 0,.int .i64 0,.slice none 0 0,.int .i64 0,.int .i64 0,.slice none 0 0] 30 fun g w1 j1 j2 V=> ?_)
  |((with_reducible refine aC (N:=13) rfl ?_);refine bV #[.slice none 0 0,.int .i64 0,.slice none 0 0,.int .i64 0,.int .i64 0,.slice none 0 0] 30 fun g w1 j1 j2 V=> ?_)
  |(go_at_call 6;(try rw[z.out]);replace h:=bI h;obtain⟨t,A,h⟩:=h;(try dsimp only at h);refine(ni.c _ _ _ _ _ Rd.out af.out A).mono ?_;rintro e w2 ⟨rfl,n,rfl⟩;clear A)
  |(go_at_call 7;(try rw[z.out]);replace h:=bI h;obtain⟨⟨t1,t2,t3,t4,t5,t6,t7⟩,A,h⟩:=h;(try dsimp only at h);refine(my.c _ _ _ _ _ _ _ _ _ _ _ _ Rd.out af.out A).mono ?_;rintro e w2 ⟨v0,v1,v2,v3,rfl,D,F,H,G,hb⟩;obtain⟨O,b0,rfl,j0,q0⟩:=av D;obtain⟨B1,b1,rfl,j1,q1⟩:=av F;obtain⟨B2,b2,rfl,j2,q2⟩:=av H;obtain⟨B3,b3,rfl,V,q3⟩:=av G;have U:=au.mk hb;clear A D F H G hb)
  |(go_at_call 8;(try rw[z.out]);replace h:=bI h;obtain⟨t,A,h⟩:=h;(try dsimp only at h);refine(fV.c _ _ _ _ _ _ Rd.out af.out A).mono ?_;rintro e w2 ⟨v0,rfl,D,hb⟩;obtain⟨O,b0,rfl,j0,q0⟩:=av D;have U:=au.mk hb;clear A D hb)
  |(go_at_call 9;(try rw[z.out]);replace h:=bI h;obtain⟨⟨t1,t2,t3,t4,t5,t6,t7⟩,A,h⟩:=h;(try dsimp only at h);refine(dw.c _ _ _ _ _ _ _ _ _ _ _ _ _ _ _ _ _ _ _ _ _ _ _ _ Rd.out af.out Rd.out af.out Rd.out af.out Rd.out af.out A).mono ?_;rintro e w2 ⟨v0,v1,v2,v3,rfl,D,F,H,G,hb⟩;obtain⟨O,b0,rfl,j0,q0⟩:=av D;replace F:=jl F;obtain⟨B1,b1,rfl,j1,q1⟩:=av F;obtain⟨B2,b2,rfl,j2,q2⟩:=av H;replace G:=jl G;obtain⟨B3,b3,rfl,V,q3⟩:=av G;have U:=au.mk hb;clear A D F H G hb)
  |(go_at_call 10;(try rw[z.out]);replace h:=bI h;obtain⟨⟨t1,t2,t3,t4,t5,t6,t7⟩,A,h⟩:=h;(try dsimp only at h);refine(cB.c _ _ _ _ _ _ _ _ _ _ _ _ _ _ _ _ _ _ _ _ _ _ _ _ Rd.out af.out Rd.out af.out Rd.out af.out Rd.out af.out A).mono ?_;rintro e w2 ⟨v0,v1,v2,v3,rfl,D,F,H,G,hb⟩;obtain⟨O,b0,rfl,j0,q0⟩:=av D;replace F:=jl F;obtain⟨B1,b1,rfl,j1,q1⟩:=av F;obtain⟨B2,b2,rfl,j2,q2⟩:=av H;replace G:=jl G;obtain⟨B3,b3,rfl,V,q3⟩:=av G;have U:=au.mk hb;clear A D F H G hb)
  |(refine qR (id:=7) (ds:=[]) (l:= #[false,false,false,false,false,false,false,false,false,false,false]) dy.nC dy.mW ?_;intro u X w3 aF u0 aE hHeld;replace h:=bI h;obtain⟨⟨aJ,aK,aL,aN,aO,aP,aQ⟩,ag,h⟩:=h;(try dsimp only at h);refine qT 0 (some 38) u X hHeld ?_;refine qA 1 (some 39) u ?_;refine qA 2 (some 40) u ?_;refine qA 3 (some 41) u ?_;refine ld 4 8 (some 42) (some 9) u (fun K hK=> ?_) (fun K hK=> ?_);(focus (refine cG Tryz.func9 (by kernel_rfl) rfl _ (by rfl) rfl rfl (by(try simp only[List.map_toArray,List.map_cons,List.map_nil]);rfl) ?_;refine(dw.c _ _ _ _ _ _ _ _ _ _ _ _ _ _ _ _ _ _ _ _ _ _ _ _ Rd.out af.out Rd.out af.out Rd.out af.out Rd.out af.out ag).mono ?_;rintro e u4 ⟨v0,v1,v2,v3,rfl,D,F,H,G,hb⟩;obtain⟨O,b0,rfl,j0,q0⟩:=av D;replace F:=jl F;obtain⟨B1,b1,rfl,j1,q1⟩:=av F;obtain⟨B2,b2,rfl,j2,q2⟩:=av H;replace G:=jl G;obtain⟨B3,b3,rfl,V,q3⟩:=av G;have U:=au.mk hb;(try clear D F H G hb);refine⟨_,rfl,hK.out _ _ From.out fun hHeld=> ?_⟩;clear hK K;refine qN ?_;refine qA 5 (some 37) u ?_;refine qA 6 (some 43) u ?_;refine qA 7 (some 44) u ?_;refine gK 8 (some 9) u fun K hK=> ?_;refine iL 9 #[.slice none 0 0,.int .i64 0,.slice none 0 0,.int .i64 0,.int .i64 0,.slice none 0 0] 30 ?_;intro g8 ao u8 ak ap;refine hK.out _ _ From.out fun hHeld=> ?_;clear hK K;refine qN ?_;refine qS 9 u fun hHeld=> ?_;refine qA 10 (some 10) u ?_;refine qD u ?_));rotate_left 1;(focus (refine iL 9 #[.slice none 0 0,.int .i64 0,.slice none 0 0,.int .i64 0,.int .i64 0,.slice none 0 0] 30 ?_;intro g8 ao u8 ak ap;refine hK.out _ _ From.out fun hHeld=> ?_;clear hK K;refine qN ?_;refine gK 4 (some 42) u fun K hK=> ?_;refine cG Tryz.func9 (by kernel_rfl) rfl _ (by rfl) rfl rfl (by(try simp only[List.map_toArray,List.map_cons,List.map_nil]);rfl) ?_;refine(dw.c _ _ _ _ _ _ _ _ _ _ _ _ _ _ _ _ _ _ _ _ _ _ _ _ Rd.out af.out Rd.out af.out Rd.out af.out Rd.out af.out ag).mono ?_;rintro e u4 ⟨v0,v1,v2,v3,rfl,D,F,H,G,hb⟩;obtain⟨O,b0,rfl,j0,q0⟩:=av D;replace F:=jl F;obtain⟨B1,b1,rfl,j1,q1⟩:=av F;obtain⟨B2,b2,rfl,j2,q2⟩:=av H;replace G:=jl G;obtain⟨B3,b3,rfl,V,q3⟩:=av G;have U:=au.mk hb;(try clear D F H G hb);refine⟨_,rfl,hK.out _ _ From.out fun hHeld=> ?_⟩;clear hK K;refine qN ?_;refine qA 5 (some 37) u ?_;refine qA 6 (some 43) u ?_;refine qA 7 (some 44) u ?_;refine qS 9 u fun hHeld=> ?_;refine qA 10 (some 10) u ?_;refine qD u ?_));all_goals((try simp only[az]at h);(repeat' first|((with_reducible replace h:=bC h);rcases h with ⟨hc,h⟩|⟨hc,h⟩<;>first|exact(bo h).elim|exact absurd (aA h) (by decide)|exact absurd hc (by decide)|subst hc|(replace hc:=aM hc;subst hc)|(replace hc:=bR hc;subst hc)|(replace hc:=bS hc;subst hc)|(have hd:(_==_)=true:=hc)|(have hd:(_==_)=false:=aM hc)|(have hd:=aM hc)|(have hd:=bw hc;have he:=bz hc;clear hc)|(have hd:=bA hc;have he:=bB hc)|(have hd:=ax hc)|(have hd:=ah hc;(try(have hn:=Int.natCast_pos.mp hc;have hm:=ah hn;replace hn:=aw hn));first|(obtain⟨J,e_,i_⟩:=bQ (by assumption) (by first|assumption|decide) hc;cases e_)|(obtain⟨I,e_,c_⟩:=bO (by assumption) (by first|assumption|decide) hc;cases e_))|(have hd:=ah hc)|skip)|((with_reducible replace h:=bP h);obtain⟨z,h⟩:=h;replace z:=A_ z;(try dsimp only at h)))))
  |(refine qR (id:=8) (ds:=[]) (l:= #[false,false,false,false,false,false,false,false,false,false,false]) dy.ju dy.iT ?_;intro u X w3 aF u0 aE hHeld;replace h:=bI h;obtain⟨⟨aJ,aK,aL,aN,aO,aP,aQ⟩,ag,h⟩:=h;(try dsimp only at h);refine qT 0 (some 46) u X hHeld ?_;refine qA 1 (some 47) u ?_;refine qA 2 (some 48) u ?_;refine qA 3 (some 49) u ?_;refine ld 4 8 (some 50) (some 11) u (fun K hK=> ?_) (fun K hK=> ?_);(focus (refine cG Tryz.func9 (by kernel_rfl) rfl _ (by rfl) rfl rfl (by(try simp only[List.map_toArray,List.map_cons,List.map_nil]);rfl) ?_;refine(dw.c _ _ _ _ _ _ _ _ _ _ _ _ _ _ _ _ _ _ _ _ _ _ _ _ Rd.out af.out Rd.out af.out Rd.out af.out Rd.out af.out ag).mono ?_;rintro e u4 ⟨v0,v1,v2,v3,rfl,D,F,H,G,hb⟩;obtain⟨O,b0,rfl,j0,q0⟩:=av D;replace F:=jl F;obtain⟨B1,b1,rfl,j1,q1⟩:=av F;obtain⟨B2,b2,rfl,j2,q2⟩:=av H;replace G:=jl G;obtain⟨B3,b3,rfl,V,q3⟩:=av G;have U:=au.mk hb;(try clear D F H G hb);refine⟨_,rfl,hK.out _ _ From.out fun hHeld=> ?_⟩;clear hK K;refine qN ?_;refine qA 5 (some 45) u ?_;refine qA 6 (some 51) u ?_;refine qA 7 (some 52) u ?_;refine gK 8 (some 11) u fun K hK=> ?_;refine iL 11 #[.slice none 0 0,.int .i64 0,.slice none 0 0,.int .i64 0,.int .i64 0,.slice none 0 0] 30 ?_;intro g8 ao u8 ak ap;refine hK.out _ _ From.out fun hHeld=> ?_;clear hK K;refine qN ?_;refine qS 9 u fun hHeld=> ?_;refine qA 10 (some 12) u ?_;refine qD u ?_));rotate_left 1;(focus (refine iL 11 #[.slice none 0 0,.int .i64 0,.slice none 0 0,.int .i64 0,.int .i64 0,.slice none 0 0] 30 ?_;intro g8 ao u8 ak ap;refine hK.out _ _ From.out fun hHeld=> ?_;clear hK K;refine qN ?_;refine gK 4 (some 50) u fun K hK=> ?_;refine cG Tryz.func9 (by kernel_rfl) rfl _ (by rfl) rfl rfl (by(try simp only[List.map_toArray,List.map_cons,List.map_nil]);rfl) ?_;refine(dw.c _ _ _ _ _ _ _ _ _ _ _ _ _ _ _ _ _ _ _ _ _ _ _ _ Rd.out af.out Rd.out af.out Rd.out af.out Rd.out af.out ag).mono ?_;rintro e u4 ⟨v0,v1,v2,v3,rfl,D,F,H,G,hb⟩;obtain⟨O,b0,rfl,j0,q0⟩:=av D;replace F:=jl F;obtain⟨B1,b1,rfl,j1,q1⟩:=av F;obtain⟨B2,b2,rfl,j2,q2⟩:=av H;replace G:=jl G;obtain⟨B3,b3,rfl,V,q3⟩:=av G;have U:=au.mk hb;(try clear D F H G hb);refine⟨_,rfl,hK.out _ _ From.out fun hHeld=> ?_⟩;clear hK K;refine qN ?_;refine qA 5 (some 45) u ?_;refine qA 6 (some 51) u ?_;refine qA 7 (some 52) u ?_;refine qS 9 u fun hHeld=> ?_;refine qA 10 (some 12) u ?_;refine qD u ?_));all_goals((try simp only[az]at h);(repeat' first|((with_reducible replace h:=bC h);rcases h with ⟨hc,h⟩|⟨hc,h⟩<;>first|exact(bo h).elim|exact absurd (aA h) (by decide)|exact absurd hc (by decide)|subst hc|(replace hc:=aM hc;subst hc)|(replace hc:=bR hc;subst hc)|(replace hc:=bS hc;subst hc)|(have hd:(_==_)=true:=hc)|(have hd:(_==_)=false:=aM hc)|(have hd:=aM hc)|(have hd:=bw hc;have he:=bz hc;clear hc)|(have hd:=bA hc;have he:=bB hc)|(have hd:=ax hc)|(have hd:=ah hc;(try(have hn:=Int.natCast_pos.mp hc;have hm:=ah hn;replace hn:=aw hn));first|(obtain⟨J,e_,i_⟩:=bQ (by assumption) (by first|assumption|decide) hc;cases e_)|(obtain⟨I,e_,c_⟩:=bO (by assumption) (by first|assumption|decide) hc;cases e_))|(have hd:=ah hc)|skip)|((with_reducible replace h:=bP h);obtain⟨z,h⟩:=h;replace z:=A_ z;(try dsimp only at h)))))
  |(refine qR (id:=10) (ds:=[]) (l:= #[false,false,false,false,false,false,false,false,false,false,false,false,false,false,false,false,false,false,false,false,false,false,false,false,false,false,false]) dy.BO dy.xA ?_;intro u X w3 aF u0 aE hHeld;refine qT 0 (some 59) u X hHeld ?_;refine qT 2 (some 61) u X hHeld ?_;replace h:=bI h;obtain⟨t,A,h⟩:=h;(try dsimp only at h);(repeat' first|((with_reducible replace h:=bC h);rcases h with ⟨hc,h⟩|⟨hc,h⟩<;>first|exact(bo h).elim|exact absurd (aA h) (by decide)|exact absurd hc (by decide)|subst hc|(replace hc:=aM hc;subst hc)|(replace hc:=bR hc;subst hc)|(replace hc:=bS hc;subst hc)|(have hd:(_==_)=true:=hc)|(have hd:(_==_)=false:=aM hc)|(have hd:=aM hc)|(have hd:=bw hc;have he:=bz hc;clear hc)|(have hd:=bA hc;have he:=bB hc)|(have hd:=ax hc)|(have hd:=ah hc;(try(have hn:=Int.natCast_pos.mp hc;have hm:=ah hn;replace hn:=aw hn));first|(obtain⟨J,e_,i_⟩:=bQ (by assumption) (by first|assumption|decide) hc;cases e_)|(obtain⟨I,e_,c_⟩:=bO (by assumption) (by first|assumption|decide) hc;cases e_))|(have hd:=ah hc)|skip)|((with_reducible replace h:=bP h);obtain⟨z,h⟩:=h;replace z:=A_ z;(try dsimp only at h)));refine qC 1 60 Tryz.func12 u fun K hK=> ?_;refine(dm.c _ _ _ _ _ _ _ _ _ _ _ _ _ _ _ Rd.out af.out Rd.out af.out Rd.out af.out A ⟨rY al⟩).mono ?_;rintro e w2 ⟨v0,rfl,D,hb⟩;obtain⟨O,b0,rfl,j0,q0⟩:=av D;have U:=au.mk hb;clear A D hb;refine⟨_,rfl,hK _ _ From.out fun hHeld=> ?_⟩;clear hK K;refine qN ?_;replace h:=bI h;obtain⟨t,A,h⟩:=h;(try dsimp only at h);(repeat' first|((with_reducible replace h:=bC h);rcases h with ⟨hc,h⟩|⟨hc,h⟩<;>first|exact(bo h).elim|exact absurd (aA h) (by decide)|exact absurd hc (by decide)|subst hc|(replace hc:=aM hc;subst hc)|(replace hc:=bR hc;subst hc)|(replace hc:=bS hc;subst hc)|(have hd:(_==_)=true:=hc)|(have hd:(_==_)=false:=aM hc)|(have hd:=aM hc)|(have hd:=bw hc;have he:=bz hc;clear hc)|(have hd:=bA hc;have he:=bB hc)|(have hd:=ax hc)|(have hd:=ah hc;(try(have hn:=Int.natCast_pos.mp hc;have hm:=ah hn;replace hn:=aw hn));first|(obtain⟨J,e_,i_⟩:=bQ (by assumption) (by first|assumption|decide) hc;cases e_)|(obtain⟨I,e_,c_⟩:=bO (by assumption) (by first|assumption|decide) hc;cases e_))|(have hd:=ah hc)|skip)|((with_reducible replace h:=bP h);obtain⟨z,h⟩:=h;replace z:=A_ z;(try dsimp only at h)));refine qC 3 62 Tryz.func13 u fun K hK=> ?_;refine(dT.c _ _ _ _ _ _ _ _ _ _ _ _ _ _ _ Rd.out af.out Rd.out af.out Rd.out af.out A).mono ?_;rintro e w2 ⟨v0,rfl,D,hb⟩;obtain⟨O,b0,rfl,j0,q0⟩:=av D;have U:=au.mk hb;clear A D hb;refine⟨_,rfl,hK _ _ From.out fun hHeld=> ?_⟩;clear hK K;refine qN ?_;replace h:=bI h;obtain⟨t,A,h⟩:=h;(try dsimp only at h);(repeat' first|((with_reducible replace h:=bC h);rcases h with ⟨hc,h⟩|⟨hc,h⟩<;>first|exact(bo h).elim|exact absurd (aA h) (by decide)|exact absurd hc (by decide)|subst hc|(replace hc:=aM hc;subst hc)|(replace hc:=bR hc;subst hc)|(replace hc:=bS hc;subst hc)|(have hd:(_==_)=true:=hc)|(have hd:(_==_)=false:=aM hc)|(have hd:=aM hc)|(have hd:=bw hc;have he:=bz hc;clear hc)|(have hd:=bA hc;have he:=bB hc)|(have hd:=ax hc)|(have hd:=ah hc;(try(have hn:=Int.natCast_pos.mp hc;have hm:=ah hn;replace hn:=aw hn));first|(obtain⟨J,e_,i_⟩:=bQ (by assumption) (by first|assumption|decide) hc;cases e_)|(obtain⟨I,e_,c_⟩:=bO (by assumption) (by first|assumption|decide) hc;cases e_))|(have hd:=ah hc)|skip)|((with_reducible replace h:=bP h);obtain⟨z,h⟩:=h;replace z:=A_ z;(try dsimp only at h)));refine qC 4 63 Tryz.func11 u fun K hK=> ?_;refine(fR.c _ _ _ _ _ _ _ _ _ Rd.out af.out Rd.out af.out A).mono ?_;rintro e w2 ⟨rfl,n,rfl⟩;clear A;refine⟨_,rfl,hK _ _ From.out fun hHeld=> ?_⟩;clear hK K;refine qN ?_;refine qA 5 (some 64) u ?_;refine qA 6 (some 65) u ?_;refine qA 7 (some 66) u ?_;replace h:=bI h;obtain⟨t,A,h⟩:=h;(try dsimp only at h);(repeat' first|((with_reducible replace h:=bC h);rcases h with ⟨hc,h⟩|⟨hc,h⟩<;>first|exact(bo h).elim|exact absurd (aA h) (by decide)|exact absurd hc (by decide)|subst hc|(replace hc:=aM hc;subst hc)|(replace hc:=bR hc;subst hc)|(replace hc:=bS hc;subst hc)|(have hd:(_==_)=true:=hc)|(have hd:(_==_)=false:=aM hc)|(have hd:=aM hc)|(have hd:=bw hc;have he:=bz hc;clear hc)|(have hd:=bA hc;have he:=bB hc)|(have hd:=ax hc)|(have hd:=ah hc;(try(have hn:=Int.natCast_pos.mp hc;have hm:=ah hn;replace hn:=aw hn));first|(obtain⟨J,e_,i_⟩:=bQ (by assumption) (by first|assumption|decide) hc;cases e_)|(obtain⟨I,e_,c_⟩:=bO (by assumption) (by first|assumption|decide) hc;cases e_))|(have hd:=ah hc)|skip)|((with_reducible replace h:=bP h);obtain⟨z,h⟩:=h;replace z:=A_ z;(try dsimp only at h)));refine qC 8 67 Tryz.func14 u fun K hK=> ?_;refine(fQ.c _ _ _ _ _ _ _ _ _ Rd.out af.out Rd.out af.out A).mono ?_;rintro e w2 ⟨rfl,n,rfl⟩;clear A;refine⟨_,rfl,hK _ _ From.out fun hHeld=> ?_⟩;clear hK K;refine qN ?_;refine qA 9 (some 68) u ?_;refine qA 10 (some 69) u ?_;refine qT 11 (some 70) u X hHeld ?_;refine qT 13 (some 72) u X hHeld ?_;replace h:=bI h;obtain⟨t,A,h⟩:=h;(try dsimp only at h);(repeat' first|((with_reducible replace h:=bC h);rcases h with ⟨hc,h⟩|⟨hc,h⟩<;>first|exact(bo h).elim|exact absurd (aA h) (by decide)|exact absurd hc (by decide)|subst hc|(replace hc:=aM hc;subst hc)|(replace hc:=bR hc;subst hc)|(replace hc:=bS hc;subst hc)|(have hd:(_==_)=true:=hc)|(have hd:(_==_)=false:=aM hc)|(have hd:=aM hc)|(have hd:=bw hc;have he:=bz hc;clear hc)|(have hd:=bA hc;have he:=bB hc)|(have hd:=ax hc)|(have hd:=ah hc;(try(have hn:=Int.natCast_pos.mp hc;have hm:=ah hn;replace hn:=aw hn));first|(obtain⟨J,e_,i_⟩:=bQ (by assumption) (by first|assumption|decide) hc;cases e_)|(obtain⟨I,e_,c_⟩:=bO (by assumption) (by first|assumption|decide) hc;cases e_))|(have hd:=ah hc)|skip)|((with_reducible replace h:=bP h);obtain⟨z,h⟩:=h;replace z:=A_ z;(try dsimp only at h)));refine qC 12 71 Tryz.func12 u fun K hK=> ?_;refine(dm.c _ _ _ _ _ _ _ _ _ _ _ _ _ _ _ Rd.out af.out Rd.out af.out Rd.out af.out A ⟨rY al⟩).mono ?_;rintro e w2 ⟨v0,rfl,D,hb⟩;obtain⟨O,b0,rfl,j0,q0⟩:=av D;have U:=au.mk hb;clear A D hb;refine⟨_,rfl,hK _ _ From.out fun hHeld=> ?_⟩;clear hK K;refine qN ?_;replace h:=bI h;obtain⟨t,A,h⟩:=h;(try dsimp only at h);(repeat' first|((with_reducible replace h:=bC h);rcases h with ⟨hc,h⟩|⟨hc,h⟩<;>first|exact(bo h).elim|exact absurd (aA h) (by decide)|exact absurd hc (by decide)|subst hc|(replace hc:=aM hc;subst hc)|(replace hc:=bR hc;subst hc)|(replace hc:=bS hc;subst hc)|(have hd:(_==_)=true:=hc)|(have hd:(_==_)=false:=aM hc)|(have hd:=aM hc)|(have hd:=bw hc;have he:=bz hc;clear hc)|(have hd:=bA hc;have he:=bB hc)|(have hd:=ax hc)|(have hd:=ah hc;(try(have hn:=Int.natCast_pos.mp hc;have hm:=ah hn;replace hn:=aw hn));first|(obtain⟨J,e_,i_⟩:=bQ (by assumption) (by first|assumption|decide) hc;cases e_)|(obtain⟨I,e_,c_⟩:=bO (by assumption) (by first|assumption|decide) hc;cases e_))|(have hd:=ah hc)|skip)|((with_reducible replace h:=bP h);obtain⟨z,h⟩:=h;replace z:=A_ z;(try dsimp only at h)));refine qC 14 73 Tryz.func12 u fun K hK=> ?_;refine(dm.c _ _ _ _ _ _ _ _ _ _ _ _ _ _ _ Rd.out af.out Rd.out af.out Rd.out af.out A ⟨rY al⟩).mono ?_;rintro e w2 ⟨v0,rfl,D,hb⟩;obtain⟨O,b0,rfl,j0,q0⟩:=av D;have U:=au.mk hb;clear A D hb;refine⟨_,rfl,hK _ _ From.out fun hHeld=> ?_⟩;clear hK K;refine qN ?_;replace h:=bI h;obtain⟨t,A,h⟩:=h;(try dsimp only at h);(repeat' first|((with_reducible replace h:=bC h);rcases h with ⟨hc,h⟩|⟨hc,h⟩<;>first|exact(bo h).elim|exact absurd (aA h) (by decide)|exact absurd hc (by decide)|subst hc|(replace hc:=aM hc;subst hc)|(replace hc:=bR hc;subst hc)|(replace hc:=bS hc;subst hc)|(have hd:(_==_)=true:=hc)|(have hd:(_==_)=false:=aM hc)|(have hd:=aM hc)|(have hd:=bw hc;have he:=bz hc;clear hc)|(have hd:=bA hc;have he:=bB hc)|(have hd:=ax hc)|(have hd:=ah hc;(try(have hn:=Int.natCast_pos.mp hc;have hm:=ah hn;replace hn:=aw hn));first|(obtain⟨J,e_,i_⟩:=bQ (by assumption) (by first|assumption|decide) hc;cases e_)|(obtain⟨I,e_,c_⟩:=bO (by assumption) (by first|assumption|decide) hc;cases e_))|(have hd:=ah hc)|skip)|((with_reducible replace h:=bP h);obtain⟨z,h⟩:=h;replace z:=A_ z;(try dsimp only at h)));refine qC 15 74 Tryz.func11 u fun K hK=> ?_;refine(fR.c _ _ _ _ _ _ _ _ _ Rd.out af.out Rd.out af.out A).mono ?_;rintro e w2 ⟨rfl,n,rfl⟩;clear A;refine⟨_,rfl,hK _ _ From.out fun hHeld=> ?_⟩;clear hK K;refine qN ?_;refine qA 16 (some 75) u ?_;refine qA 17 (some 76) u ?_;refine qA 18 (some 77) u ?_;refine qA 20 (some 79) u ?_;refine qA 22 (some 81) u ?_;(try simp only[az]at h);(repeat' first|((with_reducible replace h:=bC h);rcases h with ⟨hc,h⟩|⟨hc,h⟩<;>first|exact(bo h).elim|exact absurd (aA h) (by decide)|exact absurd hc (by decide)|subst hc|(replace hc:=aM hc;subst hc)|(replace hc:=bR hc;subst hc)|(replace hc:=bS hc;subst hc)|(have hd:(_==_)=true:=hc)|(have hd:(_==_)=false:=aM hc)|(have hd:=aM hc)|(have hd:=bw hc;have he:=bz hc;clear hc)|(have hd:=bA hc;have he:=bB hc)|(have hd:=ax hc)|(have hd:=ah hc;(try(have hn:=Int.natCast_pos.mp hc;have hm:=ah hn;replace hn:=aw hn));first|(obtain⟨J,e_,i_⟩:=bQ (by assumption) (by first|assumption|decide) hc;cases e_)|(obtain⟨I,e_,c_⟩:=bO (by assumption) (by first|assumption|decide) hc;cases e_))|(have hd:=ah hc)|skip)|((with_reducible replace h:=bP h);obtain⟨z,h⟩:=h;replace z:=A_ z;(try dsimp only at h)));refine qI (Kd.int .i64) 19 3 78 ([]:List Int) [] u hHeld (aI.none _ _) ?_;intro B9 aT a3 aW a0 hHeld;refine uP (Kd.int .i64) 21 80 (.tmp 78) (.tmp 79) 25 (.int .i64 0) 8 u hHeld Tryz.underlying25 info3 rfl (by decide) (by omega) (fun _ _ h=>h) ?_;intro B8 aG u8 aR ad am ak hHeld;have aH:=af.mk (ia am);(try simp only[az]at h);rw[ad]at h;(try rw[ad]at hc);clear ad;(repeat' first|((with_reducible replace h:=bC h);rcases h with ⟨hc,h⟩|⟨hc,h⟩<;>first|exact(bo h).elim|exact absurd (aA h) (by decide)|exact absurd hc (by decide)|subst hc|(replace hc:=aM hc;subst hc)|(replace hc:=bR hc;subst hc)|(replace hc:=bS hc;subst hc)|(have hd:(_==_)=true:=hc)|(have hd:(_==_)=false:=aM hc)|(have hd:=aM hc)|(have hd:=bw hc;have he:=bz hc;clear hc)|(have hd:=bA hc;have he:=bB hc)|(have hd:=ax hc)|(have hd:=ah hc;(try(have hn:=Int.natCast_pos.mp hc;have hm:=ah hn;replace hn:=aw hn));first|(obtain⟨J,e_,i_⟩:=bQ (by assumption) (by first|assumption|decide) hc;cases e_)|(obtain⟨I,e_,c_⟩:=bO (by assumption) (by first|assumption|decide) hc;cases e_))|(have hd:=ah hc)|skip)|((with_reducible replace h:=bP h);obtain⟨z,h⟩:=h;replace z:=A_ z;(try dsimp only at h)));refine uP (Kd.int .i64) 23 82 (.tmp 80) (.tmp 81) 25 (.int .i64 0) 8 u hHeld Tryz.underlying25 info3 rfl (by decide) (by omega) (fun _ _ h=>h) ?_;intro B8 aG u8 aR ad am ak hHeld;have aH:=af.mk (ia am);(try simp only[az]at h);rw[ad]at h;(try rw[ad]at hc);clear ad;(repeat' first|((with_reducible replace h:=bC h);rcases h with ⟨hc,h⟩|⟨hc,h⟩<;>first|exact(bo h).elim|exact absurd (aA h) (by decide)|exact absurd hc (by decide)|subst hc|(replace hc:=aM hc;subst hc)|(replace hc:=bR hc;subst hc)|(replace hc:=bS hc;subst hc)|(have hd:(_==_)=true:=hc)|(have hd:(_==_)=false:=aM hc)|(have hd:=aM hc)|(have hd:=bw hc;have he:=bz hc;clear hc)|(have hd:=bA hc;have he:=bB hc)|(have hd:=ax hc)|(have hd:=ah hc;(try(have hn:=Int.natCast_pos.mp hc;have hm:=ah hn;replace hn:=aw hn));first|(obtain⟨J,e_,i_⟩:=bQ (by assumption) (by first|assumption|decide) hc;cases e_)|(obtain⟨I,e_,c_⟩:=bO (by assumption) (by first|assumption|decide) hc;cases e_))|(have hd:=ah hc)|skip)|((with_reducible replace h:=bP h);obtain⟨z,h⟩:=h;replace z:=A_ z;(try dsimp only at h)));replace h:=bI h;obtain⟨t,A,h⟩:=h;(try dsimp only at h);(repeat' first|((with_reducible replace h:=bC h);rcases h with ⟨hc,h⟩|⟨hc,h⟩<;>first|exact(bo h).elim|exact absurd (aA h) (by decide)|exact absurd hc (by decide)|subst hc|(replace hc:=aM hc;subst hc)|(replace hc:=bR hc;subst hc)|(replace hc:=bS hc;subst hc)|(have hd:(_==_)=true:=hc)|(have hd:(_==_)=false:=aM hc)|(have hd:=aM hc)|(have hd:=bw hc;have he:=bz hc;clear hc)|(have hd:=bA hc;have he:=bB hc)|(have hd:=ax hc)|(have hd:=ah hc;(try(have hn:=Int.natCast_pos.mp hc;have hm:=ah hn;replace hn:=aw hn));first|(obtain⟨J,e_,i_⟩:=bQ (by assumption) (by first|assumption|decide) hc;cases e_)|(obtain⟨I,e_,c_⟩:=bO (by assumption) (by first|assumption|decide) hc;cases e_))|(have hd:=ah hc)|skip)|((with_reducible replace h:=bP h);obtain⟨z,h⟩:=h;replace z:=A_ z;(try dsimp only at h)));refine qC 24 83 Tryz.func14 u fun K hK=> ?_;refine(fQ.c _ _ _ _ _ _ _ _ _ Rd.out af.out Rd.out af.out A).mono ?_;rintro e w2 ⟨rfl,n,rfl⟩;clear A;refine⟨_,rfl,hK _ _ From.out fun hHeld=> ?_⟩;clear hK K;refine qN ?_;refine qA 25 (some 84) u ?_;refine qA 26 (some 2) u ?_;refine qD u ?_));(repeat' first|((with_reducible replace h:=bC h);rcases h with ⟨hc,h⟩|⟨hc,h⟩<;>first|exact(bo h).elim|exact absurd (aA h) (by decide)|exact absurd hc (by decide)|subst hc|(replace hc:=aM hc;subst hc)|(replace hc:=bR hc;subst hc)|(replace hc:=bS hc;subst hc)|(have hd:(_==_)=true:=hc)|(have hd:(_==_)=false:=aM hc)|(have hd:=aM hc)|(have hd:=bw hc;have he:=bz hc;clear hc)|(have hd:=bA hc;have he:=bB hc)|(have hd:=ax hc)|(have hd:=ah hc;(try(have hn:=Int.natCast_pos.mp hc;have hm:=ah hn;replace hn:=aw hn));first|(obtain⟨J,e_,i_⟩:=bQ (by assumption) (by first|assumption|decide) hc;cases e_)|(obtain⟨I,e_,c_⟩:=bO (by assumption) (by first|assumption|decide) hc;cases e_))|(have hd:=ah hc)|skip)|((with_reducible replace h:=bP h);obtain⟨z,h⟩:=h;replace z:=A_ z;(try dsimp only at h)));all_goals(try have hn:decide (0<t.length)=true:=ah (by omega));all_goals(try have hn:decide (0<t.length)=false:=ax (by omega));all_goals(try(have hz:=xV (by assumption) (by assumption) (show Int.tmod _ _≤_ from hc);clear hc;obtain⟨ys,zs,B7,aS,aq,ar,aU,hcB,aY,a1,aZ,a2⟩:=hz;rw[aq,ar]at h;clear aq ar)))
 all_goals go_ret
 all_goals exact⟨(by first|rfl|(rw[aA h];rfl)),From.out⟩
end P
namespace Q
open Go.RowKit P WW.bc WW.bZ
def ow (l:List S64):List S64:=if cO l=true then eo l l.length else[]
theorem zM (l:List S64) (hl:l.length≤1048577):iJ.f l=some (ow l):=by
  unfold iJ.f;rw[ai hl];rfl
theorem zL (l:List S64) (hl:l.length≤1048577):Ev (fun k=>br.f k l) (ow l):=zN l hl
def kV (l:List S64):Int×Int×Bool:=match ow l with
  |[]=>(0,0,false)
  |x::_=>(x.f0.f0,x.f0.f1,true)
theorem zD (l:List S64) (hl:l.length≤1048577):mY.f l=some (kV l):=by
  unfold mY.f kV;rw[zM l hl];simp only[az];cases h:ow l with
  |nil=>simp
  |cons x r=>
   rw[aj (by first|(simp;done)|(simp;omega)),ai (by first|(simp;done)|(simp;omega))];simp[aq]
theorem zE (l:List S64) (hl:l.length≤1048577):Ev (fun k=>ny.f k l) (kV l):=by
  unfold ny.f kV;refine Ev.bind (zL l hl) ?_;cases h:ow l with
  |nil=>exact ak (by simp) (Ev.now _)
  |cons x r=>
   refine aH (by first|(simp;done)|(simp;omega)) (ak (by first|(simp;done)|(simp;omega)) ?_);simp only[aq];exact Ev.now _
def jN (l:List S64) (m:Int):List S64×Bool:=if(kV l).2.2=true then addEntry l (kV l).1 (kV l).2.1 0 m else(l,false)
theorem AD (l:List S64) (m:Int) (hl:l.length≤1048576):Ev (fun k=>l9.f k l m) (jN l m):=by
  unfold l9.f jN;refine aQ (zD l (by omega)) ?_;by_cases h:(kV l).2.2=true
  · exact bE h<|ak h (Ev.bind (sS l _ _ _ _ hl) (Ev.now _))
  · exact bq h<|aH h (aQ (n4 l (by omega)) (Ev.now _))
theorem AG (l:List S64) (m:Int) (hl:l.length≤1048576):Ev (fun k=>mz.f k l m) (jN l m):=by
  unfold mz.f jN;refine Ev.bind (zE l (by omega)) ?_;by_cases h:(kV l).2.2=true
  · exact bE h<|ak h (Ev.bind (sT l _ _ _ _ hl) (Ev.now _))
  · exact bq h<|aH h (aQ (oo l (by omega)) (Ev.now _))
theorem AE (l:List S64) (m:Int):(jN l m).1.length≤l.length+1:=by
  unfold jN
  split
  · exact sQ _ _ _ _ _
  · simp
def jT (b:Bool):Int:=if b=true then 1 else 0
theorem oW (b:Bool):iq.f b=some (jT b):=by unfold iq.f jT;cases b<;>rfl
theorem oX (b:Bool):jP.f b=some (jT b):=by unfold jP.f jT;cases b<;>rfl
def dJ (p:List ag) (d:Int) (q:List Int) (a m:Int) (l:List S64) (n x y z:Int):List ag×Int×List Int×Int×Int×List S64×Int:=
  if dx p d q a m l=true∧fA n x y z=true then
    (if n=1 then((eU p d q a m l).1,(eU p d q a m l).2.1,(eU p d q a m l).2.2.1,(eU p d q a m l).2.2.2.1,(eU p d q a m l).2.2.2.2.1,(eU p d q a m l).2.2.2.2.2.1,jT (eU p d q a m l).2.2.2.2.2.2)
    else if n=2 then((eV p d q a m l x).1,(eV p d q a m l x).2.1,(eV p d q a m l x).2.2.1,(eV p d q a m l x).2.2.2.1,(eV p d q a m l x).2.2.2.2.1,(eV p d q a m l x).2.2.2.2.2.1,jT (eV p d q a m l x).2.2.2.2.2.2)
    else if n=3 then((eQ p d q a m l x y z).1,(eQ p d q a m l x y z).2.1,(eQ p d q a m l x y z).2.2.1,(eQ p d q a m l x y z).2.2.2.1,(eQ p d q a m l x y z).2.2.2.2.1,(eQ p d q a m l x y z).2.2.2.2.2.1,jT (eQ p d q a m l x y z).2.2.2.2.2.2)
    else if n=4 then((eT p d q a m l x y).1,(eT p d q a m l x y).2.1,(eT p d q a m l x y).2.2.1,(eT p d q a m l x y).2.2.2.1,(eT p d q a m l x y).2.2.2.2.1,(eT p d q a m l x y).2.2.2.2.2.1,jT (eT p d q a m l x y).2.2.2.2.2.2)
    else if n=5 then(p,d,q,a,m,(jN l m).1,jT (jN l m).2)
    else if n=6 then(p,d,q,a,m,l,nB p d q a m l)
    else(p,d,q,a,m,l,iI p d q a m l x))
  else(p,d,q,a,m,l,-1)
section
variable (p:List ag) (d:Int) (q:List Int) (a m:Int) (l:List S64) (n x y z:Int) (hp:p.length≤4000000) (hq:q.length≤4000000) (hl:l.length≤1048576)
include hp hq hl
theorem xY:Ev (fun k=>bu.f k p d q a m l n x y z) (dJ p d q a m l n x y z):=by
  have E:=lA p d q a m l hp hq (by omega);have O:=kn p d q a m l (by omega);have D:=xl n x y z;have T:=BL p d q a m l hp hq hl;have W:=BN p d q a m l x hp hq hl;have F:=Bk p d q a m l x y z hp hq hl;have K:=Bv p d q a m l x y hp hq hl;have R:=AD l m hl;have L:=zb p d q a m l (by omega);have H:=yB p d q a m l x (by omega);have u:Ev (fun k=>bu.j0 k true p d q a m l n x y z) (p,d,q,a,m,l,-1):=Ev.step (fun k=>by rw[bu.j0]) (ak rfl (aQ E (Ev.now _)));unfold bu.f dJ;refine Ev.bind O ?_;by_cases h0:dx p d q a m l=true;rotate_left
  · exact bq (fun hh=>h0 hh.1) (aH h0 u)
  refine ak h0 (Ev.bind D ?_);by_cases h1:fA n x y z=true;rotate_left
  · exact bq (fun hh=>h1 hh.2) (by rw[show(!fA n x y z)=true by simp[h1]];exact u)
  refine bE ⟨h0,h1⟩ ?_;rw[show(!fA n x y z)=false by simp[h1]];refine Ev.step (fun k=>by rw[bu.j0]) (aH (by decide) ?_);by_cases c1:n=1
  · exact bE c1 (ak c1 (Ev.bind T (aQ (oW _) (Ev.now _))))
  refine bq c1 (aH c1 ?_);by_cases c2:n=2
  · exact bE c2 (ak c2 (Ev.bind W (aQ (oW _) (Ev.now _))))
  refine bq c2 (aH c2 ?_);by_cases c3:n=3
  · exact bE c3 (ak c3 (Ev.bind F (aQ (oW _) (Ev.now _))))
  refine bq c3 (aH c3 ?_);by_cases c4:n=4
  · exact bE c4 (ak c4 (Ev.bind K (aQ (oW _) (Ev.now _))))
  refine bq c4 (aH c4 ?_);by_cases c5:n=5
  · exact bE c5 (ak c5 (aQ E (Ev.bind R (aQ (oW _) (Ev.now _)))))
  refine bq c5 (aH c5 ?_);by_cases c6:n=6
  · exact bE c6 (ak c6 (aQ E (Ev.bind L (Ev.now _))))
  exact bq c6 (aH c6 (aQ E (Ev.bind H (Ev.now _))))
theorem x_:Ev (fun k=>cw.f k p d q a m l n x y z) (dJ p d q a m l n x y z):=by
  have E:=kS p d q a m l hp hq (by omega);have O:=ko p d q a m l (by omega);have D:=xn n x y z;have T:=vA p d q a m l hp hq hl;have W:=vD p d q a m l x hp hq hl;have F:=vq p d q a m l x y z hp hq hl;have K:=vt p d q a m l x y hp hq hl;have R:=AG l m hl;have L:=ze p d q a m l (by omega);have H:=yC p d q a m l x (by omega);have u:Ev (fun k=>cw.j0 k true p d q a m l n x y z p d q a m l) (p,d,q,a,m,l,-1):=Ev.step (fun k=>by rw[cw.j0]) (ak rfl (Ev.now _));unfold cw.f dJ;refine aQ E (Ev.bind O ?_);by_cases h0:dx p d q a m l=true;rotate_left
  · exact bq (fun hh=>h0 hh.1) (aH h0 u)
  refine ak h0 (Ev.bind D ?_);by_cases h1:fA n x y z=true;rotate_left
  · exact bq (fun hh=>h1 hh.2) (by rw[show(!fA n x y z)=true by simp[h1]];exact u)
  refine bE ⟨h0,h1⟩ ?_;rw[show(!fA n x y z)=false by simp[h1]];refine Ev.step (fun k=>by rw[cw.j0]) (aH (by decide) ?_);by_cases c1:n=1
  · exact bE c1 (ak c1 (Ev.bind T (aQ (oX _) (Ev.now _))))
  refine bq c1 (aH c1 ?_);by_cases c2:n=2
  · exact bE c2 (ak c2 (Ev.bind W (aQ (oX _) (Ev.now _))))
  refine bq c2 (aH c2 ?_);by_cases c3:n=3
  · exact bE c3 (ak c3 (Ev.bind F (aQ (oX _) (Ev.now _))))
  refine bq c3 (aH c3 ?_);by_cases c4:n=4
  · exact bE c4 (ak c4 (Ev.bind K (aQ (oX _) (Ev.now _))))
  refine bq c4 (aH c4 ?_);by_cases c5:n=5
  · exact bE c5 (ak c5 (Ev.bind R (aQ (oX _) (Ev.now _))))
  refine bq c5 (aH c5 ?_);by_cases c6:n=6
  · exact bE c6 (ak c6 (Ev.bind L (Ev.now _)))
  refine bq c6 (aH c6 ?_);have c7:n=7:=by have:=xm h1;omega
  exact ak c7 (Ev.bind H (Ev.now _))
end
theorem rh (p:List ag) (d:Int) (q:List Int) (a m:Int) (l:List S64) (n x y z:Int):(dJ p d q a m l n x y z).1=p∧(dJ p d q a m l n x y z).2.2.1.length=q.length∧(dJ p d q a m l n x y z).2.2.2.2.2.1.length≤l.length+1:=by
  have t:=Bo p d q a m l;have w:=Bp p d q a m l x;have f:=Bl p d q a m l x y z;have k:=Bn p d q a m l x y;have r:=AE l m;unfold dJ
  split
  · split
    · exact⟨t.1,t.2.1,by dsimp only;rw[t.2.2];omega⟩
    split
    · exact⟨w.1,by dsimp only;rw[w.2.1],by dsimp only;rw[w.2.2];omega⟩
    split
    · exact⟨f.1,by dsimp only;rw[f.2.1],f.2.2⟩
    split
    · exact⟨k.1,k.2.1,by dsimp only;rw[k.2.2];omega⟩
    split
    · exact⟨rfl,rfl,r⟩
    split
    · exact⟨rfl,rfl,by dsimp only;omega⟩
    · exact⟨rfl,rfl,by dsimp only;omega⟩
  · exact⟨rfl,rfl,by dsimp only;omega⟩
def cg:List cd→List ag→Int→List Int→Int→Int→List S64→List Int→List ag×Int×List Int×Int×Int×List S64×List Int
  |[],p,d,q,a,m,l,r=>(p,d,q,a,m,l,r)
  |x::xs,p,d,q,a,m,l,r=>cg xs (dJ p d q a m l x.f0 x.f1 x.f2 x.f3).1 (dJ p d q a m l x.f0 x.f1 x.f2 x.f3).2.1 (dJ p d q a m l x.f0 x.f1 x.f2 x.f3).2.2.1 (dJ p d q a m l x.f0 x.f1 x.f2 x.f3).2.2.2.1 (dJ p d q a m l x.f0 x.f1 x.f2 x.f3).2.2.2.2.1 (dJ p d q a m l x.f0 x.f1 x.f2 x.f3).2.2.2.2.2.1 (r++[(dJ p d q a m l x.f0 x.f1 x.f2 x.f3).2.2.2.2.2.2])
def dr (p:List ag) (d:Int) (q:List Int) (a m:Int) (l:List S64) (xs:List cd):List ag×Int×List Int×Int×Int×List S64×List Int:=
  if dx p d q a m l=true∧xs.length≤40 then cg xs p d q a m l []else(p,d,q,a,m,l,[])
theorem rO:∀(xs:List cd) (p:List ag) (d:Int) (q:List Int) (a m:Int) (l:List S64) (r:List Int),
    (cg xs p d q a m l r).1=p∧(cg xs p d q a m l r).2.2.1.length=q.length∧(cg xs p d q a m l r).2.2.2.2.2.1.length≤l.length+xs.length∧(cg xs p d q a m l r).2.2.2.2.2.2.length=r.length+xs.length
  |[],p,d,q,a,m,l,r=>⟨rfl,rfl,Nat.le_refl _,rfl⟩
  |x::xs,p,d,q,a,m,l,r=>by
   obtain⟨h1,h2,h3⟩:=rh p d q a m l x.f0 x.f1 x.f2 x.f3;unfold cg;generalize dJ p d q a m l x.f0 x.f1 x.f2 x.f3=R at*;obtain⟨g1,g2,g3,g4⟩:=rO xs R.1 R.2.1 R.2.2.1 R.2.2.2.1 R.2.2.2.2.1 R.2.2.2.2.2.1 (r++[R.2.2.2.2.2.2]);refine⟨g1.trans h1,g2.trans h2,?_,?_⟩
   · simp only[List.length_cons];omega
   · rw[g4];simp;omega
theorem rQ (p:List ag) (d:Int) (q:List Int) (a m:Int) (l:List S64) (xs:List cd):
    (dr p d q a m l xs).1=p∧(dr p d q a m l xs).2.2.1.length=q.length∧(dr p d q a m l xs).2.2.2.2.2.1.length≤l.length+40∧(dr p d q a m l xs).2.2.2.2.2.2.length≤40:=by
  unfold dr
  split
  · rename_i h
    obtain⟨g1,g2,g3,g4⟩:=rO xs p d q a m l [];exact⟨g1,g2,by omega,by rw[g4];simp;exact h.2⟩
  · exact⟨rfl,rfl,by dsimp only;omega,by simp⟩
theorem tZ {l:List S64} (h:cO l=true):l.length≤30:=by
  unfold cO at h;simp only[Bool.and_eq_true,decide_eq_true_eq]at h;exact h.2
section
variable (xs:List cd) (hx:xs.length≤40)
include hx
theorem Bc:∀i,i≤xs.length→∀(p:List ag) (d:Int) (q:List Int) (a m:Int) (l:List S64) (r:List Int),p.length≤4000000→q.length≤4000000→l.length≤30+i→r.length=i→
    Ev (fun k=>dw.l0 k r xs (xs.length:Int) (i:Int) p d q a m l) (cg (xs.drop i) p d q a m l r):=by
  refine down (n:=xs.length) ?_ ?_
  · intro p d q a m l r hp hq hl hr;refine Ev.step (fun k=>by rw[dw.l0]) (aH (by omega) (evs ?_));rw[kM];rfl
  · intro i hi ih p d q a m l r hp hq hl hr;refine Ev.step (fun k=>by rw[dw.l0]) (ak (by omega) (ak (by omega) (ak (by omega) ?_)));rw[uR xs i hi,drop_cons xs i hi];obtain⟨h1,h2,h3⟩:=rh p d q a m l xs[i].f0 xs[i].f1 xs[i].f2 xs[i].f3;refine Ev.bind (xY p d q a m l xs[i].f0 xs[i].f1 xs[i].f2 xs[i].f3 hp hq (by omega)) (ak (by omega) ?_);rw[bU (n:=(i:Int)+1) (by omega) (by omega)];unfold cg;exact ih _ _ _ _ _ _ _ (by rw[h1];exact hp) (by rw[h2];exact hq) (by omega) (by simp;omega)
theorem Be:∀i,i≤xs.length→∀(p:List ag) (d:Int) (q:List Int) (a m:Int) (l:List S64) (r:List Int),p.length≤4000000→q.length≤4000000→l.length≤30+i→r.length=i→
    Ev (fun k=>cB.l0 k xs r (i:Int) p d q a m l) (cg (xs.drop i) p d q a m l r):=by
  refine down (n:=xs.length) ?_ ?_
  · intro p d q a m l r hp hq hl hr;refine Ev.step (fun k=>by rw[cB.l0]) (aH (by omega) (evs ?_));rw[kM];rfl
  · intro i hi ih p d q a m l r hp hq hl hr;refine Ev.step (fun k=>by rw[cB.l0]) (ak (by omega) (ak (by omega) ?_));rw[uR xs i hi,drop_cons xs i hi];obtain⟨h1,h2,h3⟩:=rh p d q a m l xs[i].f0 xs[i].f1 xs[i].f2 xs[i].f3;refine Ev.bind (x_ p d q a m l xs[i].f0 xs[i].f1 xs[i].f2 xs[i].f3 hp hq (by omega)) (ak (by omega) ?_);rw[bU (n:=(i:Int)+1) (by omega) (by omega)];unfold cg;exact ih _ _ _ _ _ _ _ (by rw[h1];exact hp) (by rw[h2];exact hq) (by omega) (by simp;omega)
end
section
variable (p:List ag) (d:Int) (q:List Int) (a m:Int) (l:List S64) (xs:List cd) (hp:p.length≤4000000) (hq:q.length≤4000000) (hl:l.length≤1048576)
include hp hq hl
theorem rP:Ev (fun k=>dw.f k p d q a m l xs) (dr p d q a m l xs):=by
  have u:Ev (fun k=>dw.j0 k xs true p d q a m l) (p,d,q,a,m,l,[]):=Ev.step (fun k=>by rw[dw.j0]) (ak rfl (Ev.now _));unfold dw.f dr;refine aQ (lA p d q a m l hp hq (by omega)) (Ev.bind (kn p d q a m l (by omega)) ?_);by_cases h0:dx p d q a m l=true;rotate_left
  · exact bq (fun hh=>h0 hh.1) (aH h0 u)
  refine ak h0 ?_;by_cases h1:xs.length≤40;rotate_left
  · exact bq (fun hh=>h1 hh.2) (by rw[show decide ((xs.length:Int)>40)=true from ah (by omega)];exact u)
  refine bE ⟨h0,h1⟩ ?_;rw[show decide ((xs.length:Int)>40)=false from ax (by omega)];have key:=Bc xs h1 0 (Nat.zero_le _) p d q a m l [] hp hq (tZ (iM.1 h0).2.1) rfl;refine Ev.step (fun k=>by rw[dw.j0]) (aH (by decide) ?_);exact key
theorem AX:Ev (fun k=>cB.f k p d q a m l xs) (dr p d q a m l xs):=by
  have u:Ev (fun k=>cB.j0 k xs [] true p d q a m l) (p,d,q,a,m,l,[]):=Ev.step (fun k=>by rw[cB.j0]) (ak rfl (Ev.now _));unfold cB.f dr;refine aQ (kS p d q a m l hp hq (by omega)) (aQ rfl (Ev.bind (ko p d q a m l (by omega)) ?_));by_cases h0:dx p d q a m l=true;rotate_left
  · exact bq (fun hh=>h0 hh.1) (aH h0 u)
  refine ak h0 ?_;by_cases h1:xs.length≤40;rotate_left
  · exact bq (fun hh=>h1 hh.2) (by rw[show decide ((xs.length:Int)>40)=true from ah (by omega)];exact u)
  refine bE ⟨h0,h1⟩ ?_;rw[show decide ((xs.length:Int)>40)=false from ax (by omega)];have key:=Be xs h1 0 (Nat.zero_le _) p d q a m l [] hp hq (tZ (iM.1 h0).2.1) rfl;refine Ev.step (fun k=>by rw[cB.j0]) (aH (by decide) ?_);exact key
end
section
variable {p:List ag} {d:Int} {q:List Int} {a m:Int} {l:List S64} {c:Nat}
theorem cX.AH (h:cX p d q a m l c):cX p d q a m (jN l m).1 (c+1):=by
  unfold jN
  split
  · unfold addEntry
    split
    · rename_i h2
      exact⟨h.plan,h.work,by have:=h.lo;omega,by have:=h.hi;omega,h2.2,.inr (by simp[List.getD_eq_getElem?_getD,mX]),h.mI,by have:=h.lG;omega,by have:=h.few;simp;omega⟩
    · exact h.step
  · exact h.step
theorem cX.xq (h:cX p d q a m l c) (hc:c≤45) {x:cd} (g:kE x):
    cX (dJ p d q a m l x.f0 x.f1 x.f2 x.f3).1 (dJ p d q a m l x.f0 x.f1 x.f2 x.f3).2.1 (dJ p d q a m l x.f0 x.f1 x.f2 x.f3).2.2.1 (dJ p d q a m l x.f0 x.f1 x.f2 x.f3).2.2.2.1 (dJ p d q a m l x.f0 x.f1 x.f2 x.f3).2.2.2.2.1 (dJ p d q a m l x.f0 x.f1 x.f2 x.f3).2.2.2.2.2.1 (c+1):=by
  unfold dJ;rw[ai ⟨h.ok hc,g.ok⟩]
  split
  · exact h.vG hc
  split
  · exact h.vR x.f1
  split
  · exact h.tA x.f1 x.f2 x.f3
  split
  · exact h.jL x.f1 x.f2 g.small.2.1
  split
  · exact h.AH
  split
  · exact h.step
  · exact h.step
theorem u6:∀(xs:List cd) (p:List ag) (d:Int) (q:List Int) (a m:Int) (l:List S64) (r:List Int) (c:Nat),cX p d q a m l c→c+xs.length≤45→(∀x∈xs,kE x)→
    cX (cg xs p d q a m l r).1 (cg xs p d q a m l r).2.1 (cg xs p d q a m l r).2.2.1 (cg xs p d q a m l r).2.2.2.1 (cg xs p d q a m l r).2.2.2.2.1 (cg xs p d q a m l r).2.2.2.2.2.1 45
  |[],p,d,q,a,m,l,r,c,h,hc,_=>h.more (by simp at hc;omega)
  |x::xs,p,d,q,a,m,l,r,c,h,hc,hx=>by
   unfold cg;simp only[List.length_cons]at hc;exact u6 xs _ _ _ _ _ _ _ (c+1) (h.xq (by omega) (hx x List.mem_cons_self)) (by omega) (fun y hy=>hx y (List.mem_cons_of_mem _ hy))
theorem u_ (g:cX p d q a m l 20) {xs:List cd} (hl:xs.length≤25) (hx:∀x∈xs,kE x):
    cX (dr p d q a m l xs).1 (dr p d q a m l xs).2.1 (dr p d q a m l xs).2.2.1 (dr p d q a m l xs).2.2.2.1 (dr p d q a m l xs).2.2.2.2.1 (dr p d q a m l xs).2.2.2.2.2.1 45∧(dr p d q a m l xs).2.2.2.2.2.2.length=xs.length:=by
  unfold dr;rw[ai ⟨g.ok (by omega),by omega⟩];exact⟨u6 xs _ _ _ _ _ _ _ 20 g (by omega) hx,by rw[(rO xs _ _ _ _ _ _ _).2.2.2];simp⟩
end
theorem rN:∀(xs:List cd) (p:List ag) (d:Int) (q:List Int) (a m:Int) (l:List S64) (r:List Int),
    cg xs p d q a m l r=((cg xs p d q a m l []).1,(cg xs p d q a m l []).2.1,(cg xs p d q a m l []).2.2.1,(cg xs p d q a m l []).2.2.2.1,(cg xs p d q a m l []).2.2.2.2.1,(cg xs p d q a m l []).2.2.2.2.2.1,r++(cg xs p d q a m l []).2.2.2.2.2.2)
  |[],p,d,q,a,m,l,r=>by simp[cg]
  |x::xs,p,d,q,a,m,l,r=>by
   unfold cg;rw[rN xs _ _ _ _ _ _ (r++[_]),rN xs _ _ _ _ _ _ ([]++[_])];simp
theorem uZ:∀(xs ys:List cd) (p:List ag) (d:Int) (q:List Int) (a m:Int) (l:List S64) (r:List Int),
    cg (xs++ys) p d q a m l r=cg ys (cg xs p d q a m l r).1 (cg xs p d q a m l r).2.1 (cg xs p d q a m l r).2.2.1 (cg xs p d q a m l r).2.2.2.1 (cg xs p d q a m l r).2.2.2.2.1 (cg xs p d q a m l r).2.2.2.2.2.1 (cg xs p d q a m l r).2.2.2.2.2.2
  |[],ys,p,d,q,a,m,l,r=>by simp[cg]
  |x::xs,ys,p,d,q,a,m,l,r=>by
   simp only[List.cons_append];rw[cg,uZ xs ys,cg]
section
variable {p:List ag} {d:Int} {q:List Int} {a m:Int} {l:List S64}
theorem Bd (g:cX p d q a m l 20) {xs:List cd} (hl:xs.length≤25) (hx:∀x∈xs,kE x) (k:Nat):
    dr p d q a m l xs=(let Y:=dr p d q a m l (xs.take k);let Z:=dr Y.1 Y.2.1 Y.2.2.1 Y.2.2.2.1 Y.2.2.2.2.1 Y.2.2.2.2.2.1 (xs.drop k);(Z.1,Z.2.1,Z.2.2.1,Z.2.2.2.1,Z.2.2.2.2.1,Z.2.2.2.2.2.1,Y.2.2.2.2.2.2++Z.2.2.2.2.2.2)):=by
  have hok:=g.ok (by omega);have ht:(xs.take k).length≤25:=by rw[List.length_take];omega
  have hd:(xs.drop k).length≤25:=by rw[List.length_drop];omega
  have F:=(u_ g ht (fun x h=>hx x (List.mem_of_mem_take h))).1;have G:=F.ok (by omega);dsimp only;generalize hY:dr p d q a m l (xs.take k)=Y at*;have u:dr p d q a m l xs=cg xs p d q a m l []:=by unfold dr;rw[ai ⟨hok,by omega⟩]
  have D:dr Y.1 Y.2.1 Y.2.2.1 Y.2.2.2.1 Y.2.2.2.2.1 Y.2.2.2.2.2.1 (xs.drop k)=cg (xs.drop k) Y.1 Y.2.1 Y.2.2.1 Y.2.2.2.1 Y.2.2.2.2.1 Y.2.2.2.2.2.1 []:=by unfold dr;rw[ai ⟨G,by omega⟩]
  have z:cg (xs.take k) p d q a m l []=Y:=by rw[←hY];unfold dr;rw[ai ⟨hok,by omega⟩]
  rw[u,D]
  conv=>lhs;rw[←List.take_append_drop k xs]
  rw[uZ,z,rN]
end
structure jU (d:Int) (q:List Int) (a m:Int) (l:List S64):Prop where
  d:b_ d
  q:∀n∈q,b_ n
  a:b_ a
  m:b_ m
  l:∀e∈l,kQ e
theorem qu (x:Int):b_ (wrap64 x):=by unfold b_ wrap64;omega
theorem sk:b_ 0:=by unfold b_;omega
theorem zP {x:Int} (h:b_ x):b_ (gJ x):=by
  unfold gJ
  split
  · exact h
  · exact sk
theorem vK (a k b:Int):b_ (ft a k b):=by
  unfold ft
  repeat' split
  all_goals first|exact sk|exact zP (qu _)
theorem rR {q:List Int} (h:∀n∈q,b_ n) (i:Nat) {v:Int} (hv:b_ v):∀n∈q.set i v,b_ n:=fun n hn=>by
  rcases List.mem_or_eq_of_mem_set hn with h1|rfl
  · exact h n h1
  · exact hv
theorem tY:∀(l:List S64) (p:Int),fg p l=true→∀e∈l,kQ e
  |[],_,_,e,he=>by simp at he
  |x::r,p,h,e,he=>by
   unfold fg at h;simp only[Bool.and_eq_true]at h;rcases List.mem_cons.1 he with rfl|he
   · have h1:=h.1;unfold lZ at h1;simp only[Bool.and_eq_true,decide_eq_true_eq]at h1;unfold kQ b_;omega
   · exact tY r _ h.2.2 e he
theorem t_ {l:List S64} (h:cO l=true):∀e∈l,kQ e:=by
  unfold cO at h;simp only[Bool.and_eq_true]at h;exact tY l 0 h.1
theorem sP {l:List S64} (h:∀e∈l,kQ e) (r n f m:Int):∀e∈(addEntry l r n f m).1,kQ e:=by
  unfold addEntry
  split
  · rename_i h2;exact t_ h2.2
  · exact h
theorem lO (b:Bool):b_ (jT b):=by unfold jT b_;split<;>omega
section
variable {p:List ag} {d:Int} {q:List Int} {a m:Int} {l:List S64}
theorem Cs (h:jU d q a m l):b_ (fO p d q).2.1∧∀n∈(fO p d q).2.2.1,b_ n:=by
  unfold fO
  split
  · rename_i hw
    have hd:=mJ hw;have hl:=k9 (lR hw)
    split
    · exact⟨h.d,h.q⟩
    split
    · exact⟨h.d,h.q⟩
    · exact⟨by unfold b_;dsimp only;omega,rR h.q _ (vK _ _ _)⟩
  · exact⟨h.d,h.q⟩
theorem zw (h:jU d q a m l):b_ (fS p d q).2.1∧∀n∈(fS p d q).2.2.1,b_ n:=by
  unfold fS
  split
  · exact⟨h.d,h.q⟩
  split
  · exact⟨h.d,h.q⟩
  · exact⟨h.d,rR h.q _ (vK _ _ _)⟩
theorem y4 (h:jU d q a m l) (c x:Int):b_ (fE p d q c x).2.1∧∀n∈(fE p d q c x).2.2.1,b_ n:=by
  unfold fE
  split
  · split
    · exact⟨h.d,rR h.q _ (qu _)⟩
    · exact⟨h.d,h.q⟩
  · exact⟨h.d,h.q⟩
theorem xZ (h:jU d q a m l) (n x y z:Int):
    jU (dJ p d q a m l n x y z).2.1 (dJ p d q a m l n x y z).2.2.1 (dJ p d q a m l n x y z).2.2.2.1 (dJ p d q a m l n x y z).2.2.2.2.1 (dJ p d q a m l n x y z).2.2.2.2.2.1∧b_ (dJ p d q a m l n x y z).2.2.2.2.2.2:=by
  have ws:=Cs (p:=p) h;have ms:=zw (p:=p) h;have kk:=y4 (p:=p) h x y;unfold dJ
  split
  · rename_i h0
    obtain⟨hs,ha⟩:=h0;obtain⟨_,_,hw,hm,_⟩:=iM.1 hs
    split
    · unfold eU;rw[ai hs];unfold iO
      split
      · exact⟨⟨ms.1,ms.2,h.a,h.m,h.l⟩,lO _⟩
      · exact⟨⟨ws.1,ws.2,h.a,h.m,h.l⟩,lO _⟩
    split
    · unfold eV
      split
      · rename_i h2
        dsimp only;exact⟨⟨h.d,h.q,by unfold b_;omega,by unfold b_;omega,h.l⟩,lO _⟩
      · dsimp only;exact⟨h,lO _⟩
    split
    · unfold eQ
      split
      · dsimp only;exact⟨⟨h.d,h.q,h.a,h.m,sP h.l _ _ _ _⟩,lO _⟩
      · dsimp only;exact⟨h,lO _⟩
    split
    · unfold eT;rw[ai hs];exact⟨⟨kk.1,kk.2,h.a,h.m,h.l⟩,lO _⟩
    split
    · refine⟨⟨h.d,h.q,h.a,h.m,?_⟩,lO _⟩;dsimp only;unfold jN
      split
      · exact sP h.l _ _ _ _
      · exact h.l
    split
    · refine⟨h,?_⟩;dsimp only;unfold nB;rw[ai hs];exact qu _
    · refine⟨h,?_⟩;dsimp only;unfold iI lQ
      repeat' split
      all_goals first|exact sk|exact qu _
  · exact⟨h,by unfold b_;dsimp only;omega⟩
end
theorem u7:∀(xs:List cd) (p:List ag) (d:Int) (q:List Int) (a m:Int) (l:List S64) (r:List Int),jU d q a m l→(∀n∈r,b_ n)→
    jU (cg xs p d q a m l r).2.1 (cg xs p d q a m l r).2.2.1 (cg xs p d q a m l r).2.2.2.1 (cg xs p d q a m l r).2.2.2.2.1 (cg xs p d q a m l r).2.2.2.2.2.1∧∀n∈(cg xs p d q a m l r).2.2.2.2.2.2,b_ n
  |[],p,d,q,a,m,l,r,h,hr=>⟨h,hr⟩
  |x::xs,p,d,q,a,m,l,r,h,hr=>by
   obtain⟨h1,h2⟩:=xZ (p:=p) h x.f0 x.f1 x.f2 x.f3;unfold cg;refine u7 xs _ _ _ _ _ _ _ h1 ?_;intro n hn;rcases List.mem_append.mp hn with hn|hn
   · exact hr n hn
   · rw[List.mem_singleton.mp hn];exact h2
theorem AW {p:List ag} {d:Int} {q:List Int} {a m:Int} {l:List S64} (h:jU d q a m l) (xs:List cd):
    jU (dr p d q a m l xs).2.1 (dr p d q a m l xs).2.2.1 (dr p d q a m l xs).2.2.2.1 (dr p d q a m l xs).2.2.2.2.1 (dr p d q a m l xs).2.2.2.2.2.1∧∀n∈(dr p d q a m l xs).2.2.2.2.2.2,b_ n:=by
  unfold dr
  split
  · exact u7 xs _ _ _ _ _ _ _ h (by simp)
  · exact⟨h,by simp⟩
theorem tO:∀(t:List Bool) (q:List Int),q.length≤t.length→gg t q=true→∀n∈q,b_ n
  |_,[],_,_,n,hn=>by simp at hn
  |[],_::_,h,_,_,_=>by simp at h
  |b::t,x::q,h,hk,n,hn=>by
   rw[gg,Bool.and_eq_true]at hk;rcases List.mem_cons.1 hn with rfl|hn
   · have h1:=hk.1;unfold b_
     split at h1<;>(have:=of_decide_eq_true h1;omega)
   · exact tO t q (by simpa using h) hk.2 n hn
theorem Ct {p:List ag} {d:Int} {q:List Int} (h:cp p d q=true):∀n∈q,b_ n:=by
  have hq:=lu h;unfold cp at h;simp only[Bool.and_eq_true]at h;exact tO _ q (by rw[qj,hq];decide) h.2.2.2
theorem Br {p:List ag} {d:Int} {q:List Int} {a m:Int} {l:List S64} (hok:dx p d q a m l=true):jU d q a m l:=by
  obtain⟨hw,u,D,z,_⟩:=iM.1 hok;have hd:=mJ hw;have hp:=k9 (lR hw);exact⟨by unfold b_;omega,Ct hw,by unfold b_;omega,by unfold b_;omega,t_ u⟩
end Q
namespace Pure
open Go.RowKit P Q WW.bc WW.bY
theorem wC (b:List Int) (h0:b.length≤9223372036854775807∧∀y∈b,tF y):∃k,dy.f k b=some true:=by
  refine Ev.rounds ?_;unfold dy.f;by_cases U:(b.length:Int)>1048576
  · exact aQ (a:=true) (by unfold ni.f;rw[ah U]) (ak rfl (Ev.now _))
  refine aQ (a:=false) (by unfold ni.f;rw[ax U]) (aH (by decide) ?_);have hb:b.length≤1048576:=by omega
  obtain⟨⟨p,d,q,a,m,l⟩,xs,D,g,hx1,hx2⟩:=yb b hb;have g:cX p d q a m l 20:=g;have aq:=g.len;have ao:=g.plan.1;have lf:=g.few;have hok:=g.ok (by omega);have hin:=Br hok;obtain⟨P,ad,P1,P2⟩:=Am b hb;have hP:P[0]'(by omega)∈P:=List.getElem_mem _;have hr:rd P 0=P[0]'(by omega):=oC P 0 (by omega);obtain⟨v0,v1⟩:=P2 _ hP;obtain⟨v,hv⟩:∃v,P[0]'(by omega)=v:=⟨_,rfl⟩;rw[hv]at v0 v1 hr;have w1:wrap64 ((xs.length:Int)+1)=(xs.length:Int)+1:=by unfold wrap64;omega
  have t0:0≤Int.tmod v ((xs.length:Int)+1):=Int.tmod_nonneg _ v0;have t1:Int.tmod v ((xs.length:Int)+1)<(xs.length:Int)+1:=Int.tmod_lt_of_pos _ (by omega);obtain⟨j,hj⟩:=Int.eq_ofNat_of_zero_le t0;have V:=Bd g hx1 hx2 j;obtain⟨K,af⟩:=u_ g (xs:=xs.take j) (by rw[List.length_take];omega) (fun x h=>hx2 x (List.mem_of_mem_take h));have X:=rP p d q a m l xs (by omega) (by omega) (by omega);have W:=AX p d q a m l xs (by omega) (by omega) (by omega);have Y:=rP p d q a m l (xs.take j) (by omega) (by omega) (by omega);have O:=AW (p:=p) hin xs;have J:=rQ p d q a m l xs;have ag:=rQ p d q a m l (xs.take j);dsimp only at V;generalize dr p d q a m l (xs.take j)=z at*;have ap:=K.plan.1;have ar:=K.len;have am:=K.few;have Z:=rP z.1 z.2.1 z.2.2.1 z.2.2.2.1 z.2.2.2.2.1 z.2.2.2.2.2.1 (xs.drop j) (by omega) (by omega) (by omega);have al:=rQ z.1 z.2.1 z.2.2.1 z.2.2.2.1 z.2.2.2.2.1 z.2.2.2.2.2.1 (xs.drop j);generalize dr z.1 z.2.1 z.2.2.1 z.2.2.2.1 z.2.2.2.2.1 z.2.2.2.2.2.1 (xs.drop j)=u at*;rw[V]at X W O J;dsimp only at X W O J;obtain⟨H,au⟩:=O;have F:=yt u.1 u.2.1 u.2.2.1 u.2.2.2.1 u.2.2.2.2.1 u.2.2.2.2.2.1 H.d H.q H.a H.m H.l (by rw[J.2.1];omega) (by omega);have G:=yu u.1 u.2.1 u.2.2.1 u.2.2.2.1 u.2.2.2.2.1 u.2.2.2.2.2.1 H.d H.q H.a H.m H.l (by rw[J.2.1];omega) (by omega)
  have hT:(mv u.1 u.2.1 u.2.2.1 u.2.2.2.1 u.2.2.2.2.1 u.2.2.2.2.2.1).length≤1048580:=by
    unfold mv
    split
    · simp[headText];omega
    · simp
  have T:=Bg (mv u.1 u.2.1 u.2.2.1 u.2.2.2.1 u.2.2.2.2.1 u.2.2.2.2.2.1) (by omega);have I:=Bf (z.2.2.2.2.2.2++u.2.2.2.2.2.2) (by rw[List.length_append];omega);refine Ev.bind D (Ev.bind ad (ak (by omega) ?_));dsimp only;rw[w1];refine aH (by omega) (Ev.bind X ?_);rw[hr,hj,Int.toNat_natCast];refine ak (by omega) (ak (by omega) (Ev.bind Y (Ev.bind Z (Ev.bind W (Ev.bind F (Ev.bind G (Ev.bind T (ak rfl (Ev.bind I (ak rfl (Ev.bind F (Ev.bind F (Ev.bind T (ak rfl ?_))))))))))))));refine aQ (a:=[]) rfl (ak (by simp;omega) (aQ (a:=z.2.2.2.2.2.2) (by simp) (ak (by omega) ?_)));exact Ev.bind I (Ev.now _)
end Pure
end Go.Proofs.YtnjfiaekdcekgaaGreatDoor
namespace Go.Proofs.YtnjfiaekdcekgaaGreatDoor.tB
open Go.ChangeShapes Go.WideShapes Go.ChangeAt Go.RowKit Go.Proofs.YtnjfiaekdcekgaaGreatDoor.P Go.Proofs.YtnjfiaekdcekgaaGreatDoor.Q Go.Proofs.YtnjfiaekdcekgaaGreatDoor.WW.bc
open Go.ChangeMaps (open_string shut_string)
theorem own:ownKnob Tryz.prog.godebug=none:=by kernel_rfl
theorem laidOut:laidOutB Tryz.prog=true:=by kernel_rfl
noncomputable def th (os:Os):World:=World.doorLaid Tryz.prog 400 os
def ot:List (String×DataW Unit):=[("math/bits.deBruijn32tab",Rows.laid_math_bits_deBruijn32tab),("math/bits.deBruijn64tab",Rows.laid_math_bits_deBruijn64tab),("internal/strconv.uint64pow10",Rows.laid_internal_strconv_uint64pow10)]
theorem ya (os:Os) (args:Array Value):laidMetH Tryz.prog ot ((th os).forCall (fun _ _=>0) ⟨#[],args,[]⟩).memory:=
  laidMetH_of_parts3 (fuel:=8) (laidMet_of_run' 8 (by kernel_rfl) (by kernel_rfl)) (by kernel_rfl) (by kernel_rfl)
theorem BU {W:World} (h:laidMetH Tryz.prog ot W):kJ W:=by
  rw[MakeChecks.laidMetH_plain _ _ _ (by kernel_rfl)]at h;exact Go.Lib.tabIs_of_head (g:=3) (by kernel_rfl) (by kernel_rfl) Tryz.underlying171 Tryz.underlying155 (by kernel_rfl) (by kernel_rfl) h.tail.tail
set_option maxRecDepth 100000 in
theorem lifted (os:Os) (started:os.Started) (H:Type) (enc:TypeId×Value→H):
    ReturnsInHanded {} Tryz.checked os 3 .any (fun w args=>(Rows.fnActPartsSpec.pre enc Tryz.prog Tryz.f3 [] false w args∧laidMetH Tryz.prog ot w)∧sizedMet enc Tryz.prog Tryz.f3 (OpenSpec.ofChange Rows.fnActPartsSpec) false w args) (Rows.fnActPartsSpec.post enc Tryz.prog Tryz.f3 false true false false):=by
  refine returnsInHanded_of_change_and (C:=Tryz.checked) (X:=fun w _=>laidMetH Tryz.prog ot w) (fun _ _ _ hh h=>h.of_heap hh) own started (by kernel_rfl) Tryz.func3
    (ChangeSpec.witness_shaped (enc:=enc) (C:=Tryz.checked) (os:=os) (X:=fun w _=>laidMetH Tryz.prog ot w) false (th os) #[.slice none 0 0] 8 rfl (World.shaped_of_RefB (by kernel_rfl) (by kernel_rfl)) (by kernel_rfl) (by kernel_rfl) (by kernel_rfl) (ya os _)) ?_
  intro W base args ds gs before O hW hcnd ak hL _;have htab:=BU hL;have hval:∀(j:Nat) t v,Tryz.f3.params[j]? =some t→args[j]? =some v→Value.okWide Tryz.prog W .any base t v:=O;have J:=hW;obtain⟨p,q,I,hV,rfl,hfz,hnd⟩:=hW;have hA:DataW.TrodAll enc Tryz.prog W 0 (fun _=>true) true Tryz.f3.params.toList args.toList ds p:=I;rw[Tryz.params3]at hA hval;obtain⟨v0,am,d0,ag,p0,q0,hargs,rfl,rfl,h0,V⟩:=trodAll_cons hA;obtain⟨rfl,rfl,rfl⟩:=trodAll_nil V;obtain rfl:args= #[v0]:=by cases args;simp_all
  obtain⟨rfl,rfl⟩:=trodVars_none hV;have k0:=h0;have U:∀x∈p0,x.block<W.heap.size:=by obtain⟨m,hm⟩:=k0;exact DataW.trod_lt m _ _ _ hm
  obtain⟨G,f0⟩:=h0;obtain⟨x0,D,z⟩:=(show gw Tryz.prog W (Kd.slice 5 (Kd.int .u8)) 22 _ from gw.slice 0 Tryz.underlying22 (by kernel_rfl) zK) H enc 0 _ _ G _ _ f0;obtain⟨al,af,ad,rfl⟩:∃l c a,v0= .slice a l c:=by obtain⟨a,l,c,e⟩:=okWide_slice Tryz.underlying22 (hval 0 22 v0 rfl rfl);exact⟨l,c,a,e⟩
  obtain⟨A0,c0,e0,hc0,K⟩:=D;simp[Value.cells]at e0;obtain⟨rfl,rfl,rfl⟩:=e0;obtain⟨k,hP⟩:=Pure.wC x0 z;refine(P.dy.c k _ _ x0 true W K hc0 hP ⟨rfl⟩ ⟨htab⟩).mono fun e W' ⟨he,F⟩=> ?_;have u:Below W.heap.size W W':=F;subst he;exact⟨_,rfl,_,_,_,[],_,[],J,trodAll_mk1 (shut_bool Tryz.underlying4 _),(trodAll_cons_mk (Below.trod laidOut (by kernel_rfl) (of_decide_eq_true (by kernel_rfl)) k0 u U) trodAll_mk0),rfl,u.frame _,fun h=>by cases h⟩
theorem over:Rows.fnActPartsRow.holds Tryz.pinned (OpenSpec.ofChange Rows.fnActPartsSpec):=
  OpenClaim.holds_of_wide 3 Tryz.f3 rfl rfl rfl rfl rfl rfl rfl ⟨rfl,rfl,rfl,rfl,rfl⟩ rfl rfl rfl rfl rfl (by kernel_rfl) Tryz.func3 (by kernel_rfl)
    (of_decide_eq_true (by kernel_rfl)) (by unfold Func.isWrapper;first|(rw[ai (by decide+kernel)];kernel_rfl)|(rw[aj (by decide+kernel)];exact⟨rfl,rfl⟩))
    (fun os started H enc _=>lifted os started H enc)
theorem proved:Rows.FnActPartsCardSaid:=
  Claim7.holds_tied_plain_at .later [] [.data,.data,.data] true (true,"4050f4a83c7a486e796be1258334ad9bcb4c2ca5d9b2abe12ef7f224548e6b1f") true
    over (fun _ h=>by cases h) (by kernel_rfl) (fun _ h=>by cases h) fnActParts_row_tie rfl ⟨rfl,rfl⟩ (by kernel_rfl) rfl
    (fun f fn hf hfn=>by
      obtain rfl:f=3:=aA ((show Tryz.prog.funcNamed "loop.example/g00989/laws.FnActParts" =some 3 by kernel_rfl).symm.trans hf) |>.symm;obtain rfl:fn=Tryz.f3:=(aA (Tryz.func3.symm.trans hfn)).symm
      exact⟨by kernel_rfl,fun j t ht=>by
        rw[Tryz.params3]at ht;have hm:t∈([22]:List Nat):=(by simpa using Array.mem_of_getElem? ht);have hall:(([22]:List Nat).all fun u=> !Tryz.prog.wantsStandIn u)=true:=(by kernel_rfl);exact(show Tryz.prog.wantsStandIn t=false by simpa using List.all_eq_true.1 hall t hm)⟩)
    (by kernel_rfl)
#print axioms proved
end Go.Proofs.YtnjfiaekdcekgaaGreatDoor.tB
namespace Go.Proofs.YtnjfiaekdcekgaaGreatDoor
theorem fnActParts_holds:Rows.FnActPartsCardSaid:=tB.proved
end Go.Proofs.YtnjfiaekdcekgaaGreatDoor
