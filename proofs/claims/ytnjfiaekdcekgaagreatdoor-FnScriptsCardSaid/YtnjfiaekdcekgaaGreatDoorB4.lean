/- What functions of the program come to (f), that their calls come to just this (calls), and the plain laws over lists and numbers. No condition but those of the given row. -/
import Derived.Test.YtnjfiaekdcekgaaGreatDoorB3
import Derived.Deep.RegionHeld3
import Derived.Shelf.GgSortFunc.Insertion
set_option linter.unusedVariables false
set_option linter.unusedSimpArgs false
namespace Go.Proofs.YtnjfiaekdcekgaaGreatDoor.P
set_option maxHeartbeats 8000000
set_option maxRecDepth 100000
set_option synthInstance.maxHeartbeats 400000
set_option synthInstance.maxSize 100000
open Go.RowKit Go.Proofs.YtnjfiaekdcekgaaGreatDoorW.bS Go.Proofs.YtnjfiaekdcekgaaGreatDoorW.dU Go.Proofs.YtnjfiaekdcekgaaGreatDoorW.dX Go.Proofs.YtnjfiaekdcekgaaGreatDoor.V
attribute [local go_sem] fV fW
attribute [local go_sem] fE fI fH fL fG fK fF fJ
def wK.f (k:Nat) (ak:List (ar)) (ax:Int) (aq:List Int) (aN:Int) (a0_4:Int) (aD:List (S64)) (a1:Int) (a2:Int):Option ((List (ar))×Int×List Int×Int×Int×(List (S64))×Bool):=(nI.f ak ax aq aN a0_4 aD).bind fun tY=>((cm.f k ak ax aq aN a0_4 aD).bind fun ajm=>(if ajm=true then((iU.f k ak ax aq a1 a2).bind fun Hb=>(some (Hb.1,Hb.2.1,Hb.2.2.1,tY.2.2.2.1,tY.2.2.2.2.1,tY.2.2.2.2.2,Hb.2.2.2)))else(some (tY.1,tY.2.1,tY.2.2.1,tY.2.2.2.1,tY.2.2.2.2.1,tY.2.2.2.2.2,false))))
theorem wK.calls (k:Nat) (aU:Option Addr) (c0_0:Nat) (ak:List (ar)) (ax:Int) (a6:Option Addr) (aW:Nat) (aq:List Int) (aN:Int) (a0_4:Int) (cy:Option Addr) (cu:Nat) (aD:List (S64)) (a1:Int) (a2:Int) (r1:List (ar)) (r2:Int) (r3:List Int) (r4:Int) (r5:Int) (r6:List (S64)) (r7:Bool) (w:World) (cp:Kd.C bl w aU ak.length ak) (cx:ak.length≤c0_0) (cv:Kd.C (Kd.int .i64) w a6 aq.length aq) (cA:aq.length≤aW) (dW:Kd.C k64 w cy aD.length aD) (eC:aD.length≤cu) (h:wK.f k ak ax aq aN a0_4 aD a1 a2=some (r1,r2,r3,r4,r5,r6,r7)):
  Calls Tryz.prog 77 #[.agg #[.slice aU ak.length c0_0,.int .i64 ax,.slice a6 aq.length aW,.int .i64 aN,.int .i64 a0_4,.slice cy aD.length cu],.int .i64 a1,.int .i64 a2] w fun e w'=>∃v0_ cB dL:Value,e= .returned (.tuple #[.agg #[v0_,.int .i64 r2,cB,.int .i64 r4,.int .i64 r5,dL],.bool r7])∧Kd.R bl 110 w' w.heap.size (fun _=>True) v0_ r1∧Kd.R (Kd.int .i64) 3 w' w.heap.size (fun _=>True) cB r3∧Kd.R k64 64 w' w.heap.size (fun _=>True) dL r6∧Below w.heap.size w w':=by
 replace cp:=cg.mk cp;replace cx:=az.mk cx;replace cv:=cg.mk cv;replace cA:=az.mk cA;replace dW:=cg.mk dW;replace eC:=az.mk eC;unfold wK.f at h;have lR:=Tryz.underlying27;have kp:=Tryz.underlying30
 (repeat' first|((with_reducible replace h:=cG h);rcases h with ⟨hc,h⟩|⟨hc,h⟩<;>first|exact(none_some h).elim|exact absurd hc (by decide)|subst hc|(replace hc:=br hc;subst hc)|(have hd:=hI_ hc;have he:=cD hc;clear hc)|(have hd:=cE hc;have he:=hL_ hc)|(have hd:=decide_eq_false hc)|(have hd:=decide_eq_true hc)|skip))
 all_goals go_enter Tryz.func77,Tryz.ntmps77
 all_goals go_wp2_with ((first
  |((with_reducible refine gate_dst (N:=3) rfl ?_);refine bV #[.slice aU ak.length c0_0,.int .i64 ax,.slice a6 aq.length aW,.int .i64 aN,.int .i64 a0_4,.slice cy aD.length cu] 30 fun g w1 j1 j2 j3=> ?_)
  |((with_reducible refine gate_dst (N:=6) rfl ?_);refine bV #[.slice none 0 0,.int .i64 0,.slice none 0 0,.int .i64 0,.int .i64 0,.slice none 0 0] 30 fun g w1 j1 j2 j3=> ?_)
  |((with_reducible refine gate_dst (N:=8) rfl ?_);refine bV #[.slice none 0 0,.int .i64 0,.slice none 0 0,.int .i64 0,.int .i64 0,.slice none 0 0] 30 fun g w1 j1 j2 j3=> ?_)
  |((with_reducible refine gate_dst (N:=9) rfl ?_);refine bV #[.slice none 0 0,.int .i64 0,.slice none 0 0] 27 fun g w1 j1 j2 j3=> ?_)
  |(go_at_call 30;replace h:=bI h;obtain⟨⟨t1,t2,t3,t4,t5,t6⟩,A,h⟩:=h;(try dsimp only at h);refine(nI.calls _ _ _ _ _ _ _ _ _ _ _ _ _ _ _ _ _ _ _ Rd.out az.out Rd.out az.out Rd.out az.out A).mono ?_;rintro e w2 ⟨v0,v1,v2,rfl,ho0,aY,bB,hb⟩;obtain⟨B0,b0,rfl,j0,q0⟩:=aX ho0;obtain⟨B1,b1,rfl,j1,q1⟩:=aX aY;obtain⟨B2,b2,rfl,j2,q2⟩:=aX bB;have jb:=aK.mk hb;clear A ho0 aY bB hb)
  |(go_at_call 31;replace h:=bI h;obtain⟨t,A,h⟩:=h;(try dsimp only at h);refine(cm.calls _ _ _ _ _ _ _ _ _ _ _ _ _ _ _ Rd.out az.out Rd.out az.out Rd.out az.out A).mono ?_;rintro e w2 ⟨rfl,hb⟩;have jb:=aK.mk hb;clear A hb)
  |(go_at_call 116;replace h:=bI h;obtain⟨⟨t1,t2,t3,t4⟩,A,h⟩:=h;(try dsimp only at h);refine(iU.calls _ _ _ _ _ _ _ _ _ _ _ _ _ _ _ Rd.out az.out Rd.out az.out A).mono ?_;rintro e w2 ⟨v0,v1,rfl,ho0,aY,hb⟩;obtain⟨B0,b0,rfl,j0,q0⟩:=aX ho0;obtain⟨B1,b1,rfl,j1,q1⟩:=aX aY;have jb:=aK.mk hb;clear A ho0 aY hb));(repeat' first|((with_reducible replace h:=cG h);rcases h with ⟨hc,h⟩|⟨hc,h⟩<;>first|exact(none_some h).elim|exact absurd hc (by decide)|subst hc|(replace hc:=br hc;subst hc)|(have hd:=hI_ hc;have he:=cD hc;clear hc)|(have hd:=cE hc;have he:=hL_ hc)|(have hd:=decide_eq_false hc)|(have hd:=decide_eq_true hc)|skip)))
 all_goals simp only[Option.some.injEq,Prod.mk.injEq]at h
 all_goals obtain⟨rfl,rfl,rfl,rfl,rfl,rfl,rfl⟩:=h
 all_goals refine bodyPost_ret (results_ct rfl _ _ _ _ _ (0,0) _ rfl a7.out Tryz.underlying30 rfl (by kernel_rfl)) rfl ?_
 all_goals exact⟨_,_,_,rfl,(by first|exact cn|exact Kd.bM _ _ _ _ _),(by first|exact cn|exact Kd.bM _ _ _ _ _),(by first|exact cn|exact Kd.bM _ _ _ _ _),From.out⟩
end Go.Proofs.YtnjfiaekdcekgaaGreatDoor.P
namespace Go.Proofs.YtnjfiaekdcekgaaGreatDoor.P
set_option maxHeartbeats 8000000
set_option maxRecDepth 100000
set_option synthInstance.maxHeartbeats 400000
set_option synthInstance.maxSize 100000
open Go.RowKit Go.Proofs.YtnjfiaekdcekgaaGreatDoorW.bS Go.Proofs.YtnjfiaekdcekgaaGreatDoorW.dU Go.Proofs.YtnjfiaekdcekgaaGreatDoorW.dX Go.Proofs.YtnjfiaekdcekgaaGreatDoor.V
attribute [local go_sem] fV fW cellR_c sT sU uh uq
attribute [local go_sem] fE fI fH fL fG fK fF fJ
def dR.l0:Nat→Int→Int→List Int→Int→Int→List (ar)→Int→List Int→Int→Int→List (S64)→Option ((List (ar))×Int×List Int×Int×Int×(List (S64))×Int×Int)
 |0,_,_,_,_,_,_,_,_,_,_,_=>none
 |k+1,x5,x6,lK,x1001,x1002,Gg,Gh,Gi,Gj,Gk,Gl=>if x6<x5 then((eW.f lK x1001 x1002 8).bind fun rF=>(if rF.1=0 then((eW.f lK rF.2.1 rF.2.2 30).bind fun KS=>((wM.f k Gg Gh Gi Gj Gk Gl KS.1).bind fun Am=>(dR.l0 k x5 (wrap64 (x6+1)) lK KS.2.1 KS.2.2 Am.1 Am.2.1 Am.2.2.1 Am.2.2.2.1 Am.2.2.2.2.1 Am.2.2.2.2.2.1)))else(if rF.1=1 then((wN.f lK rF.2.1 rF.2.2).bind fun Hc=>((eW.f lK Hc.2.2.1 Hc.2.2.2 3).bind fun KT=>((wJ.f k Gg Gh Gi Gj Gk Gl Hc.1 Hc.2.1 KT.1).bind fun Ao=>(dR.l0 k x5 (wrap64 (x6+1)) lK KT.2.1 KT.2.2 Ao.1 Ao.2.1 Ao.2.2.1 Ao.2.2.2.1 Ao.2.2.2.2.1 Ao.2.2.2.2.2.1))))else(if rF.1=2 then((eW.f lK rF.2.1 rF.2.2 12).bind fun KU=>((eW.f lK KU.2.1 KU.2.2 2001).bind fun KV=>((wK.f k Gg Gh Gi Gj Gk Gl KU.1 (wrap64 (KV.1-1000))).bind fun Ap=>(dR.l0 k x5 (wrap64 (x6+1)) lK KV.2.1 KV.2.2 Ap.1 Ap.2.1 Ap.2.2.1 Ap.2.2.2.1 Ap.2.2.2.2.1 Ap.2.2.2.2.2.1))))else((wL.f k Gg Gh Gi Gj Gk Gl).bind fun Aq=>(dR.l0 k x5 (wrap64 (x6+1)) lK rF.2.1 rF.2.2 Aq.1 Aq.2.1 Aq.2.2.1 Aq.2.2.2.1 Aq.2.2.2.2.1 Aq.2.2.2.2.2.1))))))else(some (Gg,Gh,Gi,Gj,Gk,Gl,x1001,x1002))
def dR.f (k:Nat) (bw:List Int) (cJ:Int) (cO:Int):Option ((List (ar))×Int×List Int×Int×Int×(List (S64))×Int×Int):=(eW.f bw cJ cO 100000).bind fun KP=>((spec_l19Plan.f k bw KP.2.1 KP.2.2).bind fun KQ=>((tv.f k (wrap64 (200000+KP.1)) KQ.1).bind fun Al=>((eW.f bw KQ.2.1 KQ.2.2 20).bind fun KR=>(dR.l0 k KR.1 0 bw KR.2.1 KR.2.2 Al.1 Al.2.1 Al.2.2.1 Al.2.2.2.1 Al.2.2.2.2.1 Al.2.2.2.2.2.1))))
def dR.T9:Bool×List (List Nat×List Nat):=(true,[([],[]),([],[]),([1],[1]),([0,2,2],[0,2]),([3],[3]),([4],[4]),([4],[4]),([5,3,0,1,2,3,4,5],[5])])
def dR.B9:List Nat:=[0,0,2,7,15,31,31,63]
theorem dR.Jf:rtab .any (opsOf Tryz.f50 9)=dR.T9:=by kernel_rfl
theorem dR.bits9:eN dR.T9.2 dR.B9=true:=by kernel_rfl
def dR.Cn:Bool×List (List Nat×List Nat):=(true,[([],[]),([],[]),([],[]),([2],[2]),([0,1,3,3],[0,1,3]),([4],[4]),([5],[5]),([5],[5]),([6,4,0,1,2,3,4,5,6],[6])])
def dR.JL:List Nat:=[0,0,0,4,15,31,63,63,127]
theorem dR.Jc:rtab .any (opsOf Tryz.f50 12)=dR.Cn:=by kernel_rfl
theorem dR.bits12:eN dR.Cn.2 dR.JL=true:=by kernel_rfl
def dR.Co:Bool×List (List Nat×List Nat):=(true,[([],[]),([],[]),([],[]),([2],[2]),([3],[3]),([0,1,4,3],[0,1,4]),([5],[5]),([6],[6]),([6],[6]),([7,5,0,1,2,3,4,5,6,7],[7])])
def dR.JM:List Nat:=[0,0,0,4,12,31,63,127,127,255]
theorem dR.Jd:rtab .any (opsOf Tryz.f50 15)=dR.Co:=by kernel_rfl
theorem dR.bits15:eN dR.Co.2 dR.JM=true:=by kernel_rfl
theorem dR.calls (k:Nat) (g:Nat) (bw:List Int) (cJ:Int) (cO:Int) (r1:List (ar)) (r2:Int) (r3:List Int) (r4:Int) (r5:Int) (r6:List (S64)) (r7:Int) (r8:Int) (w0 w:World) (hI:bQ w0 w g bw cJ cO) (hB:Below w0.heap.size w0 w) (h:dR.f k bw cJ cO=some (r1,r2,r3,r4,r5,r6,r7,r8)):
  Calls Tryz.prog 50 #[.pointer (some ⟨g,0,none⟩)] w fun e w'=>∃v0_ cB dL:Value,e= .returned (.agg #[v0_,.int .i64 r2,cB,.int .i64 r4,.int .i64 r5,dL])∧Kd.R bl 110 w' w.heap.size (fun _=>True) v0_ r1∧Kd.R (Kd.int .i64) 3 w' w.heap.size (fun _=>True) cB r3∧Kd.R k64 64 w' w.heap.size (fun _=>True) dL r6∧bQ w0 w' g bw r7 r8∧Below w0.heap.size w0 w'∧KeepBut w w' g none:=by
 replace hI:=St.mk hI;have iS:Sz w0 w:=⟨hB.size⟩;replace hB:=From.mk hB;have Vh:=pq.mk (e:=30) (t:=82) (by decide);have agz:=pq.mk (e:=62) (t:=82) (by decide);have agC:=en.mk (d:=(Kd.int .i64)) (e:=3) (t:=30) (by decide);have aro:=en.mk (d:=(Kd.int .i64)) (e:=3) (t:=62) (by decide);have arp:=en.mk (d:=(Kd.int .i64)) (e:=3) (t:=82) (by decide);have IM:=en.mk (d:=bl) (e:=110) (t:=30) (by decide);have ark:=en.mk (d:=bl) (e:=110) (t:=62) (by decide);have arl:=en.mk (d:=bl) (e:=110) (t:=82) (by decide);have IP:=en.mk (d:=k64) (e:=64) (t:=30) (by decide);have art:=en.mk (d:=k64) (e:=64) (t:=62) (by decide);have aru:=en.mk (d:=k64) (e:=64) (t:=82) (by decide);unfold dR.f at h
 (try simp only[Option.bind_some]at h)
 have kp:=Tryz.underlying30;have yc:=Tryz.underlying62
 (repeat' first|((with_reducible replace h:=cG h);rcases h with ⟨hc,h⟩|⟨hc,h⟩<;>first|exact(none_some h).elim|exact absurd hc (by decide)|subst hc|(replace hc:=br hc;subst hc)|(replace hc:=ey hc;subst hc)|(replace hc:=hH_ hc;subst hc)|(have hd:(_==_)=true:=hc)|(have hd:(_==_)=false:=br hc)|(have hd:=hI_ hc;have he:=cD hc;clear hc)|(have hd:=cE hc;have he:=hL_ hc)|(have hd:=decide_eq_false hc)|(have hd:=decide_eq_true hc;(try(have hn:=Int.natCast_pos.mp hc;have hm:=decide_eq_true hn;replace hn:=eq_true hn));first|(obtain⟨g_,e_,i_⟩:=ew (by assumption) (by first|assumption|decide) hc;cases e_)|(obtain⟨a_,e_,c_⟩:=er (by assumption) (by first|assumption|decide) hc;cases e_))|(have hd:=decide_eq_true hc)|skip)|((with_reducible replace h:=eu h);obtain⟨hl_,h⟩:=h;replace hl_:=A_ hl_;(try dsimp only at h)))
 all_goals go_enter Tryz.func50,Tryz.ntmps50
 all_goals go_wp2_with ((first
  |((with_reducible refine gate_dst (N:=2) rfl ?_);refine bV #[.slice none 0 0,.int .i64 0,.slice none 0 0,.int .i64 0,.int .i64 0,.slice none 0 0] 30 fun g2 w1 j1 j2 j3=> ?_)
  |((with_reducible refine gate_dst (N:=3) rfl ?_);refine bV #[.slice none 0 0,.int .i64 0,.slice none 0 0,.int .i64 0,.int .i64 0,.slice none 0 0] 30 fun g3 w1 j1 j2 j3=> ?_)
  |((with_reducible refine gate_dst (N:=7) rfl ?_);refine bV #[.int .i64 0,.int .i64 0] 62 fun g7 w1 j1 j2 j3=> ?_)
  |(go_at_call 26;(try rw[hl_.out]);replace h:=bI h;obtain⟨⟨t1,t2,t3⟩,A,h⟩:=h;(try dsimp only at h);refine(eW.calls _ _ _ _ _ _ _ _ _ _ St.out From.out A).mono ?_;rintro e w2 ⟨rfl,hs,hb0,hk⟩;have js:=St.mk hs;have jf:=From.mk hb0;have jk:=Kb.mk hk;clear A hs hb0 hk)
  |(go_at_call 93;(try rw[hl_.out]);replace h:=bI h;obtain⟨⟨t1,t2,t3⟩,A,h⟩:=h;(try dsimp only at h);refine(spec_l19Plan.calls _ _ _ _ _ _ _ _ _ _ St.out From.out A).mono ?_;rintro e w2 ⟨v0,rfl,ho0,hs,hb0,hk⟩;obtain⟨B0,b0,rfl,j0,q0⟩:=aX ho0;have js:=St.mk hs;have jf:=From.mk hb0;have jk:=Kb.mk hk;clear A ho0 hs hb0 hk)
  |(go_at_call 91;(try rw[hl_.out]);replace h:=bI h;obtain⟨⟨t1,t2,t3,t4,t5,t6,t7⟩,A,h⟩:=h;(try dsimp only at h);refine(tv.calls _ _ _ _ _ _ _ _ _ _ _ _ _ Rd.out az.out A).mono ?_;rintro e w2 ⟨v0,v1,v2,rfl,ho0,aY,bB,hb⟩;obtain⟨B0,b0,rfl,j0,q0⟩:=aX ho0;obtain⟨B1,b1,rfl,j1,q1⟩:=aX aY;obtain⟨B2,b2,rfl,j2,q2⟩:=aX bB;have jb:=aK.mk hb;clear A ho0 aY bB hb)
  |(go_at_call 94;(try rw[hl_.out]);replace h:=bI h;obtain⟨⟨t1,t2,t3,t4⟩,A,h⟩:=h;(try dsimp only at h);refine(wN.calls _ _ _ _ _ _ _ _ _ _ St.out From.out A).mono ?_;rintro e w2 ⟨rfl,hs,hb0,hk⟩;have js:=St.mk hs;have jf:=From.mk hb0;have jk:=Kb.mk hk;clear A hs hb0 hk)
  |(go_at_call 74;(try rw[hl_.out]);replace h:=bI h;obtain⟨⟨t1,t2,t3,t4,t5,t6,t7⟩,A,h⟩:=h;(try dsimp only at h);refine(wL.calls _ _ _ _ _ _ _ _ _ _ _ _ _ _ _ _ _ _ _ _ _ Rd.out az.out Rd.out az.out Rd.out az.out A).mono ?_;rintro e w2 ⟨v0,v1,v2,rfl,ho0,aY,bB,hb⟩;obtain⟨B0,b0,rfl,j0,q0⟩:=aX ho0;obtain⟨B1,b1,rfl,j1,q1⟩:=aX aY;obtain⟨B2,b2,rfl,j2,q2⟩:=aX bB;have jb:=aK.mk hb;clear A ho0 aY bB hb)
  |(refine kR (gC:=g) (id:=9) (ds:=[7]) (l:= #[false,false,false,false,false,false,false,false]) dR.Jf dR.bits9 ?_;intro ag HW_ w3 jw u0 iu hHeld;refine kA 1 (some 36) ag ?_;refine kT 0 (some 35) ag HW_ hHeld ?_;replace h:=bI h;obtain⟨⟨t1,t2,t3⟩,A,h⟩:=h;(try dsimp only at h);refine kC 2 37 Tryz.func26 ag fun K hK=> ?_;refine(eW.calls _ _ _ _ _ _ _ _ _ _ St.out From.out A).mono ?_;rintro e w2 ⟨rfl,hs,hb0,hk⟩;have js:=St.mk hs;have jf:=From.mk hb0;have jk:=Kb.mk hk;clear A hs hb0 hk;refine⟨_,rfl,hK _ _ gf.out fun hHeld=> ?_⟩;clear hK K;refine kN ?_;replace h:=bI h;obtain⟨⟨t1,t2,t3,t4,t5,t6,t7⟩,A,h⟩:=h;(try dsimp only at h);refine kC 3 38 Tryz.func75 ag fun K hK=> ?_;refine(wM.calls _ _ _ _ _ _ _ _ _ _ _ _ _ _ _ _ _ _ _ _ _ _ Rd.out az.out Rd.out az.out Rd.out az.out A).mono ?_;rintro e w2 ⟨v0,v1,v2,rfl,ho0,aY,bB,hb⟩;obtain⟨B0,b0,rfl,j0,q0⟩:=aX ho0;obtain⟨B1,b1,rfl,j1,q1⟩:=aX aY;obtain⟨B2,b2,rfl,j2,q2⟩:=aX bB;have jb:=aK.mk hb;clear A ho0 aY bB hb;refine⟨_,rfl,hK _ _ gf.out fun hHeld=> ?_⟩;clear hK K;refine kN ?_;refine kA 4 (some 34) ag ?_;refine kA 5 (some 39) ag ?_;refine kA 6 (some 40) ag ?_;refine kL 7 ag ?_;refine kD ag ?_)
  |(refine kR (gC:=g) (id:=12) (ds:=[8]) (l:= #[false,false,false,false,false,false,false,false,false]) dR.Jc dR.bits12 ?_;intro ag HW_ w3 jw u0 iu hHeld;refine kA 2 (some 48) ag ?_;refine kT 0 (some 46) ag HW_ hHeld ?_;refine kT 1 (some 47) ag HW_ hHeld ?_;replace h:=bI h;obtain⟨⟨t1,t2,t3⟩,A,h⟩:=h;(try dsimp only at h);refine kC 3 49 Tryz.func26 ag fun K hK=> ?_;refine(eW.calls _ _ _ _ _ _ _ _ _ _ St.out From.out A).mono ?_;rintro e w2 ⟨rfl,hs,hb0,hk⟩;have js:=St.mk hs;have jf:=From.mk hb0;have jk:=Kb.mk hk;clear A hs hb0 hk;refine⟨_,rfl,hK _ _ gf.out fun hHeld=> ?_⟩;clear hK K;refine kN ?_;replace h:=bI h;obtain⟨⟨t1,t2,t3,t4,t5,t6,t7⟩,A,h⟩:=h;(try dsimp only at h);refine kC 4 50 Tryz.func76 ag fun K hK=> ?_;refine(wJ.calls _ _ _ _ _ _ _ _ _ _ _ _ _ _ _ _ _ _ _ _ _ _ _ _ Rd.out az.out Rd.out az.out Rd.out az.out A).mono ?_;rintro e w2 ⟨v0,v1,v2,rfl,ho0,aY,bB,hb⟩;obtain⟨B0,b0,rfl,j0,q0⟩:=aX ho0;obtain⟨B1,b1,rfl,j1,q1⟩:=aX aY;obtain⟨B2,b2,rfl,j2,q2⟩:=aX bB;have jb:=aK.mk hb;clear A ho0 aY bB hb;refine⟨_,rfl,hK _ _ gf.out fun hHeld=> ?_⟩;clear hK K;refine kN ?_;refine kA 5 (some 45) ag ?_;refine kA 6 (some 51) ag ?_;refine kA 7 (some 52) ag ?_;refine kL 8 ag ?_;refine kD ag ?_)
  |(refine kR (gC:=g) (id:=15) (ds:=[9]) (l:= #[false,false,false,false,false,false,false,false,false,false]) dR.Jd dR.bits15 ?_;intro ag HW_ w3 jw u0 iu hHeld;refine kA 1 (some 59) ag ?_;refine kA 2 (some 60) ag ?_;refine kT 0 (some 58) ag HW_ hHeld ?_;replace h:=bI h;obtain⟨⟨t1,t2,t3⟩,A,h⟩:=h;(try dsimp only at h);refine kC 3 61 Tryz.func26 ag fun K hK=> ?_;refine(eW.calls _ _ _ _ _ _ _ _ _ _ St.out From.out A).mono ?_;rintro e w2 ⟨rfl,hs,hb0,hk⟩;have js:=St.mk hs;have jf:=From.mk hb0;have jk:=Kb.mk hk;clear A hs hb0 hk;refine⟨_,rfl,hK _ _ gf.out fun hHeld=> ?_⟩;clear hK K;refine kN ?_;refine kA 4 (some 62) ag ?_;replace h:=bI h;obtain⟨⟨t1,t2,t3,t4,t5,t6,t7⟩,A,h⟩:=h;(try dsimp only at h);refine kC 5 63 Tryz.func77 ag fun K hK=> ?_;refine(wK.calls _ _ _ _ _ _ _ _ _ _ _ _ _ _ _ _ _ _ _ _ _ _ _ Rd.out az.out Rd.out az.out Rd.out az.out A).mono ?_;rintro e w2 ⟨v0,v1,v2,rfl,ho0,aY,bB,hb⟩;obtain⟨B0,b0,rfl,j0,q0⟩:=aX ho0;obtain⟨B1,b1,rfl,j1,q1⟩:=aX aY;obtain⟨B2,b2,rfl,j2,q2⟩:=aX bB;have jb:=aK.mk hb;clear A ho0 aY bB hb;refine⟨_,rfl,hK _ _ gf.out fun hHeld=> ?_⟩;clear hK K;refine kN ?_;refine kA 6 (some 57) ag ?_;refine kA 7 (some 64) ag ?_;refine kA 8 (some 65) ag ?_;refine kL 9 ag ?_;refine kD ag ?_));(repeat' first|((with_reducible replace h:=cG h);rcases h with ⟨hc,h⟩|⟨hc,h⟩<;>first|exact(none_some h).elim|exact absurd hc (by decide)|subst hc|(replace hc:=br hc;subst hc)|(replace hc:=ey hc;subst hc)|(replace hc:=hH_ hc;subst hc)|(have hd:(_==_)=true:=hc)|(have hd:(_==_)=false:=br hc)|(have hd:=hI_ hc;have he:=cD hc;clear hc)|(have hd:=cE hc;have he:=hL_ hc)|(have hd:=decide_eq_false hc)|(have hd:=decide_eq_true hc;(try(have hn:=Int.natCast_pos.mp hc;have hm:=decide_eq_true hn;replace hn:=eq_true hn));first|(obtain⟨g_,e_,i_⟩:=ew (by assumption) (by first|assumption|decide) hc;cases e_)|(obtain⟨a_,e_,c_⟩:=er (by assumption) (by first|assumption|decide) hc;cases e_))|(have hd:=decide_eq_true hc)|skip)|((with_reducible replace h:=eu h);obtain⟨hl_,h⟩:=h;replace hl_:=A_ hl_;(try dsimp only at h))))
 all_goals first
  |((try simp only[Option.some.injEq,Prod.mk.injEq]at h);(try obtain⟨rfl,rfl,rfl,rfl,rfl,rfl,rfl,rfl⟩:=h);refine bodyPost_ret (results_cell_row rfl _ _ _ _ _ (0,0) _ rfl a7.out Tryz.underlying30 rfl (by kernel_rfl)) rfl ?_;exact⟨_,_,_,rfl,(by first|exact eB|exact ia|exact ia (by simp)|exact Kd.bM _ _ _ _ _),(by first|exact eB|exact ia|exact ia (by simp)|exact Kd.bM _ _ _ _ _),(by first|exact eB|exact ia|exact ia (by simp)|exact Kd.bM _ _ _ _ _),St.out,From.out,gf.out⟩)
  |skip
 go_loopg [6] k (fun kq v6 w'=>∃(O8:Int) (l7:Int) (l8:Int) (O1:List (ar)) (O2:Int) (O3:List Int) (O4:Int) (O5:Int) (O6:List (S64)) (Oz:Value) (OA:Value) (OB:Value),v6= .int .i64 O8∧aj (dR.l0 kq t1 O8 bw l7 l8 O1 O2 O3 O4 O5 O6=some (r1,r2,r3,r4,r5,r6,r7,r8))∧aj (kq≤k)∧aj (Kd.R bl 110 w' w.heap.size (fun _=>True) Oz O1)∧aj (Kd.R (Kd.int .i64) 3 w' w.heap.size (fun _=>True) OA O3)∧aj (Kd.R k64 64 w' w.heap.size (fun _=>True) OB O6)∧aj (w'.heap[g2]? =some (.cells #[(.slice none 0 0),.int .i64 0,(.slice none 0 0),.int .i64 0,.int .i64 0,(.slice none 0 0)] 30 (0,0)))∧aj (w'.heap[g3]? =some (.cells #[Oz,.int .i64 O2,OA,.int .i64 O4,.int .i64 O5,OB] 30 (0,0)))∧aj (bQ w0 w' g bw l7 l8)∧aj (KeepBut w w' g none)∧aj (Below w0.heap.size w0 w'))
 case atStart=>exact⟨_,_,_,_,_,_,_,_,_,_,_,_,(by first|rfl|(simp;done)),⟨h⟩,⟨Nat.le_refl _⟩,⟨by first|exact ia|exact eB|exact ia (by simp)|exact Kd.bM _ _ _ _ _⟩,⟨by first|exact ia|exact eB|exact ia (by simp)|exact Kd.bM _ _ _ _ _⟩,⟨by first|exact ia|exact eB|exact ia (by simp)|exact Kd.bM _ _ _ _ _⟩,⟨a7.out⟩,⟨a7.out⟩,⟨St.out⟩,⟨gf.out⟩,⟨From.out⟩⟩
 case round=>
  clear h;obtain⟨O8,l7,l8,O1,O2,O3,O4,O5,O6,Oz,OA,OB,rfl,HA,dh,Qr,Qs,Qt,PY,PZ,bO,HK,HB⟩:=hrel;rcases gk with _|k1
  ·exact absurd HA.out (by simp[dR.l0])
  have h:=HA.out;clear HA;simp only[dR.l0]at h;obtain⟨pY,AG,rfl,MG,VL,MX⟩:=xB Qr.out;clear Qr;obtain⟨X4,c91,rfl,j91,q91,MZ⟩:=xB Qs.out;clear Qs;obtain⟨X5,c92,rfl,j92,q92,o92⟩:=xB Qt.out;clear Qt;have ald:=a7.mk PY.out;clear PY;have ale:=a7.mk PZ.out;clear PZ;have HI_:=St.mk bO.out;clear bO;have HK_:=gf.mk HK.out;have HZ_:Sz w wr:=⟨HK.out.1⟩;clear HK;have P7:=From.mk HB.out;have QB:Sz w0 wr:=⟨HB.out.size⟩;clear HB
  (repeat' first|((with_reducible replace h:=cG h);rcases h with ⟨hc,h⟩|⟨hc,h⟩<;>first|exact(none_some h).elim|exact absurd hc (by decide)|subst hc|(replace hc:=br hc;subst hc)|(replace hc:=ey hc;subst hc)|(replace hc:=hH_ hc;subst hc)|(have hd:(_==_)=true:=hc)|(have hd:(_==_)=false:=br hc)|(have hd:=hI_ hc;have he:=cD hc;clear hc)|(have hd:=cE hc;have he:=hL_ hc)|(have hd:=decide_eq_false hc)|(have hd:=decide_eq_true hc;(try(have hn:=Int.natCast_pos.mp hc;have hm:=decide_eq_true hn;replace hn:=eq_true hn));first|(obtain⟨g_,e_,i_⟩:=ew (by assumption) (by first|assumption|decide) hc;cases e_)|(obtain⟨a_,e_,c_⟩:=er (by assumption) (by first|assumption|decide) hc;cases e_))|(have hd:=decide_eq_true hc)|skip)|((with_reducible replace h:=eu h);obtain⟨hl_,h⟩:=h;replace hl_:=A_ hl_;(try dsimp only at h)))
  all_goals go_wp2_with ((first
   |((with_reducible refine gate_dst (N:=2) rfl ?_);refine bV #[.slice none 0 0,.int .i64 0,.slice none 0 0,.int .i64 0,.int .i64 0,.slice none 0 0] 30 fun g2 w1 j1 j2 j3=> ?_)
   |((with_reducible refine gate_dst (N:=3) rfl ?_);refine bV #[.slice none 0 0,.int .i64 0,.slice none 0 0,.int .i64 0,.int .i64 0,.slice none 0 0] 30 fun g3 w1 j1 j2 j3=> ?_)
   |((with_reducible refine gate_dst (N:=7) rfl ?_);refine bV #[.int .i64 0,.int .i64 0] 62 fun g7 w1 j1 j2 j3=> ?_)
   |(go_at_call 26;(try rw[hl_.out]);replace h:=bI h;obtain⟨⟨t1,t2,t3⟩,A,h⟩:=h;(try dsimp only at h);refine(eW.calls _ _ _ _ _ _ _ _ _ _ St.out From.out A).mono ?_;rintro e w2 ⟨rfl,hs,hb0,hk⟩;have js:=St.mk hs;have jf:=From.mk hb0;have jk:=Kb.mk hk;clear A hs hb0 hk)
   |(go_at_call 93;(try rw[hl_.out]);replace h:=bI h;obtain⟨⟨t1,t2,t3⟩,A,h⟩:=h;(try dsimp only at h);refine(spec_l19Plan.calls _ _ _ _ _ _ _ _ _ _ St.out From.out A).mono ?_;rintro e w2 ⟨v0,rfl,ho0,hs,hb0,hk⟩;obtain⟨B0,b0,rfl,j0,q0⟩:=aX ho0;have js:=St.mk hs;have jf:=From.mk hb0;have jk:=Kb.mk hk;clear A ho0 hs hb0 hk)
   |(go_at_call 91;(try rw[hl_.out]);replace h:=bI h;obtain⟨⟨t1,t2,t3,t4,t5,t6,t7⟩,A,h⟩:=h;(try dsimp only at h);refine(tv.calls _ _ _ _ _ _ _ _ _ _ _ _ _ Rd.out az.out A).mono ?_;rintro e w2 ⟨v0,v1,v2,rfl,ho0,aY,bB,hb⟩;obtain⟨B0,b0,rfl,j0,q0⟩:=aX ho0;obtain⟨B1,b1,rfl,j1,q1⟩:=aX aY;obtain⟨B2,b2,rfl,j2,q2⟩:=aX bB;have jb:=aK.mk hb;clear A ho0 aY bB hb)
   |(go_at_call 94;(try rw[hl_.out]);replace h:=bI h;obtain⟨⟨t1,t2,t3,t4⟩,A,h⟩:=h;(try dsimp only at h);refine(wN.calls _ _ _ _ _ _ _ _ _ _ St.out From.out A).mono ?_;rintro e w2 ⟨rfl,hs,hb0,hk⟩;have js:=St.mk hs;have jf:=From.mk hb0;have jk:=Kb.mk hk;clear A hs hb0 hk)
   |(go_at_call 74;(try rw[hl_.out]);replace h:=bI h;obtain⟨⟨t1,t2,t3,t4,t5,t6,t7⟩,A,h⟩:=h;(try dsimp only at h);refine(wL.calls _ _ _ _ _ _ _ _ _ _ _ _ _ _ _ _ _ _ _ _ _ Rd.out az.out Rd.out az.out Rd.out az.out A).mono ?_;rintro e w2 ⟨v0,v1,v2,rfl,ho0,aY,bB,hb⟩;obtain⟨B0,b0,rfl,j0,q0⟩:=aX ho0;obtain⟨B1,b1,rfl,j1,q1⟩:=aX aY;obtain⟨B2,b2,rfl,j2,q2⟩:=aX bB;have jb:=aK.mk hb;clear A ho0 aY bB hb)
   |(refine kR (gC:=g) (id:=9) (ds:=[7]) (l:= #[false,false,false,false,false,false,false,false]) dR.Jf dR.bits9 ?_;intro ag HW_ w3 jw u0 iu hHeld;refine kA 1 (some 36) ag ?_;refine kT 0 (some 35) ag HW_ hHeld ?_;replace h:=bI h;obtain⟨⟨t1,t2,t3⟩,A,h⟩:=h;(try dsimp only at h);refine kC 2 37 Tryz.func26 ag fun K hK=> ?_;refine(eW.calls _ _ _ _ _ _ _ _ _ _ St.out From.out A).mono ?_;rintro e w2 ⟨rfl,hs,hb0,hk⟩;have js:=St.mk hs;have jf:=From.mk hb0;have jk:=Kb.mk hk;clear A hs hb0 hk;refine⟨_,rfl,hK _ _ gf.out fun hHeld=> ?_⟩;clear hK K;refine kN ?_;replace h:=bI h;obtain⟨⟨t1,t2,t3,t4,t5,t6,t7⟩,A,h⟩:=h;(try dsimp only at h);refine kC 3 38 Tryz.func75 ag fun K hK=> ?_;refine(wM.calls _ _ _ _ _ _ _ _ _ _ _ _ _ _ _ _ _ _ _ _ _ _ Rd.out az.out Rd.out az.out Rd.out az.out A).mono ?_;rintro e w2 ⟨v0,v1,v2,rfl,ho0,aY,bB,hb⟩;obtain⟨B0,b0,rfl,j0,q0⟩:=aX ho0;obtain⟨B1,b1,rfl,j1,q1⟩:=aX aY;obtain⟨B2,b2,rfl,j2,q2⟩:=aX bB;have jb:=aK.mk hb;clear A ho0 aY bB hb;refine⟨_,rfl,hK _ _ gf.out fun hHeld=> ?_⟩;clear hK K;refine kN ?_;refine kA 4 (some 34) ag ?_;refine kA 5 (some 39) ag ?_;refine kA 6 (some 40) ag ?_;refine kL 7 ag ?_;refine kD ag ?_)
   |(refine kR (gC:=g) (id:=12) (ds:=[8]) (l:= #[false,false,false,false,false,false,false,false,false]) dR.Jc dR.bits12 ?_;intro ag HW_ w3 jw u0 iu hHeld;refine kA 2 (some 48) ag ?_;refine kT 0 (some 46) ag HW_ hHeld ?_;refine kT 1 (some 47) ag HW_ hHeld ?_;replace h:=bI h;obtain⟨⟨t1,t2,t3⟩,A,h⟩:=h;(try dsimp only at h);refine kC 3 49 Tryz.func26 ag fun K hK=> ?_;refine(eW.calls _ _ _ _ _ _ _ _ _ _ St.out From.out A).mono ?_;rintro e w2 ⟨rfl,hs,hb0,hk⟩;have js:=St.mk hs;have jf:=From.mk hb0;have jk:=Kb.mk hk;clear A hs hb0 hk;refine⟨_,rfl,hK _ _ gf.out fun hHeld=> ?_⟩;clear hK K;refine kN ?_;replace h:=bI h;obtain⟨⟨t1,t2,t3,t4,t5,t6,t7⟩,A,h⟩:=h;(try dsimp only at h);refine kC 4 50 Tryz.func76 ag fun K hK=> ?_;refine(wJ.calls _ _ _ _ _ _ _ _ _ _ _ _ _ _ _ _ _ _ _ _ _ _ _ _ Rd.out az.out Rd.out az.out Rd.out az.out A).mono ?_;rintro e w2 ⟨v0,v1,v2,rfl,ho0,aY,bB,hb⟩;obtain⟨B0,b0,rfl,j0,q0⟩:=aX ho0;obtain⟨B1,b1,rfl,j1,q1⟩:=aX aY;obtain⟨B2,b2,rfl,j2,q2⟩:=aX bB;have jb:=aK.mk hb;clear A ho0 aY bB hb;refine⟨_,rfl,hK _ _ gf.out fun hHeld=> ?_⟩;clear hK K;refine kN ?_;refine kA 5 (some 45) ag ?_;refine kA 6 (some 51) ag ?_;refine kA 7 (some 52) ag ?_;refine kL 8 ag ?_;refine kD ag ?_)
   |(refine kR (gC:=g) (id:=15) (ds:=[9]) (l:= #[false,false,false,false,false,false,false,false,false,false]) dR.Jd dR.bits15 ?_;intro ag HW_ w3 jw u0 iu hHeld;refine kA 1 (some 59) ag ?_;refine kA 2 (some 60) ag ?_;refine kT 0 (some 58) ag HW_ hHeld ?_;replace h:=bI h;obtain⟨⟨t1,t2,t3⟩,A,h⟩:=h;(try dsimp only at h);refine kC 3 61 Tryz.func26 ag fun K hK=> ?_;refine(eW.calls _ _ _ _ _ _ _ _ _ _ St.out From.out A).mono ?_;rintro e w2 ⟨rfl,hs,hb0,hk⟩;have js:=St.mk hs;have jf:=From.mk hb0;have jk:=Kb.mk hk;clear A hs hb0 hk;refine⟨_,rfl,hK _ _ gf.out fun hHeld=> ?_⟩;clear hK K;refine kN ?_;refine kA 4 (some 62) ag ?_;replace h:=bI h;obtain⟨⟨t1,t2,t3,t4,t5,t6,t7⟩,A,h⟩:=h;(try dsimp only at h);refine kC 5 63 Tryz.func77 ag fun K hK=> ?_;refine(wK.calls _ _ _ _ _ _ _ _ _ _ _ _ _ _ _ _ _ _ _ _ _ _ _ Rd.out az.out Rd.out az.out Rd.out az.out A).mono ?_;rintro e w2 ⟨v0,v1,v2,rfl,ho0,aY,bB,hb⟩;obtain⟨B0,b0,rfl,j0,q0⟩:=aX ho0;obtain⟨B1,b1,rfl,j1,q1⟩:=aX aY;obtain⟨B2,b2,rfl,j2,q2⟩:=aX bB;have jb:=aK.mk hb;clear A ho0 aY bB hb;refine⟨_,rfl,hK _ _ gf.out fun hHeld=> ?_⟩;clear hK K;refine kN ?_;refine kA 6 (some 57) ag ?_;refine kA 7 (some 64) ag ?_;refine kA 8 (some 65) ag ?_;refine kL 9 ag ?_;refine kD ag ?_));(repeat' first|((with_reducible replace h:=cG h);rcases h with ⟨hc,h⟩|⟨hc,h⟩<;>first|exact(none_some h).elim|exact absurd hc (by decide)|subst hc|(replace hc:=br hc;subst hc)|(replace hc:=ey hc;subst hc)|(replace hc:=hH_ hc;subst hc)|(have hd:(_==_)=true:=hc)|(have hd:(_==_)=false:=br hc)|(have hd:=hI_ hc;have he:=cD hc;clear hc)|(have hd:=cE hc;have he:=hL_ hc)|(have hd:=decide_eq_false hc)|(have hd:=decide_eq_true hc;(try(have hn:=Int.natCast_pos.mp hc;have hm:=decide_eq_true hn;replace hn:=eq_true hn));first|(obtain⟨g_,e_,i_⟩:=ew (by assumption) (by first|assumption|decide) hc;cases e_)|(obtain⟨a_,e_,c_⟩:=er (by assumption) (by first|assumption|decide) hc;cases e_))|(have hd:=decide_eq_true hc)|skip)|((with_reducible replace h:=eu h);obtain⟨hl_,h⟩:=h;replace hl_:=A_ hl_;(try dsimp only at h))))
  all_goals first
   |(go_roundg k1;(case measure=>have:=dh.out;omega);(case rel=>exact⟨_,_,_,_,_,_,_,_,_,_,_,_,(by first|rfl|(simp;done)),⟨h⟩,⟨by have:=dh.out;omega⟩,⟨by first|exact ia|exact eB|exact ia (by simp)|exact Kd.bM _ _ _ _ _⟩,⟨by first|exact ia|exact eB|exact ia (by simp)|exact Kd.bM _ _ _ _ _⟩,⟨by first|exact ia|exact eB|exact ia (by simp)|exact Kd.bM _ _ _ _ _⟩,⟨a7.out⟩,⟨a7.out⟩,⟨St.out⟩,⟨gf.out⟩,⟨From.out⟩⟩))
   |((try simp only[Option.some.injEq,Prod.mk.injEq]at h);(try obtain⟨rfl,rfl,rfl,rfl,rfl,rfl,rfl,rfl⟩:=h);refine bodyPost_ret (results_cell_row rfl _ _ _ _ _ (0,0) _ rfl a7.out Tryz.underlying30 rfl (by kernel_rfl)) rfl ?_;exact⟨_,_,_,rfl,(by first|exact eB|exact ia|exact ia (by simp)|exact Kd.bM _ _ _ _ _),(by first|exact eB|exact ia|exact ia (by simp)|exact Kd.bM _ _ _ _ _),(by first|exact eB|exact ia|exact ia (by simp)|exact Kd.bM _ _ _ _ _),St.out,From.out,gf.out⟩)
def zq.f (k:Nat) (bw:List Int) (cJ:Int) (cO:Int):Option ((List (ar))×Int×List Int×Int×Int×(List (S64))×Int×Int):=(tx.f bw cJ cO 2).bind fun CF=>(if CF.1=true then((zn.f k).bind fun Ar=>(some (Ar.1,Ar.2.1,Ar.2.2.1,Ar.2.2.2.1,Ar.2.2.2.2.1,Ar.2.2.2.2.2,CF.2.1,CF.2.2)))else((dR.f k bw CF.2.1 CF.2.2).bind fun vQ=>(some (vQ.1,vQ.2.1,vQ.2.2.1,vQ.2.2.2.1,vQ.2.2.2.2.1,vQ.2.2.2.2.2.1,vQ.2.2.2.2.2.2.1,vQ.2.2.2.2.2.2.2))))
theorem zq.calls (k:Nat) (g:Nat) (bw:List Int) (cJ:Int) (cO:Int) (r1:List (ar)) (r2:Int) (r3:List Int) (r4:Int) (r5:Int) (r6:List (S64)) (r7:Int) (r8:Int) (w0 w:World) (hI:bQ w0 w g bw cJ cO) (hB:Below w0.heap.size w0 w) (h:zq.f k bw cJ cO=some (r1,r2,r3,r4,r5,r6,r7,r8)):
  Calls Tryz.prog 24 #[.pointer (some ⟨g,0,none⟩)] w fun e w'=>∃v0_ cB dL:Value,e= .returned (.agg #[v0_,.int .i64 r2,cB,.int .i64 r4,.int .i64 r5,dL])∧Kd.R bl 110 w' w.heap.size (fun _=>True) v0_ r1∧Kd.R (Kd.int .i64) 3 w' w.heap.size (fun _=>True) cB r3∧Kd.R k64 64 w' w.heap.size (fun _=>True) dL r6∧bQ w0 w' g bw r7 r8∧Below w0.heap.size w0 w'∧KeepBut w w' g none:=by
 replace hI:=St.mk hI;have iS:Sz w0 w:=⟨hB.size⟩;replace hB:=From.mk hB;have s8:=en.mk (d:=bl) (e:=110) (t:=3) (by decide);have IM:=en.mk (d:=bl) (e:=110) (t:=30) (by decide);have Vi:=en.mk (d:=k64) (e:=64) (t:=3) (by decide);have IP:=en.mk (d:=k64) (e:=64) (t:=30) (by decide);have Vh:=pq.mk (e:=30) (t:=82) (by decide);unfold zq.f at h;have kp:=Tryz.underlying30
 (repeat' first|((with_reducible replace h:=cG h);rcases h with ⟨hc,h⟩|⟨hc,h⟩<;>first|exact(none_some h).elim|exact absurd hc (by decide)|subst hc|(replace hc:=br hc;subst hc)|(replace hc:=ey hc;subst hc)|(replace hc:=hH_ hc;subst hc)|(have hd:(_==_)=true:=hc)|(have hd:(_==_)=false:=br hc)|(have hd:=hI_ hc;have he:=cD hc;clear hc)|(have hd:=cE hc;have he:=hL_ hc)|(have hd:=decide_eq_false hc)|(have hd:=decide_eq_true hc;(try(have hn:=Int.natCast_pos.mp hc;have hm:=decide_eq_true hn;replace hn:=eq_true hn));first|(obtain⟨g_,e_,i_⟩:=ew (by assumption) (by first|assumption|decide) hc;cases e_)|(obtain⟨a_,e_,c_⟩:=er (by assumption) (by first|assumption|decide) hc;cases e_))|(have hd:=decide_eq_true hc)|skip)|((with_reducible replace h:=eu h);obtain⟨hl_,h⟩:=h;replace hl_:=A_ hl_;(try dsimp only at h)))
 all_goals go_enter Tryz.func24,Tryz.ntmps24
 all_goals go_wp2_with ((first
  |((with_reducible refine gate_dst (N:=2) rfl ?_);refine vO rfl (N:=2) rfl (cs:= #[.slice none 0 0,.int .i64 0,.slice none 0 0,.int .i64 0,.int .i64 0,.slice none 0 0]) (t:=30) (by first|(go_simp;done)|(go_simp;rfl)) ?_;intro gq hg w1 hk hb;have j1:=ma.mk hg;have j2:=aK.mk hb;have j3:=a7.mk hk;clear hg hb hk)
  |(go_at_call 49;(try rw[hl_.out]);replace h:=bI h;obtain⟨⟨t1,t2,t3⟩,A,h⟩:=h;(try dsimp only at h);refine(tx.calls _ _ _ _ _ _ _ _ _ _ St.out From.out A).mono ?_;rintro e w2 ⟨rfl,hs,hb0,hk⟩;have js:=St.mk hs;have jf:=From.mk hb0;have jk:=Kb.mk hk;clear A hs hb0 hk)
  |(go_at_call 47;(try rw[hl_.out]);replace h:=bI h;obtain⟨⟨t1,t2,t3,t4,t5,t6⟩,A,h⟩:=h;(try dsimp only at h);refine(zn.calls _ _ _ _ _ _ _ _ A).mono ?_;rintro e w2 ⟨v0,v1,v2,rfl,ho0,aY,bB,hb⟩;obtain⟨B0,b0,rfl,j0,q0⟩:=aX ho0;obtain⟨B1,b1,rfl,j1,q1⟩:=aX aY;obtain⟨B2,b2,rfl,j2,q2⟩:=aX bB;have jb:=aK.mk hb;clear A ho0 aY bB hb)
  |(go_at_call 50;(try rw[hl_.out]);replace h:=bI h;obtain⟨⟨t1,t2,t3,t4,t5,t6,t7,t8⟩,A,h⟩:=h;(try dsimp only at h);refine(dR.calls _ _ _ _ _ _ _ _ _ _ _ _ _ _ _ St.out From.out A).mono ?_;rintro e w2 ⟨v0,v1,v2,rfl,ho0,aY,bB,hs,hb0,hk⟩;obtain⟨B0,b0,rfl,j0,q0⟩:=aX ho0;obtain⟨B1,b1,rfl,j1,q1⟩:=aX aY;obtain⟨B2,b2,rfl,j2,q2⟩:=aX bB;have js:=St.mk hs;have jf:=From.mk hb0;have jk:=Kb.mk hk;clear A ho0 aY bB hs hb0 hk));(repeat' first|((with_reducible replace h:=cG h);rcases h with ⟨hc,h⟩|⟨hc,h⟩<;>first|exact(none_some h).elim|exact absurd hc (by decide)|subst hc|(replace hc:=br hc;subst hc)|(replace hc:=ey hc;subst hc)|(replace hc:=hH_ hc;subst hc)|(have hd:(_==_)=true:=hc)|(have hd:(_==_)=false:=br hc)|(have hd:=hI_ hc;have he:=cD hc;clear hc)|(have hd:=cE hc;have he:=hL_ hc)|(have hd:=decide_eq_false hc)|(have hd:=decide_eq_true hc;(try(have hn:=Int.natCast_pos.mp hc;have hm:=decide_eq_true hn;replace hn:=eq_true hn));first|(obtain⟨g_,e_,i_⟩:=ew (by assumption) (by first|assumption|decide) hc;cases e_)|(obtain⟨a_,e_,c_⟩:=er (by assumption) (by first|assumption|decide) hc;cases e_))|(have hd:=decide_eq_true hc)|skip)|((with_reducible replace h:=eu h);obtain⟨hl_,h⟩:=h;replace hl_:=A_ hl_;(try dsimp only at h))))
 all_goals simp only[Option.some.injEq,Prod.mk.injEq]at h
 all_goals obtain⟨rfl,rfl,rfl,rfl,rfl,rfl,rfl,rfl⟩:=h
 all_goals refine bodyPost_ret (results_cell_row rfl _ _ _ _ _ (0,0) _ rfl a7.out Tryz.underlying30 rfl (by kernel_rfl)) rfl ?_
 all_goals exact⟨_,_,_,(by first|rfl|(simp_all;done)),(by first|exact ia|exact Kd.bM _ _ _ _ _),(by first|exact ia|exact Kd.bM _ _ _ _ _),(by first|exact ia|exact Kd.bM _ _ _ _ _),St.out,From.out,gf.out⟩
def wH.f (k:Nat) (l0:List Int):Option ((List (ar))×Int×List Int×Int×Int×(List (S64))×(List (cN))):=(mU.f k l0).bind fun Hd=>((zq.f k Hd.1 Hd.2.1 Hd.2.2).bind fun vR=>((ml.f k Hd.1 vR.2.2.2.2.2.2.1 vR.2.2.2.2.2.2.2).bind fun abD=>(some (vR.1,vR.2.1,vR.2.2.1,vR.2.2.2.1,vR.2.2.2.2.1,vR.2.2.2.2.2.1,abD.1))))
theorem wH.calls (k:Nat) (A0:Option Addr) (c0:Nat) (l0:List Int) (r1:List (ar)) (r2:Int) (r3:List Int) (r4:Int) (r5:Int) (r6:List (S64)) (r7:List (cN)) (w:World) (cd:Kd.C (Kd.int .u8) w A0 l0.length l0) (hc0:l0.length≤c0) (h:wH.f k l0=some (r1,r2,r3,r4,r5,r6,r7)):
  Calls Tryz.prog 7 #[.slice A0 l0.length c0] w fun e w'=>∃v0_ cB dL BH:Value,e= .returned (.tuple #[.agg #[v0_,.int .i64 r2,cB,.int .i64 r4,.int .i64 r5,dL],BH])∧Kd.R bl 110 w' w.heap.size (fun _=>True) v0_ r1∧Kd.R (Kd.int .i64) 3 w' w.heap.size (fun _=>True) cB r3∧Kd.R k64 64 w' w.heap.size (fun _=>True) dL r6∧Kd.R nx 57 w' w.heap.size (fun _=>True) BH r7∧Below w.heap.size w w':=by
 replace cd:=cg.mk cd;replace hc0:=az.mk hc0;have s8:=en.mk (d:=bl) (e:=110) (t:=3) (by decide);have IM:=en.mk (d:=bl) (e:=110) (t:=30) (by decide);have Vi:=en.mk (d:=k64) (e:=64) (t:=3) (by decide);have IP:=en.mk (d:=k64) (e:=64) (t:=30) (by decide);have arq:=en.mk (d:=nx) (e:=57) (t:=3) (by decide);have ars:=en.mk (d:=nx) (e:=57) (t:=30) (by decide);have Vh:=pq.mk (e:=30) (t:=82) (by decide);unfold wH.f at h;have kp:=Tryz.underlying30
 (repeat' first|((with_reducible replace h:=cG h);rcases h with ⟨hc,h⟩|⟨hc,h⟩<;>first|exact(none_some h).elim|exact absurd hc (by decide)|subst hc|(replace hc:=br hc;subst hc)|(replace hc:=ey hc;subst hc)|(replace hc:=hH_ hc;subst hc)|(have hd:(_==_)=true:=hc)|(have hd:(_==_)=false:=br hc)|(have hd:=hI_ hc;have he:=cD hc;clear hc)|(have hd:=cE hc;have he:=hL_ hc)|(have hd:=decide_eq_false hc)|(have hd:=decide_eq_true hc;(try(have hn:=Int.natCast_pos.mp hc;have hm:=decide_eq_true hn;replace hn:=eq_true hn));first|(obtain⟨g_,e_,i_⟩:=ew (by assumption) (by first|assumption|decide) hc;cases e_)|(obtain⟨a_,e_,c_⟩:=er (by assumption) (by first|assumption|decide) hc;cases e_))|(have hd:=decide_eq_true hc)|skip)|((with_reducible replace h:=eu h);obtain⟨hl_,h⟩:=h;replace hl_:=A_ hl_;(try dsimp only at h)))
 all_goals go_enter Tryz.func7,Tryz.ntmps7
 all_goals go_wp2_with ((first
  |((with_reducible refine gate_dst (N:=2) rfl ?_);refine vO rfl (N:=2) rfl (cs:= #[.slice none 0 0,.int .i64 0,.slice none 0 0,.int .i64 0,.int .i64 0,.slice none 0 0]) (t:=30) (by first|(go_simp;done)|(go_simp;rfl)) ?_;intro gq hg w1 hk hb;have j1:=ma.mk hg;have j2:=aK.mk hb;have j3:=a7.mk hk;clear hg hb hk)
  |(go_at_call 23;(try rw[hl_.out]);replace h:=bI h;obtain⟨⟨t1,t2,t3⟩,A,h⟩:=h;(try dsimp only at h);refine(mU.calls _ _ _ _ _ _ _ w _ From.out Rd.out az.out A).mono ?_;rintro e w2 ⟨gC,rfl,hs,hb0,hb⟩;have js:=St.mk hs;have jf:=From.mk hb0;have jb:=aK.mk hb;clear A hs hb0 hb)
  |(go_at_call 24;(try rw[hl_.out]);replace h:=bI h;obtain⟨⟨t1,t2,t3,t4,t5,t6,t7,t8⟩,A,h⟩:=h;(try dsimp only at h);refine(zq.calls _ _ _ _ _ _ _ _ _ _ _ _ _ _ _ St.out From.out A).mono ?_;rintro e w2 ⟨v0,v1,v2,rfl,ho0,aY,bB,hs,hb0,hk⟩;obtain⟨B0,b0,rfl,j0,q0⟩:=aX ho0;obtain⟨B1,b1,rfl,j1,q1⟩:=aX aY;obtain⟨B2,b2,rfl,j2,q2⟩:=aX bB;have js:=St.mk hs;have jf:=From.mk hb0;have jk:=Kb.mk hk;clear A ho0 aY bB hs hb0 hk)
  |(go_at_call 25;(try rw[hl_.out]);replace h:=bI h;obtain⟨⟨t1,t2,t3⟩,A,h⟩:=h;(try dsimp only at h);refine(ml.calls _ _ _ _ _ _ _ _ _ _ St.out From.out A).mono ?_;rintro e w2 ⟨v0,rfl,ho0,hs,hb0,hk⟩;obtain⟨B0,b0,rfl,j0,q0⟩:=aX ho0;have js:=St.mk hs;have jf:=From.mk hb0;have jk:=Kb.mk hk;clear A ho0 hs hb0 hk));(repeat' first|((with_reducible replace h:=cG h);rcases h with ⟨hc,h⟩|⟨hc,h⟩<;>first|exact(none_some h).elim|exact absurd hc (by decide)|subst hc|(replace hc:=br hc;subst hc)|(replace hc:=ey hc;subst hc)|(replace hc:=hH_ hc;subst hc)|(have hd:(_==_)=true:=hc)|(have hd:(_==_)=false:=br hc)|(have hd:=hI_ hc;have he:=cD hc;clear hc)|(have hd:=cE hc;have he:=hL_ hc)|(have hd:=decide_eq_false hc)|(have hd:=decide_eq_true hc;(try(have hn:=Int.natCast_pos.mp hc;have hm:=decide_eq_true hn;replace hn:=eq_true hn));first|(obtain⟨g_,e_,i_⟩:=ew (by assumption) (by first|assumption|decide) hc;cases e_)|(obtain⟨a_,e_,c_⟩:=er (by assumption) (by first|assumption|decide) hc;cases e_))|(have hd:=decide_eq_true hc)|skip)|((with_reducible replace h:=eu h);obtain⟨hl_,h⟩:=h;replace hl_:=A_ hl_;(try dsimp only at h))))
 all_goals simp only[Option.some.injEq,Prod.mk.injEq]at h
 all_goals obtain⟨rfl,rfl,rfl,rfl,rfl,rfl,rfl⟩:=h
 all_goals refine bodyPost_ret (results_ct rfl _ _ _ _ _ (0,0) _ rfl a7.out Tryz.underlying30 rfl (by kernel_rfl)) rfl ?_
 all_goals exact⟨_,_,_,_,(by first|rfl|(simp_all;done)),(by first|exact ia|exact Kd.bM _ _ _ _ _),(by first|exact ia|exact Kd.bM _ _ _ _ _),(by first|exact ia|exact Kd.bM _ _ _ _ _),(by first|exact ia|exact Kd.bM _ _ _ _ _),From.out⟩
end Go.Proofs.YtnjfiaekdcekgaaGreatDoor.P
namespace Go.Proofs.YtnjfiaekdcekgaaGreatDoor.P
set_option maxHeartbeats 8000000
set_option maxRecDepth 100000
set_option synthInstance.maxHeartbeats 400000
set_option synthInstance.maxSize 100000
open Go.RowKit Go.Proofs.YtnjfiaekdcekgaaGreatDoorW.bS Go.Proofs.YtnjfiaekdcekgaaGreatDoorW.dU Go.Proofs.YtnjfiaekdcekgaaGreatDoorW.dX Go.Proofs.YtnjfiaekdcekgaaGreatDoor.V
attribute [local go_sem] fV fW
attribute [local go_sem] fE fI fH fL fG fK fF fJ
def ly.f (k:Nat) (l0:List (S64)):Option (Bool):=some (Q.gA l0)
attribute [local go_sem] cellR_c
theorem ly.calls (k:Nat) (A0:Option Addr) (c0:Nat) (l0:List (S64)) (r:Bool) (w:World) (cd:Kd.C k64 w A0 l0.length l0) (hc0:l0.length≤c0) (h:ly.f k l0=some r):
  Calls Tryz.prog 56 #[.slice A0 l0.length c0] w fun e w'=>e= .returned (.bool r)∧Below w.heap.size w w':=by
 have win:∀(a b c:Int) (d:Bool),decide (b≤a∧a≤c)=d→aj (∀W:World,Calls Tryz.prog 58 #[.int .i64 a,.int .i64 b,.int .i64 c] W fun e w'=>e= .returned (.bool d)∧cV W w'):=fun a b c d hd=>
  ⟨fun W=>eK.calls a b c d W (by rw[←hd];unfold eK.f;by_cases hh:b≤a<;>simp[hh])⟩
 have hm:l0.length≤9223372036854775807:=Kd.xa cd;have HQ:aj ((Q.kK (Q.jP l0 0) (l0.drop 0)&&decide (l0.length≤30))=r):=⟨Option.some.inj h⟩;have dI:=A_ cd;have px:=A_ win;clear cd h win;have hu:=Tryz.underlying64;go_enter Tryz.func56,Tryz.ntmps56;go_wp2
 go_loopg [7] (l0.length+1) (fun kq v7 w'=>∃(i:Nat),v7= .int .i64 (i:Int)∧aj (i+kq=l0.length+1)∧aj (i≤l0.length)∧aj ((Q.kK (Q.jP l0 i) (l0.drop i)&&decide (l0.length≤30))=r)∧aj (Below w.heap.size w w'))
 case atStart=>exact⟨0,rfl,⟨by omega⟩,⟨by omega⟩,HQ,⟨by repeat(first|exact Below.refl _ _|apply dB|apply pw_below_drewN|apply fC)⟩⟩
 case round=>
  clear HQ;obtain⟨i,rfl,kU,HI2,HQ,HB⟩:=hrel;have jf:From w wr:=⟨HB.out⟩;have js:Sz w wr:=⟨HB.out.size⟩;by_cases hlt:i<l0.length;rotate_left
  ·have hb3:decide ((i:Int)<(l0.length:Int))=false:=decide_eq_false (by omega);have hb4:decide (i<l0.length)=false:=decide_eq_false (by omega);obtain rfl:i=l0.length:=(by have:=HI2.out;omega);have HX:aj (decide (l0.length≤30)=r):=⟨by rw[←HQ.out,List.drop_eq_nil_of_le (Nat.le_refl _)];simp[Q.kK]⟩;have hx1:decide ((l0.length:Int)≤30)=r:=(by rw[←HX.out];exact decide_eq_decide.mpr (by omega));clear HQ dI px;go_wp2;go_ret;exact⟨by first|rfl|(simp[hx1];done),HB.out⟩
  ·have hb3:decide ((i:Int)<(l0.length:Int))=true:=decide_eq_true (by omega);have hb4:decide (i<l0.length)=true:=decide_eq_true hlt;obtain⟨ad,e,hx0,hx1,hx2,hx3⟩:=tV dI.out (i:Int) (by omega) (by omega);cases e;obtain⟨x,hx⟩:∃x,dn l0 (i:Int)=x:=⟨_,rfl⟩;rw[hx]at hx0 hx1 hx2 hx3;simp only[Int.toNat_natCast]at hx0 hx1 hx2 hx3;have j0:fx wr _ _:=⟨hW HB hx0⟩;have j1:fx wr _ _:=⟨hW HB hx1⟩;have j2:fx wr _ _:=⟨hW HB hx2⟩;have j3:fx wr _ _:=⟨hW HB hx3⟩;have e0:l0[i]=x:=(by rw[←hx];simp[dn,List.getD_eq_getElem?_getD,hlt]);have HD:=A_ (Q.U0 l0 i hlt);rw[e0]at HD;obtain⟨b1,hb1⟩:∃b,decide (0≤x.f0.f0∧x.f0.f0≤3)=b:=⟨_,rfl⟩;obtain⟨b2,hb2⟩:∃b,decide (0≤x.f0.f1∧x.f0.f1≤39)=b:=⟨_,rfl⟩;obtain⟨b3,hb3'⟩:∃b,decide (0≤x.f1∧x.f1≤2)=b:=⟨_,rfl⟩;obtain⟨b4,rT⟩:∃b,decide (0≤x.f2∧x.f2≤100000)=b:=⟨_,rfl⟩;have W1:=px.out _ _ _ _ hb1;have W2:=px.out _ _ _ _ hb2;have W3:=px.out _ _ _ _ hb3';have W4:=px.out _ _ _ _ rT;have HE:aj (Q.xU x=(b1&&(b2&&(b3&&b4)))):=⟨by rw[←hb1,←hb2,←hb3',←rT];rfl⟩;have HP:aj (0<i→Q.jP l0 i=(dn l0 ((i-1:Nat):Int)).f2):=⟨fun h0=>by rw[Q.VD l0 i h0 hlt];simp[dn,List.getD_eq_getElem?_getD,show i-1<l0.length by omega]⟩;have HZ:aj (b4=true→i=0→Q.jP l0 i≤x.f2):=⟨fun h4 h0=>by subst h0;rw[h4,decide_eq_true_eq]at rT;exact rT.1⟩;clear hx hx0 hx1 hx2 hx3 e0 px hb1 hb2 hb3' rT;cases b1 with
   |false=>
    obtain rfl:false=r:=(by rw[←HQ.out,HD.out,HE.out];rfl);clear dI HQ HD HE HP HZ
    go_wp2_with (first|((with_reducible refine gate_dst (N:=4) rfl ?_);refine bV #[.int .i64 0,.int .i64 0,.int .i64 0,.int .i64 0] 64 fun g w1 j1 j2 j3=> ?_)|(go_at_call 58;(first|(with_reducible refine(W1.out _).mono ?_)|(with_reducible refine(W2.out _).mono ?_)|(with_reducible refine(W3.out _).mono ?_)|(with_reducible refine(W4.out _).mono ?_));rintro e w' ⟨rfl,⟨nd,rfl⟩⟩))
    repeat(go_quiet (first|(go_at_call 58;(first|(with_reducible refine(W1.out _).mono ?_)|(with_reducible refine(W2.out _).mono ?_)|(with_reducible refine(W3.out _).mono ?_)|(with_reducible refine(W4.out _).mono ?_));rintro e w' ⟨rfl,⟨nd,rfl⟩⟩;exact⟨rfl,_,World.drewN_drewN _ _ _⟩));try go_wp2)
    go_ret;exact⟨rfl,From.out⟩
   |true=>
    cases b2 with
    |false=>
     obtain rfl:false=r:=(by rw[←HQ.out,HD.out,HE.out];rfl);clear dI HQ HD HE HP HZ
     go_wp2_with (first|((with_reducible refine gate_dst (N:=4) rfl ?_);refine bV #[.int .i64 0,.int .i64 0,.int .i64 0,.int .i64 0] 64 fun g w1 j1 j2 j3=> ?_)|(go_at_call 58;(first|(with_reducible refine(W1.out _).mono ?_)|(with_reducible refine(W2.out _).mono ?_)|(with_reducible refine(W3.out _).mono ?_)|(with_reducible refine(W4.out _).mono ?_));rintro e w' ⟨rfl,⟨nd,rfl⟩⟩))
     repeat(go_quiet (first|(go_at_call 58;(first|(with_reducible refine(W1.out _).mono ?_)|(with_reducible refine(W2.out _).mono ?_)|(with_reducible refine(W3.out _).mono ?_)|(with_reducible refine(W4.out _).mono ?_));rintro e w' ⟨rfl,⟨nd,rfl⟩⟩;exact⟨rfl,_,World.drewN_drewN _ _ _⟩));try go_wp2)
     go_ret;exact⟨rfl,From.out⟩
    |true=>
     cases b3 with
     |false=>
      obtain rfl:false=r:=(by rw[←HQ.out,HD.out,HE.out];rfl);clear dI HQ HD HE HP HZ
      go_wp2_with (first|((with_reducible refine gate_dst (N:=4) rfl ?_);refine bV #[.int .i64 0,.int .i64 0,.int .i64 0,.int .i64 0] 64 fun g w1 j1 j2 j3=> ?_)|(go_at_call 58;(first|(with_reducible refine(W1.out _).mono ?_)|(with_reducible refine(W2.out _).mono ?_)|(with_reducible refine(W3.out _).mono ?_)|(with_reducible refine(W4.out _).mono ?_));rintro e w' ⟨rfl,⟨nd,rfl⟩⟩))
      repeat(go_quiet (first|(go_at_call 58;(first|(with_reducible refine(W1.out _).mono ?_)|(with_reducible refine(W2.out _).mono ?_)|(with_reducible refine(W3.out _).mono ?_)|(with_reducible refine(W4.out _).mono ?_));rintro e w' ⟨rfl,⟨nd,rfl⟩⟩;exact⟨rfl,_,World.drewN_drewN _ _ _⟩));try go_wp2)
      go_ret;exact⟨rfl,From.out⟩
     |true=>
      cases b4 with
      |false=>
       obtain rfl:false=r:=(by rw[←HQ.out,HD.out,HE.out];rfl);clear dI HQ HD HE HP HZ
       go_wp2_with (first|((with_reducible refine gate_dst (N:=4) rfl ?_);refine bV #[.int .i64 0,.int .i64 0,.int .i64 0,.int .i64 0] 64 fun g w1 j1 j2 j3=> ?_)|(go_at_call 58;(first|(with_reducible refine(W1.out _).mono ?_)|(with_reducible refine(W2.out _).mono ?_)|(with_reducible refine(W3.out _).mono ?_)|(with_reducible refine(W4.out _).mono ?_));rintro e w' ⟨rfl,⟨nd,rfl⟩⟩))
       repeat(go_quiet (first|(go_at_call 58;(first|(with_reducible refine(W1.out _).mono ?_)|(with_reducible refine(W2.out _).mono ?_)|(with_reducible refine(W3.out _).mono ?_)|(with_reducible refine(W4.out _).mono ?_));rintro e w' ⟨rfl,⟨nd,rfl⟩⟩;exact⟨rfl,_,World.drewN_drewN _ _ _⟩));try go_wp2)
       go_ret;exact⟨rfl,From.out⟩
      |true=>
       have hs:(i:Int)+1≤9223372036854775807:=(by omega);by_cases hz:i=0
       ·have hz1:decide ((i:Int)>0)=false:=decide_eq_false (by omega);have hz2:decide ((0:Int)<(i:Int))=false:=decide_eq_false (by omega);have hz3:decide (0<i)=false:=decide_eq_false (by omega);have HN:aj ((Q.kK (Q.jP l0 (i+1)) (l0.drop (i+1))&&decide (l0.length≤30))=r):=⟨by rw[←HQ.out,HD.out,HE.out,show decide (Q.jP l0 i≤x.f2)=true from decide_eq_true (HZ.out rfl hz)];rfl⟩;clear HQ HD HE HP HZ hz
        go_wp2_with (first|((with_reducible refine gate_dst (N:=4) rfl ?_);refine bV #[.int .i64 0,.int .i64 0,.int .i64 0,.int .i64 0] 64 fun g w1 j1 j2 j3=> ?_)|(go_at_call 58;(first|(with_reducible refine(W1.out _).mono ?_)|(with_reducible refine(W2.out _).mono ?_)|(with_reducible refine(W3.out _).mono ?_)|(with_reducible refine(W4.out _).mono ?_));rintro e w' ⟨rfl,⟨nd,rfl⟩⟩))
        repeat(go_quiet (first|(go_at_call 58;(first|(with_reducible refine(W1.out _).mono ?_)|(with_reducible refine(W2.out _).mono ?_)|(with_reducible refine(W3.out _).mono ?_)|(with_reducible refine(W4.out _).mono ?_));rintro e w' ⟨rfl,⟨nd,rfl⟩⟩;exact⟨rfl,_,World.drewN_drewN _ _ _⟩));try go_wp2)
        go_roundg (l0.length-i)
        case measure=>have:=kU.out;omega
        case rel=>exact⟨i+1,by go_num,⟨by omega⟩,⟨by omega⟩,HN,⟨From.out⟩⟩
       ·obtain⟨j,hj⟩:∃j,j=i-1:=⟨_,rfl⟩;have hz1:decide ((i:Int)>0)=true:=decide_eq_true (by omega);have hz2:decide ((0:Int)<(i:Int))=true:=decide_eq_true (by omega);have hz3:decide (0<i)=true:=decide_eq_true (by omega);have hw1:wrap64 ((i:Int)-1)=(j:Int):=(by unfold wrap64;omega);have hw2:IntKind.i64.wrap ((i:Int)-1)=(j:Int):=(by rw[eJ];exact hw1);have hj1:(j:Int)<(l0.length:Int):=(by omega);have hj2:j<l0.length:=(by omega);have hl1:decide ((j:Int)<(l0.length:Int))=true:=decide_eq_true (by omega);have hl2:decide (j<l0.length)=true:=decide_eq_true (by omega);obtain⟨rv,e2,_,_,_,mK⟩:=tV dI.out (j:Int) (by omega) (by omega);cases e2;obtain⟨y,hy⟩:∃y,dn l0 (j:Int)=y:=⟨_,rfl⟩;have rf:=A_ (HP.out (by omega));rw[←hj,hy]at rf;rw[hy]at mK;simp only[Int.toNat_natCast]at mK;have j4:fx wr _ _:=⟨hW HB mK⟩;clear hy mK HP hj;by_cases h5:y.f2≤x.f2
        ·have LQ:decide (y.f2>x.f2)=false:=decide_eq_false (by omega);have LR:decide (x.f2<y.f2)=false:=decide_eq_false (by omega);have HN:aj ((Q.kK (Q.jP l0 (i+1)) (l0.drop (i+1))&&decide (l0.length≤30))=r):=⟨by rw[←HQ.out,HD.out,HE.out,show decide (Q.jP l0 i≤x.f2)=true from decide_eq_true (by rw[rf.out];exact h5)];rfl⟩;clear HQ HD HE rf HZ dI
         go_wp2_with (first|((with_reducible refine gate_dst (N:=4) rfl ?_);refine bV #[.int .i64 0,.int .i64 0,.int .i64 0,.int .i64 0] 64 fun g w1 j1 j2 j3=> ?_)|(go_at_call 58;(first|(with_reducible refine(W1.out _).mono ?_)|(with_reducible refine(W2.out _).mono ?_)|(with_reducible refine(W3.out _).mono ?_)|(with_reducible refine(W4.out _).mono ?_));rintro e w' ⟨rfl,⟨nd,rfl⟩⟩))
         repeat(go_quiet (first|(go_at_call 58;(first|(with_reducible refine(W1.out _).mono ?_)|(with_reducible refine(W2.out _).mono ?_)|(with_reducible refine(W3.out _).mono ?_)|(with_reducible refine(W4.out _).mono ?_));rintro e w' ⟨rfl,⟨nd,rfl⟩⟩;exact⟨rfl,_,World.drewN_drewN _ _ _⟩));try go_wp2)
         go_roundg (l0.length-i)
         case measure=>have:=kU.out;omega
         case rel=>exact⟨i+1,by go_num,⟨by omega⟩,⟨by omega⟩,HN,⟨From.out⟩⟩
        ·have LQ:decide (y.f2>x.f2)=true:=decide_eq_true (by omega);have LR:decide (x.f2<y.f2)=true:=decide_eq_true (by omega);obtain rfl:false=r:=(by rw[←HQ.out,HD.out,HE.out,show decide (Q.jP l0 i≤x.f2)=false from decide_eq_false (by rw[rf.out];exact h5)];rfl);clear HQ HD HE rf HZ dI
         go_wp2_with (first|((with_reducible refine gate_dst (N:=4) rfl ?_);refine bV #[.int .i64 0,.int .i64 0,.int .i64 0,.int .i64 0] 64 fun g w1 j1 j2 j3=> ?_)|(go_at_call 58;(first|(with_reducible refine(W1.out _).mono ?_)|(with_reducible refine(W2.out _).mono ?_)|(with_reducible refine(W3.out _).mono ?_)|(with_reducible refine(W4.out _).mono ?_));rintro e w' ⟨rfl,⟨nd,rfl⟩⟩))
         repeat(go_quiet (first|(go_at_call 58;(first|(with_reducible refine(W1.out _).mono ?_)|(with_reducible refine(W2.out _).mono ?_)|(with_reducible refine(W3.out _).mono ?_)|(with_reducible refine(W4.out _).mono ?_));rintro e w' ⟨rfl,⟨nd,rfl⟩⟩;exact⟨rfl,_,World.drewN_drewN _ _ _⟩));try go_wp2)
         go_ret;exact⟨rfl,From.out⟩
end Go.Proofs.YtnjfiaekdcekgaaGreatDoor.P
namespace Go.Proofs.YtnjfiaekdcekgaaGreatDoor.P
set_option maxHeartbeats 8000000
set_option maxRecDepth 100000
set_option synthInstance.maxHeartbeats 400000
set_option synthInstance.maxSize 100000
open Go.RowKit Go.Proofs.YtnjfiaekdcekgaaGreatDoorW.bS Go.Proofs.YtnjfiaekdcekgaaGreatDoorW.dU Go.Proofs.YtnjfiaekdcekgaaGreatDoorW.dX Go.Proofs.YtnjfiaekdcekgaaGreatDoor.V
attribute [local go_sem] fV fW cellR_c sT sU uh uq
attribute [local go_sem] fE fI fH fL fG fK fF fJ
def mh.f (k:Nat) (l0:List (S64)) (cZ:Int) (dc:Int) (e6:Int) (e7:Int):Option ((List (S64))×Bool):=(oP.f l0).bind fun Wy=>((some (([(⟨(⟨cZ,dc⟩:fp),e6,e7⟩:S64)]:List (S64)):List (S64))).bind fun XS=>(if Wy.length+XS.length<4398046511104 then((some (Wy++XS:List (S64))).bind fun XT=>((ly.f k l0).bind fun ajD=>(if ajD=true then((ly.f k XT).bind fun ajE=>(if ajE=true then(some (XT,true))else((oP.f l0).bind fun ajF=>(some (ajF,false)))))else((oP.f l0).bind fun ajG=>(some (ajG,false))))))else(none)))
noncomputable def mh.T1:Bool×List (List Nat×List Nat):=rtab .any (opsOf Tryz.f102 1)
def mh.B1:List Nat:=[0,1,0,4,15,31]
theorem mh.FN:rtab .any (opsOf Tryz.f102 1)=mh.T1:=rfl
theorem mh.Ct:eN mh.T1.2 mh.B1=true:=by kernel_rfl
theorem mh.calls (k:Nat) (A0:Option Addr) (c0:Nat) (l0:List (S64)) (cZ:Int) (dc:Int) (e6:Int) (e7:Int) (r1:List (S64)) (r2:Bool) (w:World) (cd:Kd.C k64 w A0 l0.length l0) (hc0:l0.length≤c0) (h:mh.f k l0 cZ dc e6 e7=some (r1,r2)):
  Calls Tryz.prog 102 #[.slice A0 l0.length c0,.agg #[.int .i64 cZ,.int .i64 dc,.int .i64 e6,.int .i64 e7]] w fun e w'=>∃v0_:Value,e= .returned (.tuple #[v0_,.bool r2])∧Kd.R k64 64 w' w.heap.size (fun _=>True) v0_ r1∧Below w.heap.size w w':=by
 replace cd:=cg.mk cd;replace hc0:=az.mk hc0;unfold mh.f at h;have hu64:=Tryz.underlying64
 (repeat' first|((with_reducible replace h:=cG h);rcases h with ⟨hc,h⟩|⟨hc,h⟩<;>first|exact(none_some h).elim|exact absurd hc (by decide)|subst hc|(replace hc:=br hc;subst hc)|(replace hc:=ey hc;subst hc)|(replace hc:=hH_ hc;subst hc)|(have hd:(_==_)=true:=hc)|(have hd:(_==_)=false:=br hc)|(have hd:=hI_ hc;have he:=cD hc;clear hc)|(have hd:=cE hc;have he:=hL_ hc)|(have hd:=decide_eq_false hc)|(have hd:=decide_eq_true hc;(try(have hn:=Int.natCast_pos.mp hc;have hm:=decide_eq_true hn;replace hn:=eq_true hn));first|(obtain⟨g_,e_,i_⟩:=ew (by assumption) (by first|assumption|decide) hc;cases e_)|(obtain⟨a_,e_,c_⟩:=er (by assumption) (by first|assumption|decide) hc;cases e_))|(have hd:=decide_eq_true hc)|skip)|((with_reducible replace h:=eu h);obtain⟨hl_,h⟩:=h;replace hl_:=A_ hl_;(try dsimp only at h)))
 all_goals go_enter Tryz.func102,Tryz.ntmps102
 all_goals go_wp2_with ((first
  |((with_reducible refine gate_dst (N:=3) rfl ?_);refine bV #[.int .i64 cZ,.int .i64 dc,.int .i64 e6,.int .i64 e7] 64 fun g w1 j1 j2 j3=> ?_)
  |(go_at_call 54;(try rw[hl_.out]);replace h:=bI h;obtain⟨t,A,h⟩:=h;(try dsimp only at h);refine(oP.calls _ _ _ _ _ Rd.out az.out A).mono ?_;rintro e w2 ⟨v0,rfl,ho0,hb⟩;obtain⟨B0,b0,rfl,j0,q0⟩:=aX ho0;have jb:=aK.mk hb;clear A ho0 hb)
  |(go_at_call 56;(try rw[hl_.out]);replace h:=bI h;obtain⟨t,A,h⟩:=h;(try dsimp only at h);refine(ly.calls _ _ _ _ _ _ Rd.out az.out A).mono ?_;rintro e w2 ⟨rfl,hb⟩;have jb:=aK.mk hb;clear A hb)
  |(refine qR (id:=1) (ds:=[]) (l:= #[false,false,false,false,false,false]) mh.FN mh.Ct ?_;intro ag HW_ w3 jw u0 iu hHeld;refine qA 0 (some 7) ag ?_;refine qT 2 (some 9) ag HW_ hHeld ?_;replace h:=bI h;obtain⟨t,A,h⟩:=h;(try dsimp only at h);simp only[Option.bind_some]at h;(repeat' first|((with_reducible replace h:=cG h);rcases h with ⟨hc,h⟩|⟨hc,h⟩<;>first|exact(none_some h).elim|exact absurd hc (by decide)|subst hc|(replace hc:=br hc;subst hc)|(replace hc:=ey hc;subst hc)|(replace hc:=hH_ hc;subst hc)|(have hd:(_==_)=true:=hc)|(have hd:(_==_)=false:=br hc)|(have hd:=hI_ hc;have he:=cD hc;clear hc)|(have hd:=cE hc;have he:=hL_ hc)|(have hd:=decide_eq_false hc)|(have hd:=decide_eq_true hc;(try(have hn:=Int.natCast_pos.mp hc;have hm:=decide_eq_true hn;replace hn:=eq_true hn));first|(obtain⟨g_,e_,i_⟩:=ew (by assumption) (by first|assumption|decide) hc;cases e_)|(obtain⟨a_,e_,c_⟩:=er (by assumption) (by first|assumption|decide) hc;cases e_))|(have hd:=decide_eq_true hc)|skip)|((with_reducible replace h:=eu h);obtain⟨hl_,h⟩:=h;replace hl_:=A_ hl_;(try dsimp only at h)));refine wE 1 3 (some 8) (some 10) ag (fun K hK=> ?_) (fun K hK=> ?_);(focus (refine gH Tryz.func54 (by kernel_rfl) rfl _ (by rfl) rfl rfl (by(try simp only[List.map_toArray,List.map_cons,List.map_nil]);rfl) ?_;refine(oP.calls _ _ _ _ _ Rd.out az.out A).mono ?_;rintro e u1 ⟨v0,rfl,ho0,hb⟩;obtain⟨B0,b0,rfl,j0,q0⟩:=aX ho0;have jb:=aK.mk hb;(try clear ho0 hb);refine⟨_,rfl,hK.out _ _ From.out fun hHeld=> ?_⟩;clear hK K;refine qN ?_;refine qI k64 3 64 10 ([(⟨(⟨cZ,dc⟩:fp),e6,e7⟩:S64)]:List (S64)) [.int .i64 cZ,.int .i64 dc,.int .i64 e6,.int .i64 e7] ag hHeld (bf.c4 (show Kd.M k64 _ _ _ (⟨(⟨cZ,dc⟩:fp),e6,e7⟩:S64) [.int .i64 cZ,.int .i64 dc,.int .i64 e6,.int .i64 e7]from(k64_mkM _ _ _ (⟨(⟨cZ,dc⟩:fp),e6,e7⟩:S64))) (bf.none _ _)) ?_;intro B9 b9 u9 j9 IA hHeld));rotate_left;(focus (refine NI k64 64 10 ([(⟨(⟨cZ,dc⟩:fp),e6,e7⟩:S64)]:List (S64)) [.int .i64 cZ,.int .i64 dc,.int .i64 e6,.int .i64 e7] (bf.c4 (show Kd.M k64 _ _ _ (⟨(⟨cZ,dc⟩:fp),e6,e7⟩:S64) [.int .i64 cZ,.int .i64 dc,.int .i64 e6,.int .i64 e7]from(k64_mkM _ _ _ (⟨(⟨cZ,dc⟩:fp),e6,e7⟩:S64))) (bf.none _ _)) ?_;intro B9 b9 u9 j9 IA;refine hK.out _ _ From.out fun hHeld=> ?_;clear hK K;refine qN ?_;refine qC 1 8 Tryz.func54 ag fun K hK=> ?_;refine(oP.calls _ _ _ _ _ Rd.out az.out A).mono ?_;rintro e u1 ⟨v0,rfl,ho0,hb⟩;obtain⟨B0,b0,rfl,j0,q0⟩:=aX ho0;have jb:=aK.mk hb;(try clear ho0 hb);refine⟨_,rfl,hK _ _ From.out fun hHeld=> ?_⟩;clear hK K;refine qN ?_));all_goals(refine qP k64 t ([(⟨(⟨cZ,dc⟩:fp),e6,e7⟩:S64)]:List (S64)) 4 11 (.tmp 8) (.tmp 10) 28 (.agg #[(.int .i64 0),(.int .i64 0),(.int .i64 0),(.int .i64 0)]) 32 ag hHeld Tryz.underlying28 EU rfl (by decide) (by omega) (fun _ _ h=>h) (by simp at hc ⊢;omega) ?_;intro B8 b8 u8 j8 jb8 hHeld;have q8:=az.mk (pI j8);generalize t++([(⟨(⟨cZ,dc⟩:fp),e6,e7⟩:S64)]:List (S64))=y8 at h j8 q8 ⊢;refine qA 5 (some 6) ag ?_;refine qD ag ?_)));(repeat' first|((with_reducible replace h:=cG h);rcases h with ⟨hc,h⟩|⟨hc,h⟩<;>first|exact(none_some h).elim|exact absurd hc (by decide)|subst hc|(replace hc:=br hc;subst hc)|(replace hc:=ey hc;subst hc)|(replace hc:=hH_ hc;subst hc)|(have hd:(_==_)=true:=hc)|(have hd:(_==_)=false:=br hc)|(have hd:=hI_ hc;have he:=cD hc;clear hc)|(have hd:=cE hc;have he:=hL_ hc)|(have hd:=decide_eq_false hc)|(have hd:=decide_eq_true hc;(try(have hn:=Int.natCast_pos.mp hc;have hm:=decide_eq_true hn;replace hn:=eq_true hn));first|(obtain⟨g_,e_,i_⟩:=ew (by assumption) (by first|assumption|decide) hc;cases e_)|(obtain⟨a_,e_,c_⟩:=er (by assumption) (by first|assumption|decide) hc;cases e_))|(have hd:=decide_eq_true hc)|skip)|((with_reducible replace h:=eu h);obtain⟨hl_,h⟩:=h;replace hl_:=A_ hl_;(try dsimp only at h)));all_goals(try have hn:decide (0<t.length)=true:=decide_eq_true (by omega));all_goals(try have hn:decide (0<t.length)=false:=decide_eq_false (by omega)))
 all_goals simp only[Option.some.injEq,Prod.mk.injEq]at h
 all_goals obtain⟨rfl,rfl⟩:=h
 all_goals go_ret2
 all_goals exact⟨_,rfl,(by first|exact cn|exact Kd.bM _ _ _ _ _|exact eB|exact irowFin' (by simp)),From.out⟩
end Go.Proofs.YtnjfiaekdcekgaaGreatDoor.P
namespace Go.Proofs.YtnjfiaekdcekgaaGreatDoor.Q
open Go.RowKit Go.Proofs.YtnjfiaekdcekgaaGreatDoor.P Go.Proofs.YtnjfiaekdcekgaaGreatDoorW.bS Go.Proofs.YtnjfiaekdcekgaaGreatDoorW.dX
theorem logOk_spec (l:List S64) (hl:l.length≤1048577):Ev (fun k=>wI.f k l) (gA l):=Ev.now _
theorem IK (l:List S64) (hl:l.length≤1048577):Ev (fun k=>ly.f k l) (gA l):=Ev.now _
def aQ (a b:S64):Bool:=if a.f1=b.f1 then(if a.f2=b.f2 then(if a.f0.f0=b.f0.f0 then decide (a.f0.f1<b.f0.f1)else decide (a.f0.f0<b.f0.f0))else decide (a.f2<b.f2))else decide (a.f1>b.f1)
theorem entry_eq {a b:S64} (h0:a.f0.f0=b.f0.f0) (h1:a.f0.f1=b.f0.f1) (h2:a.f1=b.f1) (h3:a.f2=b.f2):a=b:=by
  obtain⟨⟨x,y⟩,z,u⟩:=a;obtain⟨⟨x',y'⟩,z',u'⟩:=b;simp only at h0 h1 h2 h3;rw[h0,h1,h2,h3]
theorem before_total {a b:S64} (h:a≠b):aQ a b=true∨aQ b a=true:=by
  unfold aQ;by_cases h1:a.f1=b.f1
  · by_cases h2:a.f2=b.f2
    · by_cases h3:a.f0.f0=b.f0.f0
      · by_cases h4:a.f0.f1=b.f0.f1
        · exact absurd (entry_eq h3 h4 h1 h2) h
        · simp[h1,h2,h3];omega
      · simp[h1,h2,h3,Ne.symm h3];omega
    · simp[h1,h2,Ne.symm h2];omega
  · simp[h1,Ne.symm h1];omega
theorem abq {a b:S64} (h:aQ a b=true):aQ b a=false:=by
  unfold aQ at h ⊢;by_cases h1:a.f1=b.f1
  · by_cases h2:a.f2=b.f2
    · by_cases h3:a.f0.f0=b.f0.f0
      · simp[h1,h2,h3]at h ⊢;omega
      · simp[h1,h2,h3,Ne.symm h3]at h ⊢;omega
    · simp[h1,h2,Ne.symm h2]at h ⊢;omega
  · simp[h1,Ne.symm h1]at h ⊢;omega
theorem before_irrefl (a:S64):aQ a a=false:=by simp[aQ]
theorem RB {a b:S64}:aQ a b=true↔a.f1>b.f1∨(a.f1=b.f1∧(a.f2<b.f2∨(a.f2=b.f2∧(a.f0.f0<b.f0.f0∨(a.f0.f0=b.f0.f0∧a.f0.f1<b.f0.f1))))):=by
  unfold aQ;by_cases h1:a.f1=b.f1
  · by_cases h2:a.f2=b.f2
    · by_cases h3:a.f0.f0=b.f0.f0
      · rw[if_pos h1,if_pos h2,if_pos h3,decide_eq_true_eq];omega
      · rw[if_pos h1,if_pos h2,if_neg h3,decide_eq_true_eq];omega
    · rw[if_pos h1,if_neg h2,decide_eq_true_eq];omega
  · rw[if_neg h1,decide_eq_true_eq];omega
theorem before_trans {a b c:S64} (h:aQ a b=true) (k:aQ b c=true):aQ a c=true:=by
  rw[RB]at h k ⊢;omega
theorem Wb:∀{xs ys:List S64},xs.Pairwise (fun a b=>aQ a b=true)→ys.Pairwise (fun a b=>aQ a b=true)→(∀a,a∈xs↔a∈ys)→xs=ys
  |[],[],_,_,_=>rfl
  |[],y::_,_,_,h=>by have:=(h y).mpr (by simp);simp at this
  |x::_,[],_,_,h=>by have:=(h x).mp (by simp);simp at this
  |x::xs,y::ys,hx,hy,h=>by
   obtain⟨hx1,hx2⟩:=List.pairwise_cons.1 hx;obtain⟨hy1,hy2⟩:=List.pairwise_cons.1 hy
   have e:x=y:=by
     rcases List.mem_cons.1 ((h x).mp (by simp))with e|e
     · exact e
     rcases List.mem_cons.1 ((h y).mpr (by simp))with e'|e'
     · exact e'.symm
     have a1:=hy1 x e;have a2:=hx1 y e';rw[abq a1]at a2;cases a2
   subst e
   rw[Wb hx2 hy2 (fun a=>⟨fun ha=>by
     rcases List.mem_cons.1 ((h a).mp (List.mem_cons_of_mem _ ha))with e|e
     · subst e;have:=hx1 a ha;rw[before_irrefl]at this;cases this
     · exact e,fun ha=>by
     rcases List.mem_cons.1 ((h a).mpr (List.mem_cons_of_mem _ ha))with e|e
     · subst e;have:=hy1 a ha;rw[before_irrefl]at this;cases this
     · exact e⟩)]
def wa (x:S64) (out:List S64):Nat→List S64
  |0=>x::out
  |n+1=>if aQ x (out.getD n z64)=true then wa x out n else out.take (n+1)++x::out.drop (n+1)
theorem U5 (x:S64) (out:List S64) (a:S64):∀n,a∈wa x out n↔a=x∨a∈out
  |0=>by simp[wa]
  |n+1=>by
   unfold wa
   split
   · exact U5 x out a n
   · rw[List.mem_append,List.mem_cons];constructor
     · rintro(h|h|h)
       · exact .inr (List.mem_of_mem_take h)
       · exact .inl h
       · exact .inr (List.mem_of_mem_drop h)
     · rintro(h|h)
       · exact .inr (.inl h)
       · rw[←List.take_append_drop (n+1) out,List.mem_append]at h;rcases h with h|h
         · exact .inl h
         · exact .inr (.inr h)
theorem Wc (x:S64) (out:List S64) (hs:out.Pairwise (fun a b=>aQ a b=true)) (hx:∀a∈out,a≠x):
    ∀n,n≤out.length→(∀a∈out.drop n,aQ x a=true)→(wa x out n).Pairwise (fun a b=>aQ a b=true)
  |0,_,h=>by
   unfold wa;exact List.pairwise_cons.2 ⟨fun a ha=>h a (by simpa using ha),hs⟩
  |n+1,hn,h=>by
   have hlt:n<out.length:=(by omega);have e:out.getD n z64=out[n]:=(by simp[List.getD_eq_getElem?_getD,hlt]);unfold wa;rw[e]
   split
   · rename_i hb
     refine Wc x out hs hx n (by omega) fun a ha=> ?_;rw[List.drop_eq_getElem_cons hlt]at ha;rcases List.mem_cons.1 ha with rfl|ha
     · exact hb
     · exact h a ha
   · rename_i hb
     have T_:aQ out[n] x=true:=by
       rcases before_total (hx out[n] (List.getElem_mem hlt))with h'|h'
       · exact h'
       · exact absurd h' hb
     have hs':=hs;rw[←List.take_append_drop (n+1) out]at hs';obtain⟨p1,p2,p3⟩:=List.pairwise_append.1 hs';refine List.pairwise_append.2 ⟨p1,List.pairwise_cons.2 ⟨h,p2⟩,fun a ha b hb'=> ?_⟩
     have hax:aQ a x=true:=by
       rw[List.take_succ_eq_append_getElem hlt,List.mem_append,List.mem_singleton]at ha;rcases ha with ha|rfl
       · rw[List.take_succ_eq_append_getElem hlt]at p1;exact before_trans ((List.pairwise_append.1 p1).2.2 a ha out[n] (by simp)) T_
       · exact T_
     rcases List.mem_cons.1 hb' with rfl|hb'
     · exact hax
     · exact p3 a ha b hb'
def MW (x y:S64):Bool:= !(y.f0.f0==x.f0.f0)|| !(y.f0.f1==x.f0.f1)
def ID (l:List S64) (i:Nat):Bool:=((l.getD i z64).f1 != 0)&&(l.drop (i+1)).all (MW (l.getD i z64))
def oh (l:List S64):Nat→List S64
  |0=>[]
  |i+1=>if ID l i=true then wa (l.getD i z64) (oh l i) (oh l i).length else oh l i
theorem Vc {x y:S64}:MW x y=true↔y.f0≠x.f0:=by
  have e:y.f0=x.f0↔y.f0.f0=x.f0.f0∧y.f0.f1=x.f0.f1:=by
    obtain⟨⟨a,b⟩,c,d⟩:=x;obtain⟨⟨a',b'⟩,c',d'⟩:=y;simp
  unfold MW;rw[ne_eq,e];by_cases h0:y.f0.f0=x.f0.f0<;>by_cases h1:y.f0.f1=x.f0.f1<;>simp[h0,h1]
theorem MN (l:List S64) (p:fp) (x:S64):
    ∀n,n≤l.length→(pG (l.take n) p=some x↔∃i,i<n∧l[i]? =some x∧x.f0=p∧∀j y,i<j→j<n→l[j]? =some y→y.f0≠p)
  |0,_=>by
   constructor
   · intro h;simp[pG]at h
   · rintro⟨i,hi,_⟩;omega
  |n+1,hn=>by
   have hlt:n<l.length:=(by omega);have ih:=MN l p x n (by omega);have eg:l[n]? =some l[n]:=List.getElem?_eq_getElem hlt;rw[List.take_succ_eq_append_getElem hlt,UU];by_cases hp:p=l[n].f0
   · simp only[if_pos hp,Option.some.injEq];constructor
     · intro e;subst e;exact⟨n,by omega,eg,hp.symm,fun j y h1 h2 _=>by omega⟩
     · rintro⟨i,hi,h1,h2,h3⟩;by_cases hin:i=n
       · subst hin;rw[eg]at h1;exact Option.some.inj h1
       · exact absurd hp.symm (h3 n _ (by omega) (by omega) eg)
   · simp only[if_neg hp];rw[ih];constructor
     · rintro⟨i,hi,h1,h2,h3⟩;refine⟨i,by omega,h1,h2,fun j y k1 k2 k3=> ?_⟩;by_cases hjn:j=n
       · subst hjn;rw[eg]at k3;cases k3;exact fun e=>hp e.symm
       · exact h3 j y k1 (by omega) k3
     · rintro⟨i,hi,h1,h2,h3⟩;by_cases hin:i=n
       · subst hin;rw[eg]at h1;cases h1;exact absurd h2.symm hp
       · exact⟨i,by omega,h1,h2,fun j y k1 k2 k3=>h3 j y k1 (by omega) k3⟩
theorem MM (l:List S64) (i:Nat) (x:S64) (hx:l[i]? =some x):ID l i=true↔x.f1≠0∧∀j y,i<j→l[j]? =some y→y.f0≠x.f0:=by
  have eg:l.getD i z64=x:=by simp[List.getD_eq_getElem?_getD,hx]
  unfold ID;rw[eg,Bool.and_eq_true,bne_iff_ne,List.all_eq_true];constructor
  · rintro⟨h1,h2⟩;refine⟨h1,fun j y hj hy=>Vc.mp (h2 y ?_)⟩;rw[List.mem_iff_getElem?];exact⟨j-(i+1),by rw[List.getElem?_drop,show i+1+(j-(i+1))=j by omega];exact hy⟩
  · rintro⟨h1,h2⟩;refine⟨h1,fun y hy=>Vc.mpr ?_⟩;rw[List.mem_iff_getElem?]at hy;obtain⟨k,hk⟩:=hy;rw[List.getElem?_drop]at hk;exact h2 _ y (by omega) hk
theorem E3 (l:List S64) (x:S64):∀n,n≤l.length→(x∈oh l n↔∃i,i<n∧ID l i=true∧l[i]? =some x)
  |0,_=>by
   constructor
   · intro h;simp[oh]at h
   · rintro⟨i,hi,_⟩;omega
  |n+1,hn=>by
   have hlt:n<l.length:=(by omega);have eg:l[n]? =some l[n]:=List.getElem?_eq_getElem hlt;have ed:l.getD n z64=l[n]:=(by simp[List.getD_eq_getElem?_getD,hlt]);have ih:=E3 l x n (by omega);unfold oh
   split
   · rename_i hl
     rw[U5,ih,ed];constructor
     · rintro(e|⟨i,h1,h2,h3⟩)
       · exact⟨n,by omega,hl,by rw[e];exact eg⟩
       · exact⟨i,by omega,h2,h3⟩
     · rintro⟨i,h1,h2,h3⟩;by_cases hin:i=n
       · subst hin;rw[eg]at h3;exact .inl (Option.some.inj h3).symm
       · exact .inr ⟨i,by omega,h2,h3⟩
   · rename_i hl
     rw[ih];constructor
     · rintro⟨i,h1,h2,h3⟩;exact⟨i,by omega,h2,h3⟩
     · rintro⟨i,h1,h2,h3⟩;by_cases hin:i=n
       · subst hin;exact absurd h2 hl
       · exact⟨i,by omega,h2,h3⟩
theorem Wd (l:List S64):∀n,n≤l.length→(oh l n).Pairwise (fun a b=>aQ a b=true)
  |0,_=>by simp[oh]
  |n+1,hn=>by
   have hlt:n<l.length:=(by omega);have eg:l[n]? =some l[n]:=List.getElem?_eq_getElem hlt;have ed:l.getD n z64=l[n]:=(by simp[List.getD_eq_getElem?_getD,hlt]);have ih:=Wd l n (by omega);unfold oh
   split
   · refine Wc _ _ ih (fun a ha e=> ?_) _ (Nat.le_refl _) (by rw[xR];intro a ha;cases ha);rw[ed]at e;obtain⟨i,h1,h2,h3⟩:=(E3 l a n (by omega)).mp ha;exact((MM l i a h3).mp h2).2 n _ h1 eg (by rw[e])
   · exact ih
theorem MU (l:List S64) (x:S64):x∈oh l l.length↔pG l x.f0=some x∧x.f1≠0:=by
  rw[E3 l x l.length (Nat.le_refl _)];have H:=MN l x.f0 x l.length (Nat.le_refl _);rw[List.take_length]at H;rw[H];constructor
  · rintro⟨i,h1,h2,h3⟩;obtain⟨k1,k2⟩:=(MM l i x h3).mp h2;exact⟨⟨i,h1,h3,rfl,fun j y a b c=>k2 j y a c⟩,k1⟩
  · rintro⟨⟨i,h1,h2,_,h3⟩,k1⟩;refine⟨i,h1,(MM l i x h2).mpr ⟨k1,fun j y a c=>h3 j y a ?_ c⟩,h2⟩;exact(List.getElem?_eq_some_iff.mp c).1
theorem agR (l xs:List S64) (hs:xs.Pairwise (fun a b=>aQ a b=true)) (hm:∀x,x∈xs↔pG l x.f0=some x∧x.f1≠0):xs=oh l l.length:=
  Wb hs (Wd l l.length (Nat.le_refl _)) (fun a=>(hm a).trans (MU l a).symm)
def CR (r n f m:Int):S64:=⟨⟨r,n⟩,f,m⟩
def addEntry (l:List S64) (r n f m:Int):List S64×Bool:=if gA l=true∧gA (l++[CR r n f m])=true then(l++[CR r n f m],true)else(l,false)
theorem Rx (l:List S64) (r n f m:Int) (hl:l.length≤1048576):Ev (fun k=>mh.f k l r n f m) (addEntry l r n f m):=by
  unfold mh.f addEntry;refine bR (CP l (by omega)) (bR rfl (evp (by simp;omega) (bR rfl (Ev.bind (IK l (by omega)) ?_))));by_cases h:gA l=true;rotate_left
  · exact cq (fun h2=>h h2.1)<|aT h (bR (CP l (by omega)) (Ev.now _))
  refine evp h (Ev.bind (IK _ (by simp;omega)) ?_);by_cases h2:gA (l++[CR r n f m])=true
  · exact df ⟨h,h2⟩<|evp h2 (Ev.now _)
  · exact cq (fun h3=>h2 h3.2)<|aT h2 (bR (CP l (by omega)) (Ev.now _))
theorem abk (l:List S64) (r n f m:Int) (hl:l.length≤1048576):Ev (fun k=>spec_AddEntry.f k l r n f m) (addEntry l r n f m):=by
  unfold spec_AddEntry.f addEntry;refine bR (IC l (by omega)) (bR rfl (evp (by simp;omega) (bR rfl (Ev.bind (logOk_spec l (by omega)) ?_))));by_cases h:gA l=true;rotate_left
  · exact cq (fun h2=>h h2.1)<|aT h (bR (IC l (by omega)) (Ev.now _))
  refine evp h (Ev.bind (logOk_spec _ (by simp;omega)) ?_);by_cases h2:gA (l++[CR r n f m])=true
  · exact df ⟨h,h2⟩<|evp h2 (Ev.now _)
  · exact cq (fun h3=>h2 h3.2)<|aT h2 (bR (IC l (by omega)) (Ev.now _))
theorem Rw (l:List S64) (r n f m:Int):(addEntry l r n f m).1.length≤l.length+1:=by
  unfold addEntry;split<;>simp
def ac7 (p:fp):Prop:=0≤p.f0∧p.f0≤1∧0≤p.f1∧p.f1≤5
section
variable (b:List Int) (hb:b.length≤1048576)
include hb
theorem ahf (i h:Int) (hi:0≤i):∃r n i' h',wN.f b i h=some (r,n,i',h')∧ac7 ⟨r,n⟩∧0≤i':=by
  unfold wN.f;obtain⟨r,i1,h1,e1,r0,r1,_,j1⟩:=kZ b hb i h 2 hi;obtain⟨n,i2,h2,e2,n0,n1,_,j2⟩:=kZ b hb i1 h1 6 j1;rw[e1,Option.bind_some];dsimp only;rw[e2,Option.bind_some];exact⟨_,_,_,_,rfl,⟨r0,by have:=r1 (by omega);dsimp only;omega,n0,by have:=n1 (by omega);dsimp only;omega⟩,j2⟩
end
end Go.Proofs.YtnjfiaekdcekgaaGreatDoor.Q
namespace Go.Proofs.YtnjfiaekdcekgaaGreatDoor.P
open Go.RowKit Go.Proofs.YtnjfiaekdcekgaaGreatDoorW.bS
theorem af7 {l:List S64} (h:Q.gA l=true):l.length≤30∧(∀x∈l,eO x.f0.f0∧eO x.f0.f1)∧∀x∈l,0≤x.f1∧x.f1≤2:=by
  have h1:l.length≤30:=by simp[Q.gA]at h;exact h.2
  have h2:Q.kK 0 l=true:=by simp[Q.gA]at h;exact h.1
  have key:∀(l:List S64) (p:Int),Q.kK p l=true→∀x∈l,(eO x.f0.f0∧eO x.f0.f1)∧0≤x.f1∧x.f1≤2:=by
    intro l
    induction l with
    |nil=>intro p _ x hx;cases hx
    |cons e r ih=>
     intro p h x hx;simp only[Q.kK,Bool.and_eq_true]at h;rcases List.mem_cons.1 hx with rfl|hx
     · have:=h.1;simp[Q.xU]at this;exact⟨⟨BM (by omega) (by omega),BM (by omega) (by omega)⟩,by omega,by omega⟩
     · exact ih _ h.2.2 x hx
  exact⟨h1,fun x hx=>(key l 0 h2 x hx).1,fun x hx=>(key l 0 h2 x hx).2⟩
end Go.Proofs.YtnjfiaekdcekgaaGreatDoor.P
namespace Go.Proofs.YtnjfiaekdcekgaaGreatDoor.P
open Go.RowKit Go.Proofs.YtnjfiaekdcekgaaGreatDoorW.bS Go.Proofs.YtnjfiaekdcekgaaGreatDoorW.dU Go.Proofs.YtnjfiaekdcekgaaGreatDoorW.dX Go.Proofs.YtnjfiaekdcekgaaGreatDoor.V
open Go.Maps (Keyed)
attribute [local go_sem] fV fW
structure Found (m:fp→Option S64) (left:Lit→Bool) (xs:List S64):Prop where
  all:∀x∈xs,m x.f0=some x∧x.f1≠0∧eO x.f0.f0∧eO x.f0.f1∧left (lD x.f0.f0 x.f0.f1)=false
  nodup:xs.Pairwise (fun a b=>a.f0≠b.f0)
  got:∀(p:fp) (x:S64),eO p.f0→eO p.f1→m p=some x→x.f1≠0→left (lD p.f0 p.f1)=false→x∈xs
theorem Found.step {m:fp→Option S64} {left:Lit→Bool} {xs:List S64} (h:Found m left xs) (c:S64) (h0:eO c.f0.f0) (h1:eO c.f0.f1) (hm:m c.f0=some c)
    (hl:left (lD c.f0.f0 c.f0.f1)=true):Found m (fun z=>left z&& !z.sameKey (lD c.f0.f0 c.f0.f1)) (if c.f1≠0 then xs++[c]else xs):=by
  have hk:=yY.key (yz h0 h1);have aeQ:(lD c.f0.f0 c.f0.f1).sameKey (lD c.f0.f0 c.f0.f1)=true:=WideAt.sameKey_self hk
  have hold:∀p x,eO p.f0→eO p.f1→m p=some x→x.f1≠0→(left (lD p.f0 p.f1)&& !(lD p.f0 p.f1).sameKey (lD c.f0.f0 c.f0.f1))=false→x∈xs∨x=c:=by
    intro p x p0 p1 hp hx hf;rw[Bool.and_eq_false_iff]at hf;rcases hf with hf|hf
    · exact .inl (h.got p x p0 p1 hp hx hf)
    · by_cases he:lD p.f0 p.f1=lD c.f0.f0 c.f0.f1
      · obtain⟨e0,e1⟩:=Vt p0 p1 h0 h1 he
        have:p=c.f0:=by
          obtain⟨a,b⟩:=p;obtain⟨⟨u,v⟩,_,_⟩:=c;simp only at e0 e1;rw[e0,e1]
        subst this;rw[hm]at hp;exact .inr (Option.some.inj hp).symm
      · rw[Maps.sameKey_ne he]at hf;cases hf
  by_cases hc:c.f1≠0
  · rw[if_pos hc];refine⟨fun x hx=> ?_,?_,fun p x p0 p1 hp hx hf=> ?_⟩
    · rcases List.mem_append.1 hx with hx|hx
      · obtain⟨a,b,u,v,w⟩:=h.all x hx;exact⟨a,b,u,v,by rw[w];rfl⟩
      · rw[List.mem_singleton]at hx;subst hx;exact⟨hm,hc,h0,h1,by rw[aeQ];simp⟩
    · refine List.pairwise_append.2 ⟨h.nodup,List.pairwise_singleton _ _,fun a ha b hb e=> ?_⟩;rw[List.mem_singleton]at hb;subst hb;have:=(h.all a ha).2.2.2.2;rw[e,hl]at this;cases this
    · rcases hold p x p0 p1 hp hx hf with h'|h'
      · exact List.mem_append_left _ h'
      · rw[h'];simp
  · rw[if_neg hc];refine⟨fun x hx=> ?_,h.nodup,fun p x p0 p1 hp hx hf=> ?_⟩
    · obtain⟨a,b,u,v,w⟩:=h.all x hx;exact⟨a,b,u,v,by rw[w];rfl⟩
    · rcases hold p x p0 p1 hp hx hf with h'|h'
      · exact h'
      · rw[h']at hx;exact absurd hx hc
theorem agb {D:DataW Unit} {m:fp→Option S64} (h:vH D m) {p:fp} (h0:eO p.f0) (h1:eO p.f1) {c:S64} (hat:∀zd,D.atKey (lD p.f0 p.f1) zd=qG c):m p=some c:=by
  cases hm:m p with
  |none=>
   have a:=(h.at_ p h0 h1 (.map [])).symm.trans (hat _);rw[hm]at a;exact absurd a (by simp[qG])
  |some x=>
   have a:=(h.at_ p h0 h1 (.map [])).symm.trans (hat _);rw[hm]at a;exact congrArg some (NJ a)
end Go.Proofs.YtnjfiaekdcekgaaGreatDoor.P
namespace Go.Proofs.YtnjfiaekdcekgaaGreatDoor.P
set_option maxHeartbeats 8000000
set_option maxRecDepth 100000
set_option synthInstance.maxHeartbeats 400000
set_option synthInstance.maxSize 100000
open Go.RowKit Go.Proofs.YtnjfiaekdcekgaaGreatDoorW.bS Go.Proofs.YtnjfiaekdcekgaaGreatDoorW.dU Go.Proofs.YtnjfiaekdcekgaaGreatDoorW.dX Go.Proofs.YtnjfiaekdcekgaaGreatDoor.V
attribute [local go_sem] fV fW
attribute [local go_sem] fE fI fH fL fG fK fF fJ
def ye.f (l0:List (S64)) (cZ:Int) (dc:Int):Option (Int):=if eO cZ∧eO dc∧l0.length≤1048577 then some (if Q.gA l0=true then AK l0 ⟨cZ,dc⟩else 0)else none
theorem af_ {l:List S64} (h:Q.gA l=true):l.length≤1000∧∀x∈l,eO x.f0.f0∧eO x.f0.f1:=by
 have h1:l.length≤30:=by simp[Q.gA]at h;exact h.2
 refine⟨by omega,fun x hx=> ?_⟩;have h2:Q.kK 0 l=true:=by simp[Q.gA]at h;exact h.1
 have key:∀(l:List S64) (p:Int),Q.kK p l=true→∀x∈l,eO x.f0.f0∧eO x.f0.f1:=by
  intro l
  induction l with
  |nil=>intro p _ x hx;cases hx
  |cons e r ih=>
   intro p h x hx;simp only[Q.kK,Bool.and_eq_true]at h;rcases List.mem_cons.1 hx with rfl|hx
   ·have:=h.1;simp[Q.xU]at this;exact⟨BM (by omega) (by omega),BM (by omega) (by omega)⟩
   ·exact ih _ h.2.2 x hx
 exact key l 0 h2 x hx
theorem ye.calls (A0:Option Addr) (c0:Nat) (l0:List (S64)) (cZ:Int) (dc:Int) (r:Int) (w:World) (cd:Kd.C k64 w A0 l0.length l0) (hc0:l0.length≤c0) (h:ye.f l0 cZ dc=some r):
  Calls Tryz.prog 105 #[.slice A0 l0.length c0,.agg #[.int .i64 cZ,.int .i64 dc]] w fun e w'=>e= .returned (.int .i64 r)∧Below w.heap.size w w':=by
 unfold ye.f at h;by_cases h0:eO cZ∧eO dc∧l0.length≤1048577;rotate_left
 ·rw[if_neg h0]at h;cases h
 rw[if_pos h0]at h;obtain⟨k,hk⟩:=Q.IK l0 h0.2.2;have A:=hk k (Nat.le_refl _);have i0:=cg.mk cd;have i1:=az.mk hc0;clear hk cd hc0;by_cases hb:Q.gA l0=true
 ·rw[if_pos hb]at h;rw[hb]at A;obtain⟨hl,hw⟩:=af_ hb;obtain rfl:=Option.some.inj h;have HF:aj (AK l0 ⟨cZ,dc⟩=((pG l0 ⟨cZ,dc⟩).getD z64).f1):=⟨rfl⟩;obtain⟨res,hres⟩:∃res,AK l0 ⟨cZ,dc⟩=res:=⟨_,rfl⟩;rw[hres]at HF;rw[hres];have A:=A_ A;have HW:=A_ hw;have H0:=A_ h0;clear h hres hw h0 hb;have aeV:=Tryz.underlying64;have aeU:=Tryz.underlying62;have hfe:=ac4;go_enter Tryz.func105,Tryz.ntmps105
  go_wp2_with (first
   |((with_reducible refine gate_dst (N:=3) rfl ?_);refine bV #[.int .i64 cZ,.int .i64 dc] 62 fun g w1 j1 j2 j3=> ?_)
   |(go_at_call 56;refine(ly.calls k _ _ _ true _ Rd.out az.out A.out).mono ?_;rintro e w2 ⟨rfl,hb⟩;have jb:=aK.mk hb;clear hb)
   |(go_at_call 133;refine(MD.calls _ _ _ _ Rd.out az.out hl HW.out).mono ?_;rintro e w3 ⟨b,rfl,hb1,hm,hb⟩;obtain⟨D,hD,rS⟩:=hm;have jb:=aK.mk hb;obtain⟨x,hrun,hx⟩:=U3 hD rS ⟨cZ,dc⟩ H0.out.1 H0.out.2.1;have HX:=A_ hx;clear hb hb1 hD rS hx)
   |((with_reducible refine Fg ?_);intro w3 jw;go_region_held3 (fun w'=>Sin w3 w') (first|exact⟨From.out⟩|skip) (first|(go_at_call 56;refine(ly.calls k _ _ _ true _ Rd.out az.out A.out).mono ?_;rintro e w2 ⟨rfl,hb⟩;have jb:=aK.mk hb;clear hb)|(go_at_call 133;refine(MD.calls _ _ _ _ Rd.out az.out hl HW.out).mono ?_;rintro e w3 ⟨b,rfl,hb1,hm,hb⟩;obtain⟨D,hD,rS⟩:=hm;have jb:=aK.mk hb;obtain⟨x,hrun,hx⟩:=U3 hD rS ⟨cZ,dc⟩ H0.out.1 H0.out.2.1;have HX:=A_ hx;clear hb hb1 hD rS hx))))
  go_ret;have e9:x.f1=res:=by rw[HF.out,←HX.out]
  exact⟨by rw[←e9];rfl,From.out⟩
 ·rw[if_neg hb]at h;replace hb:=Bool.eq_false_iff.mpr hb;rw[hb]at A;obtain rfl:=Option.some.inj h;have A:=A_ A;clear h h0 hb;go_enter Tryz.func105,Tryz.ntmps105
  go_wp2_with (first
   |((with_reducible refine gate_dst (N:=3) rfl ?_);refine bV #[.int .i64 cZ,.int .i64 dc] 62 fun g w1 j1 j2 j3=> ?_)
   |(go_at_call 56;refine(ly.calls k _ _ _ false _ Rd.out az.out A.out).mono ?_;rintro e w2 ⟨rfl,hb⟩;have jb:=aK.mk hb;clear hb))
  go_ret;exact⟨rfl,From.out⟩
end Go.Proofs.YtnjfiaekdcekgaaGreatDoor.P
namespace Go.Proofs.YtnjfiaekdcekgaaGreatDoor.P
set_option maxRecDepth 100000
set_option synthInstance.maxHeartbeats 400000
set_option synthInstance.maxSize 100000
open Go.RowKit Go.Proofs.YtnjfiaekdcekgaaGreatDoorW.bS Go.Proofs.YtnjfiaekdcekgaaGreatDoorW.dU Go.Proofs.YtnjfiaekdcekgaaGreatDoorW.dX Go.Proofs.YtnjfiaekdcekgaaGreatDoor.V
attribute [local go_sem] fV fW
attribute [local go_sem] fE fI fH fL fG fK fF fJ
def impl_ShopOk.f (k:Nat) (ak:List (ar)) (ax:Int) (aq:List Int) (aN:Int) (a0_4:Int) (aD:List (S64)):Option (Bool):=some (Q.iT ak ax aq aN a0_4 aD)
attribute [local go_sem] cellR_c
set_option maxHeartbeats 2000000 in
theorem impl_ShopOk.calls (k:Nat) (aU:Option Addr) (c0_0:Nat) (ak:List (ar)) (ax:Int) (a6:Option Addr) (aW:Nat) (aq:List Int) (aN:Int) (a0_4:Int) (cy:Option Addr) (cu:Nat) (aD:List (S64)) (r:Bool) (w:World) (cp:Kd.C bl w aU ak.length ak) (cx:ak.length≤c0_0) (cv:Kd.C (Kd.int .i64) w a6 aq.length aq) (cA:aq.length≤aW) (dW:Kd.C k64 w cy aD.length aD) (eC:aD.length≤cu) (h:impl_ShopOk.f k ak ax aq aN a0_4 aD=some r):
  Calls Tryz.prog 28 #[.agg #[.slice aU ak.length c0_0,.int .i64 ax,.slice a6 aq.length aW,.int .i64 aN,.int .i64 a0_4,.slice cy aD.length cu]] w fun e w'=>e= .returned (.bool r)∧Below w.heap.size w w':=by
 obtain⟨b1,hb1⟩:∃b,eX ak ax aq=b:=⟨_,rfl⟩;obtain⟨b2,hb2⟩:∃b,Q.gA aD=b:=⟨_,rfl⟩;obtain⟨b3,hb3⟩:∃b,decide (-10≤aN∧aN≤40)=b:=⟨_,rfl⟩;obtain⟨b4,hb4⟩:∃b,decide (0≤a0_4∧a0_4≤100000)=b:=⟨_,rfl⟩;obtain⟨b5,pD⟩:∃b,decide (Q.qE aD a0_4)=b:=⟨_,rfl⟩;have HQ:aj ((b1&&(b2&&(b3&&(b4&&b5))))=r):=⟨by rw[←hb1,←hb2,←hb3,←hb4,←pD];exact Option.some.inj h⟩;have A1:aj (lS.f ak ax aq=some b1):=⟨by rw[←hb1];rfl⟩;have A2:aj (ly.f k aD=some b2):=⟨by rw[←hb2];rfl⟩;have A4:aj (eK.f a0_4 0 100000=some b4):=⟨by rw[←hb4];unfold eK.f;by_cases hh:0≤a0_4<;>simp[hh]⟩;have A3:aj (lz.f aN=some b3):=⟨by rw[←hb3];unfold lz.f eK.f;by_cases hh: -10≤aN<;>simp[hh]⟩;have H5:=A_ pD;have HR:=A_ dW;have HM:=A_ (Kd.xa dW);have i0:=cg.mk cp;have i1:=az.mk cx;have i2:=cg.mk cv;have i3:=az.mk cA;have i4:=cg.mk dW;have i5:=az.mk eC;have hu:=Tryz.underlying30;clear cp cx cv cA dW eC h hb1 hb2 hb3 hb4 pD;cases b1 with
 |false=>
  obtain rfl:false=r:=HQ.out;clear HQ H5 HR HM;go_enter Tryz.func28,Tryz.ntmps28
  go_wp2_with (first|((with_reducible refine gate_dst (N:=1) rfl ?_);(try(refine mg (by rfl) ?_;dsimp only));refine bV #[.slice aU ak.length c0_0,.int .i64 ax,.slice a6 aq.length aW,.int .i64 aN,.int .i64 a0_4,.slice cy aD.length cu] 30 fun g w1 j1 j2 j3=> ?_)|(go_at_call 55;refine(lS.calls _ _ _ _ _ _ _ _ _ Rd.out az.out Rd.out az.out A1.out).mono ?_;rintro e w2 ⟨rfl,hb⟩;have jb:=aK.mk hb;clear hb)|(go_at_call 56;refine(ly.calls k _ _ _ _ _ Rd.out az.out A2.out).mono ?_;rintro e w2 ⟨rfl,hb⟩;have jb:=aK.mk hb;clear hb)|(go_at_call 57;refine(lz.calls _ _ _ A3.out).mono ?_;rintro e w2 ⟨rfl,n,rfl⟩)|(go_at_call 58;refine(eK.calls _ _ _ _ _ A4.out).mono ?_;rintro e w2 ⟨rfl,n,rfl⟩))
  repeat(go_quiet (fail);try go_wp2)
  go_ret;exact⟨rfl,From.out⟩
 |true=>
  cases b2 with
  |false=>
   obtain rfl:false=r:=HQ.out;clear HQ H5 HR HM;go_enter Tryz.func28,Tryz.ntmps28
   go_wp2_with (first|((with_reducible refine gate_dst (N:=1) rfl ?_);(try(refine mg (by rfl) ?_;dsimp only));refine bV #[.slice aU ak.length c0_0,.int .i64 ax,.slice a6 aq.length aW,.int .i64 aN,.int .i64 a0_4,.slice cy aD.length cu] 30 fun g w1 j1 j2 j3=> ?_)|(go_at_call 55;refine(lS.calls _ _ _ _ _ _ _ _ _ Rd.out az.out Rd.out az.out A1.out).mono ?_;rintro e w2 ⟨rfl,hb⟩;have jb:=aK.mk hb;clear hb)|(go_at_call 56;refine(ly.calls k _ _ _ _ _ Rd.out az.out A2.out).mono ?_;rintro e w2 ⟨rfl,hb⟩;have jb:=aK.mk hb;clear hb)|(go_at_call 57;refine(lz.calls _ _ _ A3.out).mono ?_;rintro e w2 ⟨rfl,n,rfl⟩)|(go_at_call 58;refine(eK.calls _ _ _ _ _ A4.out).mono ?_;rintro e w2 ⟨rfl,n,rfl⟩))
   repeat(go_quiet (fail);try go_wp2)
   go_ret;exact⟨rfl,From.out⟩
  |true=>
   cases b3 with
   |false=>
    obtain rfl:false=r:=HQ.out;clear HQ H5 HR HM;go_enter Tryz.func28,Tryz.ntmps28
    go_wp2_with (first|((with_reducible refine gate_dst (N:=1) rfl ?_);(try(refine mg (by rfl) ?_;dsimp only));refine bV #[.slice aU ak.length c0_0,.int .i64 ax,.slice a6 aq.length aW,.int .i64 aN,.int .i64 a0_4,.slice cy aD.length cu] 30 fun g w1 j1 j2 j3=> ?_)|(go_at_call 55;refine(lS.calls _ _ _ _ _ _ _ _ _ Rd.out az.out Rd.out az.out A1.out).mono ?_;rintro e w2 ⟨rfl,hb⟩;have jb:=aK.mk hb;clear hb)|(go_at_call 56;refine(ly.calls k _ _ _ _ _ Rd.out az.out A2.out).mono ?_;rintro e w2 ⟨rfl,hb⟩;have jb:=aK.mk hb;clear hb)|(go_at_call 57;refine(lz.calls _ _ _ A3.out).mono ?_;rintro e w2 ⟨rfl,n,rfl⟩)|(go_at_call 58;refine(eK.calls _ _ _ _ _ A4.out).mono ?_;rintro e w2 ⟨rfl,n,rfl⟩))
    repeat(go_quiet (fail);try go_wp2)
    go_ret;exact⟨rfl,From.out⟩
   |true=>
    cases b4 with
    |false=>
     obtain rfl:false=r:=HQ.out;clear HQ H5 HR HM;go_enter Tryz.func28,Tryz.ntmps28
     go_wp2_with (first|((with_reducible refine gate_dst (N:=1) rfl ?_);(try(refine mg (by rfl) ?_;dsimp only));refine bV #[.slice aU ak.length c0_0,.int .i64 ax,.slice a6 aq.length aW,.int .i64 aN,.int .i64 a0_4,.slice cy aD.length cu] 30 fun g w1 j1 j2 j3=> ?_)|(go_at_call 55;refine(lS.calls _ _ _ _ _ _ _ _ _ Rd.out az.out Rd.out az.out A1.out).mono ?_;rintro e w2 ⟨rfl,hb⟩;have jb:=aK.mk hb;clear hb)|(go_at_call 56;refine(ly.calls k _ _ _ _ _ Rd.out az.out A2.out).mono ?_;rintro e w2 ⟨rfl,hb⟩;have jb:=aK.mk hb;clear hb)|(go_at_call 57;refine(lz.calls _ _ _ A3.out).mono ?_;rintro e w2 ⟨rfl,n,rfl⟩)|(go_at_call 58;refine(eK.calls _ _ _ _ _ A4.out).mono ?_;rintro e w2 ⟨rfl,n,rfl⟩))
     repeat(go_quiet (fail);try go_wp2)
     go_ret;exact⟨rfl,From.out⟩
    |true=>
     obtain rfl:b5=r:=HQ.out;by_cases hz:aD.length=0
     ·have z1:((aD.length:Int)==0)=true:=beq_iff_eq.mpr (by omega);have z2:((aD.length:Int) != 0)=false:=bne_eq_false_iff_eq.mpr (by omega);have z3:decide ((aD.length:Int)=0)=true:=decide_eq_true (by omega);obtain rfl:true=b5:=(by rw[←H5.out];exact(decide_eq_true (.inl hz)).symm);clear HQ H5 HR HM hz;go_enter Tryz.func28,Tryz.ntmps28
      go_wp2_with (first|((with_reducible refine gate_dst (N:=1) rfl ?_);(try(refine mg (by rfl) ?_;dsimp only));refine bV #[.slice aU ak.length c0_0,.int .i64 ax,.slice a6 aq.length aW,.int .i64 aN,.int .i64 a0_4,.slice cy aD.length cu] 30 fun g w1 j1 j2 j3=> ?_)|(go_at_call 55;refine(lS.calls _ _ _ _ _ _ _ _ _ Rd.out az.out Rd.out az.out A1.out).mono ?_;rintro e w2 ⟨rfl,hb⟩;have jb:=aK.mk hb;clear hb)|(go_at_call 56;refine(ly.calls k _ _ _ _ _ Rd.out az.out A2.out).mono ?_;rintro e w2 ⟨rfl,hb⟩;have jb:=aK.mk hb;clear hb)|(go_at_call 57;refine(lz.calls _ _ _ A3.out).mono ?_;rintro e w2 ⟨rfl,n,rfl⟩)|(go_at_call 58;refine(eK.calls _ _ _ _ _ A4.out).mono ?_;rintro e w2 ⟨rfl,n,rfl⟩))
      repeat(go_quiet (fail);try go_wp2)
      go_ret;exact⟨rfl,From.out⟩
     ·obtain⟨j,hj⟩:∃j,j+1=aD.length:=⟨aD.length-1,by omega⟩;have z1:((aD.length:Int)==0)=false:=beq_eq_false_iff_ne.mpr (by omega);have z2:((aD.length:Int) != 0)=true:=bne_iff_ne.mpr (by omega);have z3:decide ((aD.length:Int)=0)=false:=decide_eq_false (by omega);have hM:=HM.out;have hw1:wrap64 ((aD.length:Int)-1)=(j:Int):=(by unfold wrap64;omega);have hw2:IntKind.i64.wrap ((aD.length:Int)-1)=(j:Int):=(by rw[eJ];exact hw1);have hj1:(j:Int)<(aD.length:Int):=(by omega);have hj2:j<aD.length:=(by omega);obtain⟨rv,e2,_,_,_,mK⟩:=tV HR.out (j:Int) (by omega) (by omega);subst e2;obtain⟨y,hy⟩:∃y,dn aD (j:Int)=y:=⟨_,rfl⟩;rw[hy]at mK;simp only[Int.toNat_natCast]at mK;have j4:fx w _ _:=⟨mK⟩
      have h6:decide (y.f2≤a0_4)=b5:=by
       rw[←H5.out,←hy];refine decide_eq_decide.mpr ?_;unfold Q.qE;rw[show aD.length-1=j by omega];simp[dn,hz]
      have h7:decide (a0_4≥y.f2)=b5:=h6;clear HQ H5 HR HM hM hy mK hz hj;go_enter Tryz.func28,Tryz.ntmps28
      go_wp2_with (first|((with_reducible refine gate_dst (N:=1) rfl ?_);(try(refine mg (by rfl) ?_;dsimp only));refine bV #[.slice aU ak.length c0_0,.int .i64 ax,.slice a6 aq.length aW,.int .i64 aN,.int .i64 a0_4,.slice (some rv) aD.length cu] 30 fun g w1 j1 j2 j3=> ?_)|(go_at_call 55;refine(lS.calls _ _ _ _ _ _ _ _ _ Rd.out az.out Rd.out az.out A1.out).mono ?_;rintro e w2 ⟨rfl,hb⟩;have jb:=aK.mk hb;clear hb)|(go_at_call 56;refine(ly.calls k _ _ _ _ _ Rd.out az.out A2.out).mono ?_;rintro e w2 ⟨rfl,hb⟩;have jb:=aK.mk hb;clear hb)|(go_at_call 57;refine(lz.calls _ _ _ A3.out).mono ?_;rintro e w2 ⟨rfl,n,rfl⟩)|(go_at_call 58;refine(eK.calls _ _ _ _ _ A4.out).mono ?_;rintro e w2 ⟨rfl,n,rfl⟩))
      repeat(go_quiet (fail);try go_wp2)
      go_ret;exact⟨by first|rfl|(simp[h6];done),From.out⟩
end Go.Proofs.YtnjfiaekdcekgaaGreatDoor.P
namespace Go.Proofs.YtnjfiaekdcekgaaGreatDoor.P
set_option maxHeartbeats 8000000
set_option maxRecDepth 100000
set_option synthInstance.maxHeartbeats 400000
set_option synthInstance.maxSize 100000
open Go.RowKit Go.Proofs.YtnjfiaekdcekgaaGreatDoorW.bS Go.Proofs.YtnjfiaekdcekgaaGreatDoorW.dU Go.Proofs.YtnjfiaekdcekgaaGreatDoorW.dX Go.Proofs.YtnjfiaekdcekgaaGreatDoor.V
attribute [local go_sem] fV fW
attribute [local go_sem] fE fI fH fL fG fK fF fJ
def yj.f (k:Nat) (ak:List (ar)) (ax:Int) (aq:List Int) (aN:Int) (a0_4:Int) (aD:List (S64)):Option ((List (ar))×Int×List Int×Int×Int×(List (S64))×Bool):=(jO.f ak ax aq aN a0_4 aD).bind fun bt825=>((impl_ShopOk.f k ak ax aq aN a0_4 aD).bind fun ajz=>(if ajz=true then((jA.f k ak ax aq).bind fun He=>((fY.f k ak ax aq).bind fun ajA=>(if(ajA.length:Int)>0 then((jN.f k ak ax aq).bind fun Hf=>(if Hf.2.2.2=true then(some (Hf.1,Hf.2.1,Hf.2.2.1,bt825.2.2.2.1,bt825.2.2.2.2.1,bt825.2.2.2.2.2,true))else(some (bt825.1,bt825.2.1,bt825.2.2.1,bt825.2.2.2.1,bt825.2.2.2.2.1,bt825.2.2.2.2.2,false))))else(if He.2.2.2=true then(some (He.1,He.2.1,He.2.2.1,bt825.2.2.2.1,bt825.2.2.2.2.1,bt825.2.2.2.2.2,true))else(some (bt825.1,bt825.2.1,bt825.2.2.1,bt825.2.2.2.1,bt825.2.2.2.2.1,bt825.2.2.2.2.2,false))))))else(some (bt825.1,bt825.2.1,bt825.2.2.1,bt825.2.2.2.1,bt825.2.2.2.2.1,bt825.2.2.2.2.2,false))))
theorem yj.calls (k:Nat) (aU:Option Addr) (c0_0:Nat) (ak:List (ar)) (ax:Int) (a6:Option Addr) (aW:Nat) (aq:List Int) (aN:Int) (a0_4:Int) (cy:Option Addr) (cu:Nat) (aD:List (S64)) (r1:List (ar)) (r2:Int) (r3:List Int) (r4:Int) (r5:Int) (r6:List (S64)) (r7:Bool) (w:World) (cp:Kd.C bl w aU ak.length ak) (cx:ak.length≤c0_0) (cv:Kd.C (Kd.int .i64) w a6 aq.length aq) (cA:aq.length≤aW) (dW:Kd.C k64 w cy aD.length aD) (eC:aD.length≤cu) (h:yj.f k ak ax aq aN a0_4 aD=some (r1,r2,r3,r4,r5,r6,r7)):
  Calls Tryz.prog 60 #[.agg #[.slice aU ak.length c0_0,.int .i64 ax,.slice a6 aq.length aW,.int .i64 aN,.int .i64 a0_4,.slice cy aD.length cu]] w fun e w'=>∃v0_ cB dL:Value,e= .returned (.tuple #[.agg #[v0_,.int .i64 r2,cB,.int .i64 r4,.int .i64 r5,dL],.bool r7])∧Kd.R bl 110 w' w.heap.size (fun _=>True) v0_ r1∧Kd.R (Kd.int .i64) 3 w' w.heap.size (fun _=>True) cB r3∧Kd.R k64 64 w' w.heap.size (fun _=>True) dL r6∧Below w.heap.size w w':=by
 replace cp:=cg.mk cp;replace cx:=az.mk cx;replace cv:=cg.mk cv;replace cA:=az.mk cA;replace dW:=cg.mk dW;replace eC:=az.mk eC;unfold yj.f at h;have lR:=Tryz.underlying27;have kp:=Tryz.underlying30
 (repeat' first|((with_reducible replace h:=cG h);rcases h with ⟨hc,h⟩|⟨hc,h⟩<;>first|exact(none_some h).elim|exact absurd hc (by decide)|subst hc|(replace hc:=br hc;subst hc)|(have hd:=hI_ hc;have he:=cD hc;clear hc)|(have hd:=cE hc;have he:=hL_ hc)|(have hd:=decide_eq_false hc)|(have hd:=decide_eq_true hc)|skip))
 all_goals go_enter Tryz.func60,Tryz.ntmps60
 all_goals go_wp2_with ((first
  |((with_reducible refine gate_dst (N:=1) rfl ?_);refine bV #[.slice aU ak.length c0_0,.int .i64 ax,.slice a6 aq.length aW,.int .i64 aN,.int .i64 a0_4,.slice cy aD.length cu] 30 fun g w1 j1 j2 j3=> ?_)
  |((with_reducible refine gate_dst (N:=2) rfl ?_);refine bV #[.slice none 0 0,.int .i64 0,.slice none 0 0,.int .i64 0,.int .i64 0,.slice none 0 0] 30 fun g w1 j1 j2 j3=> ?_)
  |((with_reducible refine gate_dst (N:=4) rfl ?_);refine bV #[.slice none 0 0,.int .i64 0,.slice none 0 0,.int .i64 0,.int .i64 0,.slice none 0 0] 30 fun g w1 j1 j2 j3=> ?_)
  |((with_reducible refine gate_dst (N:=5) rfl ?_);refine bV #[.slice none 0 0,.int .i64 0,.slice none 0 0] 27 fun g w1 j1 j2 j3=> ?_)
  |(go_at_call 27;replace h:=bI h;obtain⟨⟨t1,t2,t3,t4,t5,t6⟩,A,h⟩:=h;(try dsimp only at h);refine(jO.calls _ _ _ _ _ _ _ _ _ _ _ _ _ _ _ _ _ _ _ Rd.out az.out Rd.out az.out Rd.out az.out A).mono ?_;rintro e w2 ⟨v0,v1,v2,rfl,ho0,aY,bB,hb⟩;obtain⟨B0,b0,rfl,j0,q0⟩:=aX ho0;obtain⟨B1,b1,rfl,j1,q1⟩:=aX aY;obtain⟨B2,b2,rfl,j2,q2⟩:=aX bB;have jb:=aK.mk hb;clear A ho0 aY bB hb)
  |(go_at_call 28;replace h:=bI h;obtain⟨t,A,h⟩:=h;(try dsimp only at h);refine(impl_ShopOk.calls _ _ _ _ _ _ _ _ _ _ _ _ _ _ _ Rd.out az.out Rd.out az.out Rd.out az.out A).mono ?_;rintro e w2 ⟨rfl,hb⟩;have jb:=aK.mk hb;clear A hb)
  |(go_at_call 99;replace h:=bI h;obtain⟨⟨t1,t2,t3,t4⟩,A,h⟩:=h;(try dsimp only at h);refine(jA.calls _ _ _ _ _ _ _ _ _ _ _ _ _ Rd.out az.out Rd.out az.out A).mono ?_;rintro e w2 ⟨v0,v1,rfl,ho0,aY,hb⟩;obtain⟨B0,b0,rfl,j0,q0⟩:=aX ho0;obtain⟨B1,b1,rfl,j1,q1⟩:=aX aY;have jb:=aK.mk hb;clear A ho0 aY hb)
  |(go_at_call 100;replace h:=bI h;obtain⟨t,A,h⟩:=h;(try dsimp only at h);refine(fY.calls _ _ _ _ _ _ _ _ _ _ Rd.out az.out Rd.out az.out A).mono ?_;rintro e w2 ⟨v0,rfl,ho0,hb⟩;obtain⟨B0,b0,rfl,j0,q0⟩:=aX ho0;have jb:=aK.mk hb;clear A ho0 hb)
  |(go_at_call 101;replace h:=bI h;obtain⟨⟨t1,t2,t3,t4⟩,A,h⟩:=h;(try dsimp only at h);refine(jN.calls _ _ _ _ _ _ _ _ _ _ _ _ _ Rd.out az.out Rd.out az.out A).mono ?_;rintro e w2 ⟨v0,v1,rfl,ho0,aY,hb⟩;obtain⟨B0,b0,rfl,j0,q0⟩:=aX ho0;obtain⟨B1,b1,rfl,j1,q1⟩:=aX aY;have jb:=aK.mk hb;clear A ho0 aY hb));(repeat' first|((with_reducible replace h:=cG h);rcases h with ⟨hc,h⟩|⟨hc,h⟩<;>first|exact(none_some h).elim|exact absurd hc (by decide)|subst hc|(replace hc:=br hc;subst hc)|(have hd:=hI_ hc;have he:=cD hc;clear hc)|(have hd:=cE hc;have he:=hL_ hc)|(have hd:=decide_eq_false hc)|(have hd:=decide_eq_true hc)|skip));all_goals(try have hn:decide (0<t.length)=true:=decide_eq_true (by omega));all_goals(try have hn:decide (0<t.length)=false:=decide_eq_false (by omega)))
 all_goals simp only[Option.some.injEq,Prod.mk.injEq]at h
 all_goals obtain⟨rfl,rfl,rfl,rfl,rfl,rfl,rfl⟩:=h
 all_goals refine bodyPost_ret (results_ct rfl _ _ _ _ _ (0,0) _ rfl a7.out Tryz.underlying30 rfl (by kernel_rfl)) rfl ?_
 all_goals exact⟨_,_,_,rfl,(by first|exact cn|exact Kd.bM _ _ _ _ _),(by first|exact cn|exact Kd.bM _ _ _ _ _),(by first|exact cn|exact Kd.bM _ _ _ _ _),From.out⟩
def yl.f (k:Nat) (ak:List (ar)) (ax:Int) (aq:List Int) (aN:Int) (a0_4:Int) (aD:List (S64)) (a1:Int):Option ((List (ar))×Int×List Int×Int×Int×(List (S64))×Bool):=(jO.f ak ax aq aN a0_4 aD).bind fun sQ=>((impl_ShopOk.f k ak ax aq aN a0_4 aD).bind fun ajB=>(if ajB=true then((impl_ShopOk.f k sQ.1 sQ.2.1 sQ.2.2.1 a1 (wrap64 (sQ.2.2.2.2.1+1)) sQ.2.2.2.2.2).bind fun ajC=>(if ajC=true then(some (sQ.1,sQ.2.1,sQ.2.2.1,a1,wrap64 (sQ.2.2.2.2.1+1),sQ.2.2.2.2.2,true))else((jO.f ak ax aq aN a0_4 aD).bind fun Aw=>(some (Aw.1,Aw.2.1,Aw.2.2.1,Aw.2.2.2.1,Aw.2.2.2.2.1,Aw.2.2.2.2.2,false)))))else((jO.f ak ax aq aN a0_4 aD).bind fun Ax=>(some (Ax.1,Ax.2.1,Ax.2.2.1,Ax.2.2.2.1,Ax.2.2.2.2.1,Ax.2.2.2.2.2,false)))))
theorem yl.calls (k:Nat) (aU:Option Addr) (c0_0:Nat) (ak:List (ar)) (ax:Int) (a6:Option Addr) (aW:Nat) (aq:List Int) (aN:Int) (a0_4:Int) (cy:Option Addr) (cu:Nat) (aD:List (S64)) (a1:Int) (r1:List (ar)) (r2:Int) (r3:List Int) (r4:Int) (r5:Int) (r6:List (S64)) (r7:Bool) (w:World) (cp:Kd.C bl w aU ak.length ak) (cx:ak.length≤c0_0) (cv:Kd.C (Kd.int .i64) w a6 aq.length aq) (cA:aq.length≤aW) (dW:Kd.C k64 w cy aD.length aD) (eC:aD.length≤cu) (h:yl.f k ak ax aq aN a0_4 aD a1=some (r1,r2,r3,r4,r5,r6,r7)):
  Calls Tryz.prog 62 #[.agg #[.slice aU ak.length c0_0,.int .i64 ax,.slice a6 aq.length aW,.int .i64 aN,.int .i64 a0_4,.slice cy aD.length cu],.int .i64 a1] w fun e w'=>∃v0_ cB dL:Value,e= .returned (.tuple #[.agg #[v0_,.int .i64 r2,cB,.int .i64 r4,.int .i64 r5,dL],.bool r7])∧Kd.R bl 110 w' w.heap.size (fun _=>True) v0_ r1∧Kd.R (Kd.int .i64) 3 w' w.heap.size (fun _=>True) cB r3∧Kd.R k64 64 w' w.heap.size (fun _=>True) dL r6∧Below w.heap.size w w':=by
 replace cp:=cg.mk cp;replace cx:=az.mk cx;replace cv:=cg.mk cv;replace cA:=az.mk cA;replace dW:=cg.mk dW;replace eC:=az.mk eC;unfold yl.f at h;have kp:=Tryz.underlying30
 (repeat' first|((with_reducible replace h:=cG h);rcases h with ⟨hc,h⟩|⟨hc,h⟩<;>first|exact(none_some h).elim|exact absurd hc (by decide)|subst hc|(replace hc:=br hc;subst hc)|(have hd:=hI_ hc;have he:=cD hc;clear hc)|(have hd:=cE hc;have he:=hL_ hc)|(have hd:=decide_eq_false hc)|(have hd:=decide_eq_true hc)|skip))
 all_goals go_enter Tryz.func62,Tryz.ntmps62
 all_goals go_wp2_with ((first
  |((with_reducible refine gate_dst (N:=2) rfl ?_);refine bV #[.slice aU ak.length c0_0,.int .i64 ax,.slice a6 aq.length aW,.int .i64 aN,.int .i64 a0_4,.slice cy aD.length cu] 30 fun g w1 j1 j2 j3=> ?_)
  |((with_reducible refine gate_dst (N:=4) rfl ?_);refine bV #[.slice none 0 0,.int .i64 0,.slice none 0 0,.int .i64 0,.int .i64 0,.slice none 0 0] 30 fun g w1 j1 j2 j3=> ?_)
  |((with_reducible refine gate_dst (N:=6) rfl ?_);refine bV #[.slice none 0 0,.int .i64 0,.slice none 0 0,.int .i64 0,.int .i64 0,.slice none 0 0] 30 fun g w1 j1 j2 j3=> ?_)
  |(go_at_call 27;replace h:=bI h;obtain⟨⟨t1,t2,t3,t4,t5,t6⟩,A,h⟩:=h;(try dsimp only at h);refine(jO.calls _ _ _ _ _ _ _ _ _ _ _ _ _ _ _ _ _ _ _ Rd.out az.out Rd.out az.out Rd.out az.out A).mono ?_;rintro e w2 ⟨v0,v1,v2,rfl,ho0,aY,bB,hb⟩;obtain⟨B0,b0,rfl,j0,q0⟩:=aX ho0;obtain⟨B1,b1,rfl,j1,q1⟩:=aX aY;obtain⟨B2,b2,rfl,j2,q2⟩:=aX bB;have jb:=aK.mk hb;clear A ho0 aY bB hb)
  |(go_at_call 28;replace h:=bI h;obtain⟨t,A,h⟩:=h;(try dsimp only at h);refine(impl_ShopOk.calls _ _ _ _ _ _ _ _ _ _ _ _ _ _ _ Rd.out az.out Rd.out az.out Rd.out az.out A).mono ?_;rintro e w2 ⟨rfl,hb⟩;have jb:=aK.mk hb;clear A hb));(repeat' first|((with_reducible replace h:=cG h);rcases h with ⟨hc,h⟩|⟨hc,h⟩<;>first|exact(none_some h).elim|exact absurd hc (by decide)|subst hc|(replace hc:=br hc;subst hc)|(have hd:=hI_ hc;have he:=cD hc;clear hc)|(have hd:=cE hc;have he:=hL_ hc)|(have hd:=decide_eq_false hc)|(have hd:=decide_eq_true hc)|skip)))
 all_goals simp only[Option.some.injEq,Prod.mk.injEq]at h
 all_goals obtain⟨rfl,rfl,rfl,rfl,rfl,rfl,rfl⟩:=h
 all_goals refine bodyPost_ret (results_ct rfl _ _ _ _ _ (0,0) _ rfl a7.out Tryz.underlying30 rfl (by kernel_rfl)) rfl ?_
 all_goals exact⟨_,_,_,rfl,(by first|exact cn|exact Kd.bM _ _ _ _ _),(by first|exact cn|exact Kd.bM _ _ _ _ _),(by first|exact cn|exact Kd.bM _ _ _ _ _),From.out⟩
def yh.f (k:Nat) (ak:List (ar)) (ax:Int) (aq:List Int) (aN:Int) (a0_4:Int) (aD:List (S64)) (cZ:Int) (dc:Int) (a2:Int):Option ((List (ar))×Int×List Int×Int×Int×(List (S64))×Bool):=(jO.f ak ax aq aN a0_4 aD).bind fun mE=>((impl_ShopOk.f k ak ax aq aN a0_4 aD).bind fun ajH=>(if ajH=true then((mh.f k aD cZ dc a2 a0_4).bind fun RN=>(if RN.2=true then(some (mE.1,mE.2.1,mE.2.2.1,mE.2.2.2.1,mE.2.2.2.2.1,RN.1,true))else(some (mE.1,mE.2.1,mE.2.2.1,mE.2.2.2.1,mE.2.2.2.2.1,mE.2.2.2.2.2,false))))else(some (mE.1,mE.2.1,mE.2.2.1,mE.2.2.2.1,mE.2.2.2.2.1,mE.2.2.2.2.2,false))))
theorem yh.calls (k:Nat) (aU:Option Addr) (c0_0:Nat) (ak:List (ar)) (ax:Int) (a6:Option Addr) (aW:Nat) (aq:List Int) (aN:Int) (a0_4:Int) (cy:Option Addr) (cu:Nat) (aD:List (S64)) (cZ:Int) (dc:Int) (a2:Int) (r1:List (ar)) (r2:Int) (r3:List Int) (r4:Int) (r5:Int) (r6:List (S64)) (r7:Bool) (w:World) (cp:Kd.C bl w aU ak.length ak) (cx:ak.length≤c0_0) (cv:Kd.C (Kd.int .i64) w a6 aq.length aq) (cA:aq.length≤aW) (dW:Kd.C k64 w cy aD.length aD) (eC:aD.length≤cu) (h:yh.f k ak ax aq aN a0_4 aD cZ dc a2=some (r1,r2,r3,r4,r5,r6,r7)):
  Calls Tryz.prog 63 #[.agg #[.slice aU ak.length c0_0,.int .i64 ax,.slice a6 aq.length aW,.int .i64 aN,.int .i64 a0_4,.slice cy aD.length cu],.agg #[.int .i64 cZ,.int .i64 dc],.int .i64 a2] w fun e w'=>∃v0_ cB dL:Value,e= .returned (.tuple #[.agg #[v0_,.int .i64 r2,cB,.int .i64 r4,.int .i64 r5,dL],.bool r7])∧Kd.R bl 110 w' w.heap.size (fun _=>True) v0_ r1∧Kd.R (Kd.int .i64) 3 w' w.heap.size (fun _=>True) cB r3∧Kd.R k64 64 w' w.heap.size (fun _=>True) dL r6∧Below w.heap.size w w':=by
 replace cp:=cg.mk cp;replace cx:=az.mk cx;replace cv:=cg.mk cv;replace cA:=az.mk cA;replace dW:=cg.mk dW;replace eC:=az.mk eC;unfold yh.f at h;have kp:=Tryz.underlying30;have yc:=Tryz.underlying62
 (repeat' first|((with_reducible replace h:=cG h);rcases h with ⟨hc,h⟩|⟨hc,h⟩<;>first|exact(none_some h).elim|exact absurd hc (by decide)|subst hc|(replace hc:=br hc;subst hc)|(have hd:=hI_ hc;have he:=cD hc;clear hc)|(have hd:=cE hc;have he:=hL_ hc)|(have hd:=decide_eq_false hc)|(have hd:=decide_eq_true hc)|skip))
 all_goals go_enter Tryz.func63,Tryz.ntmps63
 all_goals go_wp2_with ((first
  |((with_reducible refine gate_dst (N:=3) rfl ?_);refine bV #[.slice aU ak.length c0_0,.int .i64 ax,.slice a6 aq.length aW,.int .i64 aN,.int .i64 a0_4,.slice cy aD.length cu] 30 fun g w1 j1 j2 j3=> ?_)
  |((with_reducible refine gate_dst (N:=4) rfl ?_);refine bV #[.int .i64 cZ,.int .i64 dc] 62 fun g w1 j1 j2 j3=> ?_)
  |((with_reducible refine gate_dst (N:=6) rfl ?_);refine bV #[.slice none 0 0,.int .i64 0,.slice none 0 0,.int .i64 0,.int .i64 0,.slice none 0 0] 30 fun g w1 j1 j2 j3=> ?_)
  |((with_reducible refine gate_dst (N:=8) rfl ?_);refine bV #[.slice none 0 0,.int .i64 0,.slice none 0 0,.int .i64 0,.int .i64 0,.slice none 0 0] 30 fun g w1 j1 j2 j3=> ?_)
  |(go_at_call 27;replace h:=bI h;obtain⟨⟨t1,t2,t3,t4,t5,t6⟩,A,h⟩:=h;(try dsimp only at h);refine(jO.calls _ _ _ _ _ _ _ _ _ _ _ _ _ _ _ _ _ _ _ Rd.out az.out Rd.out az.out Rd.out az.out A).mono ?_;rintro e w2 ⟨v0,v1,v2,rfl,ho0,aY,bB,hb⟩;obtain⟨B0,b0,rfl,j0,q0⟩:=aX ho0;obtain⟨B1,b1,rfl,j1,q1⟩:=aX aY;obtain⟨B2,b2,rfl,j2,q2⟩:=aX bB;have jb:=aK.mk hb;clear A ho0 aY bB hb)
  |(go_at_call 28;replace h:=bI h;obtain⟨t,A,h⟩:=h;(try dsimp only at h);refine(impl_ShopOk.calls _ _ _ _ _ _ _ _ _ _ _ _ _ _ _ Rd.out az.out Rd.out az.out Rd.out az.out A).mono ?_;rintro e w2 ⟨rfl,hb⟩;have jb:=aK.mk hb;clear A hb)
  |(go_at_call 102;replace h:=bI h;obtain⟨⟨t1,t2⟩,A,h⟩:=h;(try dsimp only at h);refine(mh.calls _ _ _ _ _ _ _ _ _ _ _ Rd.out az.out A).mono ?_;rintro e w2 ⟨v0,rfl,ho0,hb⟩;obtain⟨B0,b0,rfl,j0,q0⟩:=aX ho0;have jb:=aK.mk hb;clear A ho0 hb));(repeat' first|((with_reducible replace h:=cG h);rcases h with ⟨hc,h⟩|⟨hc,h⟩<;>first|exact(none_some h).elim|exact absurd hc (by decide)|subst hc|(replace hc:=br hc;subst hc)|(have hd:=hI_ hc;have he:=cD hc;clear hc)|(have hd:=cE hc;have he:=hL_ hc)|(have hd:=decide_eq_false hc)|(have hd:=decide_eq_true hc)|skip)))
 all_goals simp only[Option.some.injEq,Prod.mk.injEq]at h
 all_goals obtain⟨rfl,rfl,rfl,rfl,rfl,rfl,rfl⟩:=h
 all_goals refine bodyPost_ret (results_ct rfl _ _ _ _ _ (0,0) _ rfl a7.out Tryz.underlying30 rfl (by kernel_rfl)) rfl ?_
 all_goals exact⟨_,_,_,rfl,(by first|exact cn|exact Kd.bM _ _ _ _ _),(by first|exact cn|exact Kd.bM _ _ _ _ _),(by first|exact cn|exact Kd.bM _ _ _ _ _),From.out⟩
def yi.f (k:Nat) (ak:List (ar)) (ax:Int) (aq:List Int) (aN:Int) (a0_4:Int) (aD:List (S64)) (a1:Int) (a2:Int):Option ((List (ar))×Int×List Int×Int×Int×(List (S64))×Bool):=(jO.f ak ax aq aN a0_4 aD).bind fun tZ=>((impl_ShopOk.f k ak ax aq aN a0_4 aD).bind fun ajM=>(if ajM=true then((iO.f k ak ax aq a1 a2).bind fun Hg=>(some (Hg.1,Hg.2.1,Hg.2.2.1,tZ.2.2.2.1,tZ.2.2.2.2.1,tZ.2.2.2.2.2,Hg.2.2.2)))else(some (tZ.1,tZ.2.1,tZ.2.2.1,tZ.2.2.2.1,tZ.2.2.2.2.1,tZ.2.2.2.2.2,false))))
theorem yi.calls (k:Nat) (aU:Option Addr) (c0_0:Nat) (ak:List (ar)) (ax:Int) (a6:Option Addr) (aW:Nat) (aq:List Int) (aN:Int) (a0_4:Int) (cy:Option Addr) (cu:Nat) (aD:List (S64)) (a1:Int) (a2:Int) (r1:List (ar)) (r2:Int) (r3:List Int) (r4:Int) (r5:Int) (r6:List (S64)) (r7:Bool) (w:World) (cp:Kd.C bl w aU ak.length ak) (cx:ak.length≤c0_0) (cv:Kd.C (Kd.int .i64) w a6 aq.length aq) (cA:aq.length≤aW) (dW:Kd.C k64 w cy aD.length aD) (eC:aD.length≤cu) (h:yi.f k ak ax aq aN a0_4 aD a1 a2=some (r1,r2,r3,r4,r5,r6,r7)):
  Calls Tryz.prog 64 #[.agg #[.slice aU ak.length c0_0,.int .i64 ax,.slice a6 aq.length aW,.int .i64 aN,.int .i64 a0_4,.slice cy aD.length cu],.int .i64 a1,.int .i64 a2] w fun e w'=>∃v0_ cB dL:Value,e= .returned (.tuple #[.agg #[v0_,.int .i64 r2,cB,.int .i64 r4,.int .i64 r5,dL],.bool r7])∧Kd.R bl 110 w' w.heap.size (fun _=>True) v0_ r1∧Kd.R (Kd.int .i64) 3 w' w.heap.size (fun _=>True) cB r3∧Kd.R k64 64 w' w.heap.size (fun _=>True) dL r6∧Below w.heap.size w w':=by
 replace cp:=cg.mk cp;replace cx:=az.mk cx;replace cv:=cg.mk cv;replace cA:=az.mk cA;replace dW:=cg.mk dW;replace eC:=az.mk eC;unfold yi.f at h;have lR:=Tryz.underlying27;have kp:=Tryz.underlying30
 (repeat' first|((with_reducible replace h:=cG h);rcases h with ⟨hc,h⟩|⟨hc,h⟩<;>first|exact(none_some h).elim|exact absurd hc (by decide)|subst hc|(replace hc:=br hc;subst hc)|(have hd:=hI_ hc;have he:=cD hc;clear hc)|(have hd:=cE hc;have he:=hL_ hc)|(have hd:=decide_eq_false hc)|(have hd:=decide_eq_true hc)|skip))
 all_goals go_enter Tryz.func64,Tryz.ntmps64
 all_goals go_wp2_with ((first
  |((with_reducible refine gate_dst (N:=3) rfl ?_);refine bV #[.slice aU ak.length c0_0,.int .i64 ax,.slice a6 aq.length aW,.int .i64 aN,.int .i64 a0_4,.slice cy aD.length cu] 30 fun g w1 j1 j2 j3=> ?_)
  |((with_reducible refine gate_dst (N:=6) rfl ?_);refine bV #[.slice none 0 0,.int .i64 0,.slice none 0 0,.int .i64 0,.int .i64 0,.slice none 0 0] 30 fun g w1 j1 j2 j3=> ?_)
  |((with_reducible refine gate_dst (N:=8) rfl ?_);refine bV #[.slice none 0 0,.int .i64 0,.slice none 0 0,.int .i64 0,.int .i64 0,.slice none 0 0] 30 fun g w1 j1 j2 j3=> ?_)
  |((with_reducible refine gate_dst (N:=9) rfl ?_);refine bV #[.slice none 0 0,.int .i64 0,.slice none 0 0] 27 fun g w1 j1 j2 j3=> ?_)
  |(go_at_call 27;replace h:=bI h;obtain⟨⟨t1,t2,t3,t4,t5,t6⟩,A,h⟩:=h;(try dsimp only at h);refine(jO.calls _ _ _ _ _ _ _ _ _ _ _ _ _ _ _ _ _ _ _ Rd.out az.out Rd.out az.out Rd.out az.out A).mono ?_;rintro e w2 ⟨v0,v1,v2,rfl,ho0,aY,bB,hb⟩;obtain⟨B0,b0,rfl,j0,q0⟩:=aX ho0;obtain⟨B1,b1,rfl,j1,q1⟩:=aX aY;obtain⟨B2,b2,rfl,j2,q2⟩:=aX bB;have jb:=aK.mk hb;clear A ho0 aY bB hb)
  |(go_at_call 28;replace h:=bI h;obtain⟨t,A,h⟩:=h;(try dsimp only at h);refine(impl_ShopOk.calls _ _ _ _ _ _ _ _ _ _ _ _ _ _ _ Rd.out az.out Rd.out az.out Rd.out az.out A).mono ?_;rintro e w2 ⟨rfl,hb⟩;have jb:=aK.mk hb;clear A hb)
  |(go_at_call 103;replace h:=bI h;obtain⟨⟨t1,t2,t3,t4⟩,A,h⟩:=h;(try dsimp only at h);refine(iO.calls _ _ _ _ _ _ _ _ _ _ _ _ _ _ _ Rd.out az.out Rd.out az.out A).mono ?_;rintro e w2 ⟨v0,v1,rfl,ho0,aY,hb⟩;obtain⟨B0,b0,rfl,j0,q0⟩:=aX ho0;obtain⟨B1,b1,rfl,j1,q1⟩:=aX aY;have jb:=aK.mk hb;clear A ho0 aY hb));(repeat' first|((with_reducible replace h:=cG h);rcases h with ⟨hc,h⟩|⟨hc,h⟩<;>first|exact(none_some h).elim|exact absurd hc (by decide)|subst hc|(replace hc:=br hc;subst hc)|(have hd:=hI_ hc;have he:=cD hc;clear hc)|(have hd:=cE hc;have he:=hL_ hc)|(have hd:=decide_eq_false hc)|(have hd:=decide_eq_true hc)|skip)))
 all_goals simp only[Option.some.injEq,Prod.mk.injEq]at h
 all_goals obtain⟨rfl,rfl,rfl,rfl,rfl,rfl,rfl⟩:=h
 all_goals refine bodyPost_ret (results_ct rfl _ _ _ _ _ (0,0) _ rfl a7.out Tryz.underlying30 rfl (by kernel_rfl)) rfl ?_
 all_goals exact⟨_,_,_,rfl,(by first|exact cn|exact Kd.bM _ _ _ _ _),(by first|exact cn|exact Kd.bM _ _ _ _ _),(by first|exact cn|exact Kd.bM _ _ _ _ _),From.out⟩
end Go.Proofs.YtnjfiaekdcekgaaGreatDoor.P
namespace Go.Proofs.YtnjfiaekdcekgaaGreatDoor.P
set_option maxHeartbeats 8000000
set_option maxRecDepth 100000
open Go.RowKit Go.Proofs.YtnjfiaekdcekgaaGreatDoorW.bS Go.Proofs.YtnjfiaekdcekgaaGreatDoorW.dU Go.Proofs.YtnjfiaekdcekgaaGreatDoorW.dX
attribute [local go_sem] fE fI fH fL fG fK fF fJ
def oa.f (k:Nat) (ak:List (ar)) (ax:Int) (aq:List Int) (aN:Int) (a0_4:Int) (aD:List (S64)):Option (Int):=(impl_ShopOk.f k ak ax aq aN a0_4 aD).bind fun Fm=>(if Fm=true then((fY.f k ak ax aq).bind fun Fo=>(some (wrap64 ((wrap64 ((ak.length:Int)-ax))+(Fo.length:Int)))))else(some 0))
def oa.T3:Bool×List (List Nat×List Nat):=(true,[([],[]),([0],[0]),([1],[1]),([2],[2]),([],[]),([4],[4]),([5],[5]),([3,6],[3,6]),([],[]),([8],[8]),([9],[9]),([10],[10]),([7,11],[7,11]),([12,10,0,1,2,3,4,5,6,7,8,9,10,11,12],[12])])
def oa.B3:List Nat:=[0,1,3,7,0,16,48,127,0,256,768,1792,4095,8191]
theorem oa.FO:rtab .any (opsOf Tryz.f66 3)=oa.T3:=by kernel_rfl
theorem oa.Cu:eN oa.T3.2 oa.B3=true:=by kernel_rfl
theorem oa.calls (k:Nat) (aU:Option Addr) (c0_0:Nat) (ak:List (ar)) (ax:Int) (a6:Option Addr) (aW:Nat) (aq:List Int) (aN:Int) (a0_4:Int) (cy:Option Addr) (cu:Nat) (aD:List (S64)) (r:Int) (w:World) (cp:Kd.C bl w aU ak.length ak) (cx:ak.length≤c0_0) (cv:Kd.C (Kd.int .i64) w a6 aq.length aq) (cA:aq.length≤aW) (dW:Kd.C k64 w cy aD.length aD) (eC:aD.length≤cu) (h:oa.f k ak ax aq aN a0_4 aD=some r):
  Calls Tryz.prog 66 #[.agg #[.slice aU ak.length c0_0,.int .i64 ax,.slice a6 aq.length aW,.int .i64 aN,.int .i64 a0_4,.slice cy aD.length cu]] w fun e w'=>e= .returned (.int .i64 r)∧Below w.heap.size w w':=by
 have kp:=Tryz.underlying30;have lR:=Tryz.underlying27;have ix:=A_ cp;have iK:=A_ cx;clear cp cx;have iY:=A_ cv;have nM:=A_ cA;clear cv cA;have zW:=A_ dW;have HC0_5:=A_ eC;clear dW eC;have HB:=A_ (Below.refl w.heap.size w);have H:((impl_ShopOk.f k ak ax aq aN a0_4 aD).bind fun Fm=>(if Fm=true then((fY.f k ak ax aq).bind fun Fo=>(some (wrap64 ((wrap64 ((ak.length:Int)-ax))+(Fo.length:Int)))))else(some 0)))=some r:=h;clear h;replace H:=Option.bind_eq_some_iff.mp H;obtain⟨Fm,fh,H⟩:=H
 (try dsimp only at H)
 have A2:=A_ fh;clear fh;by_cases c3:Fm=true
 ·subst c3;rw[if_pos rfl]at H;replace H:=Option.bind_eq_some_iff.mp H;obtain⟨Fo,mn,H⟩:=H
  (try dsimp only at H)
  have A4:=A_ mn;clear mn;obtain rfl:=Option.some.inj H;go_enter Tryz.func66,Tryz.ntmps66
  try go_wp2_with (first|((with_reducible refine gate_dst (N:=1) rfl ?_);refine bX (N:=1) (cs:= #[.slice aU ak.length c0_0,.int .i64 ax,.slice a6 aq.length aW,.int .i64 aN,.int .i64 a0_4,.slice cy aD.length cu]) (t:=30) ?_;intro rN hg w5 cj hb;have ah:=A_ (bz (oB HB) hb);have ai:=A_ (cj);have ay:=A_ ((by rw[hg];exact(bn (oB HB)):w.heap.size≤rN));have aG:=A_ ((by rw[hg];exact(bn (oB HB)):w.heap.size≤rN));clear HB;have HB:=ah;have eA:=ai;have YH:=ay;have Yz:=aG;clear ah ai ay aG;clear hb cj hg;have adX:=cz eA 0;have adY:=cz eA 1;have adZ:=cz eA 2;have hcz6_3:=cz eA 3;have aok:=cz eA 4;have aol:=cz eA 5;have aeC:=aJ eA.out 0;have aeD:=aJ eA.out 1;have aeE:=aJ eA.out 2;have aeF:=aJ eA.out 3;have ap1:=aJ eA.out 4;have ap2:=aJ eA.out 5)|((with_reducible refine bT (f:=28) rfl ?_);refine gL (some 4) Tryz.func28 #[.agg #[.slice aU ak.length c0_0,.int .i64 ax,.slice a6 aq.length aW,.int .i64 aN,.int .i64 a0_4,.slice cy aD.length cu]] ?_;(with_reducible refine(impl_ShopOk.calls k _ _ ak ax _ _ aq aN a0_4 _ _ aD true _ ?bG ?bH ?iF ?iG ?mS ?oo A2.out).mono ?_);(case bG=>exact eM ix.out);(case bH=>exact iK.out);(case iF=>exact eM iY.out);(case iG=>exact nM.out);(case mS=>exact eM zW.out);(case oo=>exact HC0_5.out);rintro e w7 ⟨rfl,hb⟩;refine⟨_,rfl,?_⟩;have ah:=A_ (bb eA hb);have ai:=A_ (bz (oB HB) hb);clear eA;clear HB;have eA:=ah;have HB:=ai;clear ah ai;(try clear hb);(try clear hb2);(try clear hk);(try clear hi)))
  have ah:=A_ (bF eA.out);have ai:=A_ (fC HB.out);clear eA;clear HB;have eA:=ah;have HB:=ai;clear ah ai;refine pJ (n:=14) (S:=fun w'=>w'.cell? ⟨rN,0,none⟩=some (.slice aU ak.length c0_0)∧w'.cell? ⟨rN,1,none⟩=some (.int .i64 ax)∧w'.cell? ⟨rN,2,none⟩=some (.slice a6 aq.length aW)∧w'.cell? ⟨rN,3,none⟩=some (.int .i64 aN)∧w'.cell? ⟨rN,4,none⟩=some (.int .i64 a0_4)∧w'.cell? ⟨rN,5,none⟩=some (.slice cy aD.length cu)) (ds:=[]) #[false,false,false,false,false,false,false,false,false,false,false,false,false,false] (by kernel_rfl) rfl rfl ⟨cz eA 0,cz eA 1,cz eA 2,cz eA 3,cz eA 4,cz eA 5⟩ (fun hHeld=> ?_);refine su oa.FO oa.Cu (fun ag HW_=> ?_);generalize w7.drew=w8 at eA HB hHeld ⊢;refine pA 0 (some 6) ag.out ?_;refine pA 1 (some 7) ag.out ?_;refine pA 4 (some 10) ag.out ?_;refine pA 5 (some 11) ag.out ?_;refine pA 8 (some 14) ag.out ?_;refine pT 2 (some 8) ag.out HW_.out hHeld ?_;refine pA 3 (some 9) ag.out ?_;refine pT 6 (some 12) ag.out HW_.out hHeld ?_;refine pA 7 (some 13) ag.out ?_;refine pT 9 (some 15) ag.out HW_.out hHeld ?_;refine one_ (i:=10) (N:=some 16) #[true,true,true,true,true,true,true,true,true,true,true,false,false,false] rfl rfl (ji ag.out (by kernel_rfl)) (by decide) (fun K hK=> ?_);refine gH Tryz.func100 (by kernel_rfl) rfl #[.agg #[.slice aU ak.length c0_0,.int .i64 ax,.slice a6 aq.length aW]] (by rfl) rfl rfl (by(try simp only[List.map_toArray,List.map_cons,List.map_nil]);first|done|rfl|(simp only[List.length_drop,List.length_take];rfl)) ?_
  with_reducible refine(fY.calls k _ _ ak ax _ _ aq Fo _ ?bG ?bH ?iF ?iG A4.out).mono ?_
  (case bG=>exact eM ix.out)
  (case bH=>exact iK.out)
  (case iF=>exact eM iY.out)
  (case iG=>exact nM.out)
  rintro e w9 ⟨arK,rfl,ho0,hb⟩;refine⟨_,rfl,?_⟩;have ah:=A_ (Kd.dr ho0 (bn (oB HB)));have ai:=A_ (bb eA hb);have ay:=A_ (bz (oB HB) hb);clear eA;clear HB;have Y1:=ah;have eA:=ai;have HB:=ay;clear ah ai ay
  (try clear hb)
  (try clear hb2)
  (try clear hk)
  (try clear hi)
  (try clear ho0)
  obtain⟨ak6,amu,Sq⟩:=Kd.dp Y1.out
  (first|subst Sq|(injection Sq with mG rK mH;have rL:=mG.symm;have rM:=mH.symm;clear mG rK mH;subst rL;subst rM))
  refine hK.out _ _ ⟨cz eA 0,cz eA 1,cz eA 2,cz eA 3,cz eA 4,cz eA 5⟩ (fun hHeld=> ?_);clear hK K;refine kM (a':= ?_) ?_ ?_;rotate_left
  ·show Act.put _ (some 16) _=_;simp only[Act.put,List.setIfInBounds_toArray,List.set_cons_zero,List.set_cons_succ,eJ,gj];rfl
  refine pA 11 (some 17) ag.out ?_;refine pA 12 (some 18) ag.out ?_;refine pA 13 (some 2) ag.out ?_;refine done_ (done_of ag.out (by kernel_rfl)) ?_
  try go_wp2
  go_ret;exact⟨eR,oB HB⟩
 ·replace c3:=Bool.eq_false_iff.mpr c3;subst c3;rw[if_neg (show¬(false=true)by decide)]at H;obtain rfl:=Option.some.inj H;go_enter Tryz.func66,Tryz.ntmps66
  go_wp2_with (first|((with_reducible refine gate_dst (N:=1) rfl ?_);refine bX (N:=1) (cs:= #[.slice aU ak.length c0_0,.int .i64 ax,.slice a6 aq.length aW,.int .i64 aN,.int .i64 a0_4,.slice cy aD.length cu]) (t:=30) ?_;intro rN hg w11 cj hb;have ah:=A_ (bz (oB HB) hb);have ai:=A_ (cj);have ay:=A_ ((by rw[hg];exact(bn (oB HB)):w.heap.size≤rN));have aG:=A_ ((by rw[hg];exact(bn (oB HB)):w.heap.size≤rN));clear HB;have HB:=ah;have eA:=ai;have YH:=ay;have Yz:=aG;clear ah ai ay aG;clear hb cj hg;have C3:=cz eA 0;have C4:=cz eA 1;have H4:=cz eA 2;have H6:=cz eA 3;have Tm:=cz eA 4;have Tn:=cz eA 5;have C_:=aJ eA.out 0;have Da:=aJ eA.out 1;have Ie:=aJ eA.out 2;have Ig:=aJ eA.out 3;have TM:=aJ eA.out 4;have TN:=aJ eA.out 5)|((with_reducible refine bT (f:=28) rfl ?_);refine gL (some 4) Tryz.func28 #[.agg #[.slice aU ak.length c0_0,.int .i64 ax,.slice a6 aq.length aW,.int .i64 aN,.int .i64 a0_4,.slice cy aD.length cu]] ?_;(with_reducible refine(impl_ShopOk.calls k _ _ ak ax _ _ aq aN a0_4 _ _ aD false _ ?bG ?bH ?iF ?iG ?mS ?oo A2.out).mono ?_);(case bG=>exact eM ix.out);(case bH=>exact iK.out);(case iF=>exact eM iY.out);(case iG=>exact nM.out);(case mS=>exact eM zW.out);(case oo=>exact HC0_5.out);rintro e tE ⟨rfl,hb⟩;refine⟨_,rfl,?_⟩;have ah:=A_ (bb eA hb);have ai:=A_ (bz (oB HB) hb);clear eA;clear HB;have eA:=ah;have HB:=ai;clear ah ai;(try clear hb);(try clear hb2);(try clear hk);(try clear hi)))
  go_ret;exact⟨eR,oB HB⟩
end Go.Proofs.YtnjfiaekdcekgaaGreatDoor.P
namespace Go.Proofs.YtnjfiaekdcekgaaGreatDoor.P
set_option maxHeartbeats 8000000
set_option maxRecDepth 100000
set_option synthInstance.maxHeartbeats 400000
set_option synthInstance.maxSize 100000
open Go.RowKit Go.Proofs.YtnjfiaekdcekgaaGreatDoorW.bS Go.Proofs.YtnjfiaekdcekgaaGreatDoorW.dU Go.Proofs.YtnjfiaekdcekgaaGreatDoorW.dX Go.Proofs.YtnjfiaekdcekgaaGreatDoor.V
attribute [local go_sem] fV fW cellR_c sT sU uh uq
attribute [local go_sem] fE fI fH fL fG fK fF fJ
def nv.f (k:Nat) (ak:List (ar)) (ax:Int) (aq:List Int) (aN:Int) (a0_4:Int) (aD:List (S64)) (a1:Int):Option (Int):=(impl_ShopOk.f k ak ax aq aN a0_4 aD).bind fun aiR=>(if aiR=true then((eK.f a1 0 11).bind fun aiS=>(if aiS=true then(if 0≤a1 then(if a1<(aq.length:Int)then(if(rd aq a1)=0 then(some 0)else((ye.f aD 0 a1).bind fun aiT=>(if aiT=1 then(some 0)else((AX.f (rd aq a1) aN).bind fun aiU=>(some aiU)))))else(none))else(none))else(some 0)))else(some 0))
noncomputable def nv.T3:Bool×List (List Nat×List Nat):=rtab .any (opsOf Tryz.f67 3)
def nv.B3:List Nat:=[0,1,3,0,15,31,0,64,255,511]
theorem nv.FO:rtab .any (opsOf Tryz.f67 3)=nv.T3:=rfl
theorem nv.Cu:eN nv.T3.2 nv.B3=true:=by kernel_rfl
theorem nv.calls (k:Nat) (aU:Option Addr) (c0_0:Nat) (ak:List (ar)) (ax:Int) (a6:Option Addr) (aW:Nat) (aq:List Int) (aN:Int) (a0_4:Int) (cy:Option Addr) (cu:Nat) (aD:List (S64)) (a1:Int) (r:Int) (w:World) (cp:Kd.C bl w aU ak.length ak) (cx:ak.length≤c0_0) (cv:Kd.C (Kd.int .i64) w a6 aq.length aq) (cA:aq.length≤aW) (dW:Kd.C k64 w cy aD.length aD) (eC:aD.length≤cu) (h:nv.f k ak ax aq aN a0_4 aD a1=some r):
  Calls Tryz.prog 67 #[.agg #[.slice aU ak.length c0_0,.int .i64 ax,.slice a6 aq.length aW,.int .i64 aN,.int .i64 a0_4,.slice cy aD.length cu],.int .i64 a1] w fun e w'=>e= .returned (.int .i64 r)∧Below w.heap.size w w':=by
 replace cp:=cg.mk cp;replace cx:=az.mk cx;replace cv:=cg.mk cv;replace cA:=az.mk cA;replace dW:=cg.mk dW;replace eC:=az.mk eC;unfold nv.f at h;have kp:=Tryz.underlying30;have yc:=Tryz.underlying62
 (repeat' first|((with_reducible replace h:=cG h);rcases h with ⟨hc,h⟩|⟨hc,h⟩<;>first|exact(none_some h).elim|exact absurd hc (by decide)|subst hc|(replace hc:=br hc;subst hc)|(replace hc:=ey hc;subst hc)|(replace hc:=hH_ hc;subst hc)|(have hd:(_==_)=true:=hc)|(have hd:(_==_)=false:=br hc)|(have hd:=hI_ hc;have he:=cD hc;clear hc)|(have hd:=cE hc;have he:=hL_ hc)|(have hd:=decide_eq_false hc)|(have hd:=decide_eq_true hc;(try(have hn:=Int.natCast_pos.mp hc;have hm:=decide_eq_true hn;replace hn:=eq_true hn));first|(obtain⟨g_,e_,i_⟩:=ew (by assumption) (by first|assumption|decide) hc;cases e_)|(obtain⟨a_,e_,c_⟩:=er (by assumption) (by first|assumption|decide) hc;cases e_))|(have hd:=decide_eq_true hc)|skip)|((with_reducible replace h:=eu h);obtain⟨hl_,h⟩:=h;replace hl_:=A_ hl_;(try dsimp only at h)))
 all_goals go_enter Tryz.func67,Tryz.ntmps67
 all_goals go_wp2_with ((first
  |((with_reducible refine gate_dst (N:=2) rfl ?_);refine bV #[.slice aU ak.length c0_0,.int .i64 ax,.slice a6 aq.length aW,.int .i64 aN,.int .i64 a0_4,.slice cy aD.length cu] 30 fun g w1 j1 j2 j3=> ?_)
  |(go_at_call 28;(try rw[hl_.out]);replace h:=bI h;obtain⟨t,A,h⟩:=h;(try dsimp only at h);refine(impl_ShopOk.calls _ _ _ _ _ _ _ _ _ _ _ _ _ _ _ Rd.out az.out Rd.out az.out Rd.out az.out A).mono ?_;rintro e w2 ⟨rfl,hb⟩;have jb:=aK.mk hb;clear A hb)
  |(go_at_call 58;(try rw[hl_.out]);replace h:=bI h;obtain⟨t,A,h⟩:=h;(try dsimp only at h);refine(eK.calls _ _ _ _ _ A).mono ?_;rintro e w2 ⟨rfl,n,rfl⟩;clear A)
  |(go_at_call 105;(try rw[hl_.out]);replace h:=bI h;obtain⟨t,A,h⟩:=h;(try dsimp only at h);refine(ye.calls _ _ _ _ _ _ _ Rd.out az.out A).mono ?_;rintro e w2 ⟨rfl,hb⟩;have jb:=aK.mk hb;clear A hb)
  |(refine qR (id:=3) (ds:=[]) (l:= #[false,false,false,false,false,false,false,false,false,false]) nv.FO nv.Cu ?_;intro ag HW_ w3 jw u0 iu hHeld;replace h:=bI h;obtain⟨r8t,A8,h⟩:=h;(try dsimp only at h);refine qA 0 (some 30) ag ?_;refine qA 1 (some 31) ag ?_;refine qT 2 (some 32) ag HW_ hHeld ?_;refine qA 3 (some 33) ag ?_;refine qA 4 (some 34) ag ?_;refine qT 5 (some 35) ag HW_ hHeld ?_;refine qA 6 (some 36) ag ?_;refine qT 7 (some 37) ag HW_ hHeld ?_;refine pH 8 (some 38) ag fun K hK=> ?_;refine gH Tryz.func106 (by kernel_rfl) rfl _ (by rfl) rfl rfl (by(try simp only[List.map_toArray,List.map_cons,List.map_nil]);rfl) ?_;refine(AX.calls _ _ _ _ A8).mono ?_;rintro e u8 ⟨rfl,n,rfl⟩;refine⟨_,rfl,hK.out _ _ From.out fun hHeld=> ?_⟩;clear hK K;refine qN ?_;refine qA 9 (some 4) ag ?_;refine qD ag ?_;all_goals((try simp only[Option.bind_some]at h);(repeat' first|((with_reducible replace h:=cG h);rcases h with ⟨hc,h⟩|⟨hc,h⟩<;>first|exact(none_some h).elim|exact absurd hc (by decide)|subst hc|(replace hc:=br hc;subst hc)|(replace hc:=ey hc;subst hc)|(replace hc:=hH_ hc;subst hc)|(have hd:(_==_)=true:=hc)|(have hd:(_==_)=false:=br hc)|(have hd:=hI_ hc;have he:=cD hc;clear hc)|(have hd:=cE hc;have he:=hL_ hc)|(have hd:=decide_eq_false hc)|(have hd:=decide_eq_true hc;(try(have hn:=Int.natCast_pos.mp hc;have hm:=decide_eq_true hn;replace hn:=eq_true hn));first|(obtain⟨g_,e_,i_⟩:=ew (by assumption) (by first|assumption|decide) hc;cases e_)|(obtain⟨a_,e_,c_⟩:=er (by assumption) (by first|assumption|decide) hc;cases e_))|(have hd:=decide_eq_true hc)|skip)|((with_reducible replace h:=eu h);obtain⟨hl_,h⟩:=h;replace hl_:=A_ hl_;(try dsimp only at h))))));(repeat' first|((with_reducible replace h:=cG h);rcases h with ⟨hc,h⟩|⟨hc,h⟩<;>first|exact(none_some h).elim|exact absurd hc (by decide)|subst hc|(replace hc:=br hc;subst hc)|(replace hc:=ey hc;subst hc)|(replace hc:=hH_ hc;subst hc)|(have hd:(_==_)=true:=hc)|(have hd:(_==_)=false:=br hc)|(have hd:=hI_ hc;have he:=cD hc;clear hc)|(have hd:=cE hc;have he:=hL_ hc)|(have hd:=decide_eq_false hc)|(have hd:=decide_eq_true hc;(try(have hn:=Int.natCast_pos.mp hc;have hm:=decide_eq_true hn;replace hn:=eq_true hn));first|(obtain⟨g_,e_,i_⟩:=ew (by assumption) (by first|assumption|decide) hc;cases e_)|(obtain⟨a_,e_,c_⟩:=er (by assumption) (by first|assumption|decide) hc;cases e_))|(have hd:=decide_eq_true hc)|skip)|((with_reducible replace h:=eu h);obtain⟨hl_,h⟩:=h;replace hl_:=A_ hl_;(try dsimp only at h))))
 all_goals obtain rfl:=Option.some.inj h
 all_goals go_ret
 all_goals exact⟨(by first|rfl|(simp_all;done)),From.out⟩
end Go.Proofs.YtnjfiaekdcekgaaGreatDoor.P
namespace Go.Proofs.YtnjfiaekdcekgaaGreatDoor.P
set_option maxHeartbeats 8000000
set_option maxRecDepth 100000
open Go.RowKit Go.Proofs.YtnjfiaekdcekgaaGreatDoorW.bS Go.Proofs.YtnjfiaekdcekgaaGreatDoorW.dU Go.Proofs.YtnjfiaekdcekgaaGreatDoorW.dX Go.Proofs.YtnjfiaekdcekgaaGreatDoor.V
attribute [local go_sem] fV fW
attribute [local go_sem] fE fI fH fL fG fK fF fJ
def gK.l0:Nat→List ByteArray→List (S64)→Int→Int→Option (List ByteArray)
 |0,_,_,_,_=>none
 |k+1,x3,BS,Xj,tK=>if tK<Xj then(if 0≤tK then(if tK<(BS.length:Int)then((dQ.f k (([(dn BS tK).f0.f0,(dn BS tK).f0.f1,(dn BS tK).f1,(dn BS tK).f2]:List Int))).bind fun wO=>(if x3.length<8796093022208 then(gK.l0 k (x3++[wO]) BS Xj (wrap64 (tK+1)))else(none)))else(none))else(none))else(some x3)
def gK.f (k:Nat) (ak:List (ar)) (ax:Int) (aq:List Int) (aN:Int) (a0_4:Int) (aD:List (S64)):Option (List ByteArray):=(impl_ShopOk.f k ak ax aq aN a0_4 aD).bind fun Fs=>(if Fs=true then((dQ.f k aq).bind fun jR=>(if 8+jR.size≤9223372036854775807 then((dQ.f k (([ax]:List Int))).bind fun t1397=>(if 5+t1397.size≤9223372036854775807 then((dQ.f k (([aN]:List Int))).bind fun iH=>(if 7+iH.size≤9223372036854775807 then((dQ.f k (([a0_4]:List Int))).bind fun ib=>(if 7+ib.size≤9223372036854775807 then(gK.l0 k (([(⟨#[112,105,116,99,104,101,115,32]⟩:ByteArray)++jR,(⟨#[100,111,110,101,32]⟩:ByteArray)++t1397,(⟨#[119,97,114,109,116,104,32]⟩:ByteArray)++iH,(⟨#[109,111,109,101,110,116,32]⟩:ByteArray)++ib]:List ByteArray)) aD (aD.length:Int) 0)else(none)))else(none)))else(none)))else(none)))else(some ([]:List ByteArray)))
def gK.T3:Bool×List (List Nat×List Nat):=(true,[([],[]),([0],[0]),([1],[1]),([2],[2]),([3],[3]),([],[]),([5],[5]),([6],[6]),([7],[7]),([8,3],[8]),([9],[9]),([],[]),([11],[11]),([12],[12]),([13,9],[13]),([14],[14]),([],[]),([16],[16]),([17],[17]),([18,14],[18]),([19],[19]),([4,10,15,20],[4,10,15,20]),([21,19,0,1,2,3,4,5,6,7,8,9,10,11,12,13,14,15,16,17,18,19,20,21],[21])])
def gK.B3:List Nat:=[0,1,3,7,15,0,32,96,224,495,1007,0,2048,6144,15343,31727,0,65536,196608,490479,1014767,2097151,4194303]
theorem gK.FO:rtab .any (opsOf Tryz.f12 3)=gK.T3:=by kernel_rfl
theorem gK.Cu:eN gK.T3.2 gK.B3=true:=by kernel_rfl
theorem gK.calls (k:Nat) (aU:Option Addr) (c0_0:Nat) (ak:List (ar)) (ax:Int) (a6:Option Addr) (aW:Nat) (aq:List Int) (aN:Int) (a0_4:Int) (cy:Option Addr) (cu:Nat) (aD:List (S64)) (r:List ByteArray) (w:World) (cp:Kd.C bl w aU ak.length ak) (cx:ak.length≤c0_0) (cv:Kd.C (Kd.int .i64) w a6 aq.length aq) (cA:aq.length≤aW) (dW:Kd.C k64 w cy aD.length aD) (eC:aD.length≤cu) (h:gK.f k ak ax aq aN a0_4 aD=some r) (ht_:aj (rr w)):
  Calls Tryz.prog 12 #[.agg #[.slice aU ak.length c0_0,.int .i64 ax,.slice a6 aq.length aW,.int .i64 aN,.int .i64 a0_4,.slice cy aD.length cu]] w fun e w'=>∃v0_:Value,e= .returned (v0_)∧Kd.R Kd.string 9 w' w.heap.size (fun _=>True) v0_ r∧Below w.heap.size w w':=by
 have kp:=Tryz.underlying30;have hu64:=Tryz.underlying64;have ix:=A_ cp;have iK:=A_ cx;clear cp cx;have iY:=A_ cv;have nM:=A_ cA;clear cv cA;have zW:=A_ dW;have HC0_5:=A_ eC;clear dW eC;have HB:=A_ (Below.refl w.heap.size w);have H:((impl_ShopOk.f k ak ax aq aN a0_4 aD).bind fun Fs=>(if Fs=true then((dQ.f k aq).bind fun jR=>(if 8+jR.size≤9223372036854775807 then((dQ.f k (([ax]:List Int))).bind fun t1397=>(if 5+t1397.size≤9223372036854775807 then((dQ.f k (([aN]:List Int))).bind fun iH=>(if 7+iH.size≤9223372036854775807 then((dQ.f k (([a0_4]:List Int))).bind fun ib=>(if 7+ib.size≤9223372036854775807 then(gK.l0 k (([(⟨#[112,105,116,99,104,101,115,32]⟩:ByteArray)++jR,(⟨#[100,111,110,101,32]⟩:ByteArray)++t1397,(⟨#[119,97,114,109,116,104,32]⟩:ByteArray)++iH,(⟨#[109,111,109,101,110,116,32]⟩:ByteArray)++ib]:List ByteArray)) aD (aD.length:Int) 0)else(none)))else(none)))else(none)))else(none)))else(some ([]:List ByteArray))))=some r:=h;clear h;replace H:=Option.bind_eq_some_iff.mp H;obtain⟨Fs,fh,H⟩:=H
 (try dsimp only at H)
 have A2:=A_ fh;clear fh;by_cases c3:Fs=true
 ·subst c3;rw[if_pos rfl]at H;replace H:=Option.bind_eq_some_iff.mp H;obtain⟨jR,mn,H⟩:=H
  (try dsimp only at H)
  have A4:=A_ mn;clear mn;by_cases c5:8+jR.size≤9223372036854775807
  ·rw[if_pos c5]at H;have ug:=eq_true c5;have CL:decide (8+jR.size≤9223372036854775807)=true:=decide_eq_true c5
   try have abW:(9223372036854775807<8+jR.size)=False:=eq_false (Nat.not_lt.2 c5)
   obtain⟨w_,D3⟩:∃y_:List Int,y_=(([ax]:List Int)):=⟨_,rfl⟩;replace H:((dQ.f k w_).bind fun t1397=>(if 5+t1397.size≤9223372036854775807 then((dQ.f k (([aN]:List Int))).bind fun iH=>(if 7+iH.size≤9223372036854775807 then((dQ.f k (([a0_4]:List Int))).bind fun ib=>(if 7+ib.size≤9223372036854775807 then(gK.l0 k (([(⟨#[112,105,116,99,104,101,115,32]⟩:ByteArray)++jR,(⟨#[100,111,110,101,32]⟩:ByteArray)++t1397,(⟨#[119,97,114,109,116,104,32]⟩:ByteArray)++iH,(⟨#[109,111,109,101,110,116,32]⟩:ByteArray)++ib]:List ByteArray)) aD (aD.length:Int) 0)else(none)))else(none)))else(none)))=some r:=by first|(rw[D3];with_reducible exact H)|(have aI:=(Option.bind_some _ _).symm.trans H;rw[D3];with_reducible exact aI)|(have aI:=(Option.bind_some _ _).symm.trans H;with_reducible exact aI)|with_reducible exact H|(rw[D3];exact H)|exact H
   have QN:=A_ D3;clear D3;replace H:=Option.bind_eq_some_iff.mp H;obtain⟨t1397,oy,H⟩:=H
   (try dsimp only at H)
   have A6:=A_ oy;clear oy;by_cases c7:5+t1397.size≤9223372036854775807
   ·rw[if_pos c7]at H;have AE:=eq_true c7;have CM:decide (5+t1397.size≤9223372036854775807)=true:=decide_eq_true c7
    try have abX:(9223372036854775807<5+t1397.size)=False:=eq_false (Nat.not_lt.2 c7)
    obtain⟨vn,D4⟩:∃y_:List Int,y_=(([aN]:List Int)):=⟨_,rfl⟩;replace H:((dQ.f k vn).bind fun iH=>(if 7+iH.size≤9223372036854775807 then((dQ.f k (([a0_4]:List Int))).bind fun ib=>(if 7+ib.size≤9223372036854775807 then(gK.l0 k (([(⟨#[112,105,116,99,104,101,115,32]⟩:ByteArray)++jR,(⟨#[100,111,110,101,32]⟩:ByteArray)++t1397,(⟨#[119,97,114,109,116,104,32]⟩:ByteArray)++iH,(⟨#[109,111,109,101,110,116,32]⟩:ByteArray)++ib]:List ByteArray)) aD (aD.length:Int) 0)else(none)))else(none)))=some r:=by first|(rw[D4];with_reducible exact H)|(have aI:=(Option.bind_some _ _).symm.trans H;rw[D4];with_reducible exact aI)|(have aI:=(Option.bind_some _ _).symm.trans H;with_reducible exact aI)|with_reducible exact H|(rw[D4];exact H)|exact H
    have QO:=A_ D4;clear D4;replace H:=Option.bind_eq_some_iff.mp H;obtain⟨iH,qX,H⟩:=H
    (try dsimp only at H)
    have A8:=A_ qX;clear qX;by_cases c9:7+iH.size≤9223372036854775807
    ·rw[if_pos c9]at H;have mF:=eq_true c9;have sS:decide (7+iH.size≤9223372036854775807)=true:=decide_eq_true c9
     try have abZ:(9223372036854775807<7+iH.size)=False:=eq_false (Nat.not_lt.2 c9)
     obtain⟨tL,D5⟩:∃y_:List Int,y_=(([a0_4]:List Int)):=⟨_,rfl⟩;replace H:((dQ.f k tL).bind fun ib=>(if 7+ib.size≤9223372036854775807 then(gK.l0 k (([(⟨#[112,105,116,99,104,101,115,32]⟩:ByteArray)++jR,(⟨#[100,111,110,101,32]⟩:ByteArray)++t1397,(⟨#[119,97,114,109,116,104,32]⟩:ByteArray)++iH,(⟨#[109,111,109,101,110,116,32]⟩:ByteArray)++ib]:List ByteArray)) aD (aD.length:Int) 0)else(none)))=some r:=by first|(rw[D5];with_reducible exact H)|(have aI:=(Option.bind_some _ _).symm.trans H;rw[D5];with_reducible exact aI)|(have aI:=(Option.bind_some _ _).symm.trans H;with_reducible exact aI)|with_reducible exact H|(rw[D5];exact H)|exact H
     have QP:=A_ D5;clear D5;replace H:=Option.bind_eq_some_iff.mp H;obtain⟨ib,vq,H⟩:=H
     (try dsimp only at H)
     have BU:=A_ vq;clear vq;by_cases c11:7+ib.size≤9223372036854775807
     ·rw[if_pos c11]at H;have Hh:=eq_true c11;have Hi:decide (7+ib.size≤9223372036854775807)=true:=decide_eq_true c11
      try have RP:(9223372036854775807<7+ib.size)=False:=eq_false (Nat.not_lt.2 c11)
      obtain⟨Ph,D6⟩:∃y_:List ByteArray,y_=(([(⟨#[112,105,116,99,104,101,115,32]⟩:ByteArray)++jR,(⟨#[100,111,110,101,32]⟩:ByteArray)++t1397,(⟨#[119,97,114,109,116,104,32]⟩:ByteArray)++iH,(⟨#[109,111,109,101,110,116,32]⟩:ByteArray)++ib]:List ByteArray)):=⟨_,rfl⟩;replace H:(gK.l0 k Ph aD (aD.length:Int) 0)=some r:=by first|(rw[D6];with_reducible exact H)|(have aI:=(Option.bind_some _ _).symm.trans H;rw[D6];with_reducible exact aI)|(have aI:=(Option.bind_some _ _).symm.trans H;with_reducible exact aI)|with_reducible exact H|(rw[D6];exact H)|exact H
      have QQ:=A_ D6;clear D6;have H':=A_ H;clear H;go_enter Tryz.func12,Tryz.ntmps12
      try go_wp2_with (first|((with_reducible refine gate_dst (N:=1) rfl ?_);refine bX (N:=1) (cs:= #[.slice aU ak.length c0_0,.int .i64 ax,.slice a6 aq.length aW,.int .i64 aN,.int .i64 a0_4,.slice cy aD.length cu]) (t:=30) ?_;intro fX hg w12 cj hb;have ah:=A_ (bz (oB HB) hb);have ai:=A_ (cj);have ay:=A_ ((by rw[hg];exact(bn (oB HB)):w.heap.size≤fX));have aG:=A_ ((by rw[hg];exact(bn (oB HB)):w.heap.size≤fX));clear HB;have HB:=ah;have bm:=ai;have YI:=ay;have YA:=aG;clear ah ai ay aG;clear hb cj hg;have C5:=cz bm 0;have C6:=cz bm 1;have C7:=cz bm 2;have Tp:=cz bm 3;have adx:=cz bm 4;have ady:=cz bm 5;have Db:=aJ bm.out 0;have Dc:=aJ bm.out 1;have Dd:=aJ bm.out 2;have TP:=aJ bm.out 3;have aec:=aJ bm.out 4;have aed:=aJ bm.out 5)|((with_reducible refine bT (f:=28) rfl ?_);refine gL (some 7) Tryz.func28 #[.agg #[.slice aU ak.length c0_0,.int .i64 ax,.slice a6 aq.length aW,.int .i64 aN,.int .i64 a0_4,.slice cy aD.length cu]] ?_;(with_reducible refine(impl_ShopOk.calls k _ _ ak ax _ _ aq aN a0_4 _ _ aD true _ ?bG ?bH ?iF ?iG ?mS ?oo A2.out).mono ?_);(case bG=>exact eM ix.out);(case bH=>exact iK.out);(case iF=>exact eM iY.out);(case iG=>exact nM.out);(case mS=>exact eM zW.out);(case oo=>exact HC0_5.out);rintro e wW ⟨rfl,hb⟩;refine⟨_,rfl,?_⟩;have ah:=A_ (bb bm hb);have ai:=A_ (bz (oB HB) hb);clear bm;clear HB;have bm:=ah;have HB:=ai;clear ah ai;(try clear hb);(try clear hb2);(try clear hk);(try clear hi)))
      have ah:=A_ (bF bm.out);have ai:=A_ (fC HB.out);clear bm;clear HB;have bm:=ah;have HB:=ai;clear ah ai;refine pJ (n:=23) (S:=fun w'=>True) (ds:=[]) #[false,false,false,false,false,false,false,false,false,false,false,false,false,false,false,false,false,false,false,false,false,false,false] (by kernel_rfl) rfl rfl trivial (fun hHeld=> ?_);refine su gK.FO gK.Cu (fun ag HW_=> ?_);generalize wW.drew=l4 at bm HB hHeld ⊢;refine pA 0 (some 9) ag.out ?_;refine pA 1 (some 10) ag.out ?_;refine pA 5 (some 14) ag.out ?_;refine pA 6 (some 15) ag.out ?_;refine pA 11 (some 20) ag.out ?_;refine pA 16 (some 25) ag.out ?_;refine afm [2,3,4,7,8,9,10,12,13,14,15,17,18,19,20,21,22] (fun a0_ b a w'=>∃(fg:Value) (e8:Value) (e5:Value) (v1407:Value) (fZ:Value),a=k8 a0_ b [(2,11,.slice a6 aq.length aW),(3,12,.string jR),(4,13,.string ((⟨#[112,105,116,99,104,101,115,32]⟩:ByteArray)++jR)),(7,16,.int .i64 ax),(8,17,fg),(9,18,.string t1397),(10,19,.string ((⟨#[100,111,110,101,32]⟩:ByteArray)++t1397)),(12,21,.int .i64 aN),(13,22,e8),(14,23,.string iH),(15,24,.string ((⟨#[119,97,114,109,116,104,32]⟩:ByteArray)++iH)),(17,26,.int .i64 a0_4),(18,27,e5),(19,28,.string ib),(20,29,.string ((⟨#[109,111,109,101,110,116,32]⟩:ByteArray)++ib)),(21,30,v1407),(22,3,fZ)]∧(w'.heap[fX]? =some (.cells #[.slice aU ak.length c0_0,.int .i64 ax,.slice a6 aq.length aW,.int .i64 aN,.int .i64 a0_4,.slice cy aD.length cu] 30 (0,0)))∧(Below w.heap.size w w')∧(b 8=true→Kd.R (Kd.int .i64) 3 w' w.heap.size (fun _=>True) fg w_)∧(b 13=true→Kd.R (Kd.int .i64) 3 w' w.heap.size (fun _=>True) e8 vn)∧(b 18=true→Kd.R (Kd.int .i64) 3 w' w.heap.size (fun _=>True) e5 tL)∧(b 21=true→Kd.R Kd.string 9 w' w.heap.size (fun _=>True) v1407 Ph)∧(b 22=true→(fZ:Value)=v1407)) ag.out HW_.out (by kernel_rfl) (by kernel_rfl) ?_ ?_ ?_
      ·exact⟨.bool false,.bool false,.bool false,.bool false,.bool false,by simp only[k8,Bool.false_eq_true,if_false],bm.out,HB.out,fun h_=>absurd h_ (by decide),fun h_=>absurd h_ (by decide),fun h_=>absurd h_ (by decide),fun h_=>absurd h_ (by decide),fun h_=>absurd h_ (by decide)⟩
      ·skip
       clear bm HB;refine mV ?_ ?_
       ·rintro b a w' ⟨fg,e8,e5,v1407,fZ,ha,eU,eV,fk,fl,fo,kY,Q_X22_⟩ gI d_ hoff;refine⟨_,rfl,fun K hK=> ?_⟩;have e10:a.tmps[10]? =some (.pointer (some ⟨fX,2,none⟩)):=(by rw[ha];exact(yZ rfl).trans rfl);replace ha:=A_ ha;have bm:=A_ eU;have HB:=A_ eV;have hc0_:w'.cell? ⟨fX,0,none⟩=some (.slice aU ak.length c0_0):=cz bm 0;have L3:w'.cell? ⟨fX,1,none⟩=some (.int .i64 ax):=cz bm 1;have L4:w'.cell? ⟨fX,2,none⟩=some (.slice a6 aq.length aW):=cz bm 2;have L5:w'.cell? ⟨fX,3,none⟩=some (.int .i64 aN):=cz bm 3;have L6:w'.cell? ⟨fX,4,none⟩=some (.int .i64 a0_4):=cz bm 4;have L8:w'.cell? ⟨fX,5,none⟩=some (.slice cy aD.length cu):=cz bm 5;refine value_ (w1:=w') (v:= .slice a6 aq.length aW) (by rfl) rfl ?_ ?_
        ·go_simp
         (try simp only[eJ])
         try rfl
        refine hK.out _ _ ⟨fg,e8,e5,v1407,fZ,(by rw[ha.out];exact mQ 0 gI rfl rfl rfl),eU,eV,fk,fl,fo,fun bU=>absurd ((hoff 21 (by kernel_rfl)).symm.trans bU) (by decide),fun bU=>absurd ((hoff 22 (by kernel_rfl)).symm.trans bU) (by decide)⟩
       refine mV ?_ ?_
       ·rintro b a w' ⟨fg,e8,e5,v1407,fZ,ha,eU,eV,fk,fl,fo,kY,Q_X22_⟩ gI d_ hoff;refine⟨_,rfl,fun K hK=> ?_⟩;have e11:a.tmps[11]? =some (.slice a6 aq.length aW):=(by rw[ha];exact mP (e:=(2,11,.slice a6 aq.length aW)) 0 rfl rfl (d_ 2 (by kernel_rfl)) rfl);replace ha:=A_ ha;have bm:=A_ eU;have HB:=A_ eV;refine gH Tryz.func33 (by kernel_rfl) rfl #[.slice a6 aq.length aW] (by rfl) rfl rfl (by first|(simp only[List.map_toArray,List.map_cons,List.map_nil,Act.eval,Array.getD_eq_getD_getElem?,Option.getD_some,e11];done)|(simp only[List.map_toArray,List.map_cons,List.map_nil,Act.eval,Array.getD_eq_getD_getElem?,Option.getD_some,e11];rfl)) ?_
        with_reducible refine(dQ.calls k _ _ aq jR _ ?bG ?bH A4.out ?sideT).mono ?_
        (case sideT=>exact⟨mY ht_.out (oB HB)⟩)
        (case bG=>exact eM iY.out)
        (case bH=>exact nM.out)
        rintro e l5 ⟨rfl,hb⟩;refine⟨_,rfl,?_⟩;have ah:=A_ (bb bm hb);have ai:=A_ (bz (oB HB) hb);have Gv:=fun(bU:b 8=true)=>(show Kd.R (Kd.int .i64) 3 l5 w.heap.size (fun _=>True) fg w_ from by first|exact(Kd.bh (by(with_reducible repeat(first|apply Kd.bY|apply Kd.R_drewN|apply Kd.R_drew));exact(fk bU)) hb)|exact Kd.bN (Kd.bh (by(with_reducible repeat(first|apply Kd.bY|apply Kd.R_drewN|apply Kd.R_drew));exact(fk bU)) hb) (fun _ h_=>by first|trivial|exact h_|exact h_.1));have zE:=fun(bU:b 13=true)=>(show Kd.R (Kd.int .i64) 3 l5 w.heap.size (fun _=>True) e8 vn from by first|exact(Kd.bh (by(with_reducible repeat(first|apply Kd.bY|apply Kd.R_drewN|apply Kd.R_drew));exact(fl bU)) hb)|exact Kd.bN (Kd.bh (by(with_reducible repeat(first|apply Kd.bY|apply Kd.R_drewN|apply Kd.R_drew));exact(fl bU)) hb) (fun _ h_=>by first|trivial|exact h_|exact h_.1));have vp:=fun(bU:b 18=true)=>(show Kd.R (Kd.int .i64) 3 l5 w.heap.size (fun _=>True) e5 tL from by first|exact(Kd.bh (by(with_reducible repeat(first|apply Kd.bY|apply Kd.R_drewN|apply Kd.R_drew));exact(fo bU)) hb)|exact Kd.bN (Kd.bh (by(with_reducible repeat(first|apply Kd.bY|apply Kd.R_drewN|apply Kd.R_drew));exact(fo bU)) hb) (fun _ h_=>by first|trivial|exact h_|exact h_.1));clear bm;clear HB;have bm:=ah;have HB:=ai;clear ah ai
        (try clear hb)
        (try clear hb2)
        (try clear hk)
        (try clear hi)
        refine hK.out _ _ ⟨fg,e8,e5,v1407,fZ,(by rw[ha.out];exact mQ 1 gI rfl rfl rfl),(oK bm),(oB HB),Gv,zE,vp,fun bU=>absurd ((hoff 21 (by kernel_rfl)).symm.trans bU) (by decide),fun bU=>absurd ((hoff 22 (by kernel_rfl)).symm.trans bU) (by decide)⟩
       refine mV ?_ ?_
       ·rintro b a w' ⟨fg,e8,e5,v1407,fZ,ha,eU,eV,fk,fl,fo,kY,Q_X22_⟩ gI d_ hoff;refine⟨_,rfl,fun K hK=> ?_⟩;have e12:a.tmps[12]? =some (.string jR):=(by rw[ha];exact mP (e:=(3,12,.string jR)) 1 rfl rfl (d_ 3 (by kernel_rfl)) rfl);replace ha:=A_ ha;have bm:=A_ eU;have HB:=A_ eV;refine value_ (w1:=w') (v:= .string ((⟨#[112,105,116,99,104,101,115,32]⟩:ByteArray)++jR)) (by rfl) rfl ?_ ?_
        ·go_simp
         (try simp only[eJ])
         try rfl
        refine hK.out _ _ ⟨fg,e8,e5,v1407,fZ,(by rw[ha.out];exact mQ 2 gI rfl rfl rfl),eU,eV,fk,fl,fo,fun bU=>absurd ((hoff 21 (by kernel_rfl)).symm.trans bU) (by decide),fun bU=>absurd ((hoff 22 (by kernel_rfl)).symm.trans bU) (by decide)⟩
       refine mV ?_ ?_
       ·rintro b a w' ⟨fg,e8,e5,v1407,fZ,ha,eU,eV,fk,fl,fo,kY,Q_X22_⟩ gI d_ hoff;refine⟨_,rfl,fun K hK=> ?_⟩;have e15:a.tmps[15]? =some (.pointer (some ⟨fX,1,none⟩)):=(by rw[ha];exact(yZ rfl).trans rfl);replace ha:=A_ ha;have bm:=A_ eU;have HB:=A_ eV;have hc0_:w'.cell? ⟨fX,0,none⟩=some (.slice aU ak.length c0_0):=cz bm 0;have L3:w'.cell? ⟨fX,1,none⟩=some (.int .i64 ax):=cz bm 1;have L4:w'.cell? ⟨fX,2,none⟩=some (.slice a6 aq.length aW):=cz bm 2;have L5:w'.cell? ⟨fX,3,none⟩=some (.int .i64 aN):=cz bm 3;have L6:w'.cell? ⟨fX,4,none⟩=some (.int .i64 a0_4):=cz bm 4;have L8:w'.cell? ⟨fX,5,none⟩=some (.slice cy aD.length cu):=cz bm 5;refine value_ (w1:=w') (v:= .int .i64 ax) (by rfl) rfl ?_ ?_
        ·go_simp
         (try simp only[eJ])
         try rfl
        refine hK.out _ _ ⟨fg,e8,e5,v1407,fZ,(by rw[ha.out];exact mQ 3 gI rfl rfl rfl),eU,eV,fun bU=>absurd ((hoff 8 (by kernel_rfl)).symm.trans bU) (by decide),fl,fo,fun bU=>absurd ((hoff 21 (by kernel_rfl)).symm.trans bU) (by decide),fun bU=>absurd ((hoff 22 (by kernel_rfl)).symm.trans bU) (by decide)⟩
       refine mV ?_ ?_
       ·rintro b a w' ⟨fg,e8,e5,v1407,fZ,ha,eU,eV,fk,fl,fo,kY,Q_X22_⟩ gI d_ hoff;refine⟨_,rfl,fun K hK=> ?_⟩;have e16:a.tmps[16]? =some (.int .i64 ax):=(by rw[ha];exact mP (e:=(7,16,.int .i64 ax)) 3 rfl rfl (d_ 7 (by kernel_rfl)) rfl);replace ha:=A_ ha;have bm:=A_ eU;have HB:=A_ eV;refine Kd.vK (Kd.int .i64) _ 3 ?hg (N:=17) ?hd (xs:=([ax]:List Int)) (inner:=[.int .i64 ax]) (ok:=fun _=>True) (cU:=fun _=>True) ?hr ?hp (fun _ hk=>hk) trivial (Below.refl _ _) (Nat.le_refl _) (by simp) ?_;(case hd=>rfl);(case hg=>rfl);(case hr=>first|(go_simp;done)|(go_simp;rfl));(case hp=>exact(bf.one (show Kd.M (Kd.int .i64) _ _ _ ax [.int .i64 ax]from rfl) (bf.none _ _)));intro fg l5 gh hb cT dx;clear cT dx
        (first|rw[←QN.out]at gh|(simp only[Int.reduceToNat]at gh;rw[←QN.out]at gh))
        have ah:=A_ (Kd.dr gh (bn (oB HB)));have ai:=A_ (bb bm hb);have ay:=A_ (bz (oB HB) hb);have zE:=fun(bU:b 13=true)=>(show Kd.R (Kd.int .i64) 3 l5 w.heap.size (fun _=>True) e8 vn from by first|exact(Kd.iA (by(with_reducible repeat(first|apply Kd.bY|apply Kd.R_drewN|apply Kd.R_drew));exact(fl bU)) (Kd.fT gh) hb)|exact Kd.bN (Kd.iA (by(with_reducible repeat(first|apply Kd.bY|apply Kd.R_drewN|apply Kd.R_drew));exact(fl bU)) (Kd.fT gh) hb) (fun _ h_=>by first|trivial|exact h_|exact h_.1));have vp:=fun(bU:b 18=true)=>(show Kd.R (Kd.int .i64) 3 l5 w.heap.size (fun _=>True) e5 tL from by first|exact(Kd.iA (by(with_reducible repeat(first|apply Kd.bY|apply Kd.R_drewN|apply Kd.R_drew));exact(fo bU)) (Kd.fT gh) hb)|exact Kd.bN (Kd.iA (by(with_reducible repeat(first|apply Kd.bY|apply Kd.R_drewN|apply Kd.R_drew));exact(fo bU)) (Kd.fT gh) hb) (fun _ h_=>by first|trivial|exact h_|exact h_.1));clear bm;clear HB;have iv:=ah;have bm:=ai;have HB:=ay;clear ah ai ay;clear hb gh;refine hK.out _ _ ⟨fg,e8,e5,v1407,fZ,(by rw[ha.out];exact mQ 4 gI rfl rfl rfl),(oK bm),(oB HB),fun _=>(oR iv),zE,vp,fun bU=>absurd ((hoff 21 (by kernel_rfl)).symm.trans bU) (by decide),fun bU=>absurd ((hoff 22 (by kernel_rfl)).symm.trans bU) (by decide)⟩
       refine mV ?_ ?_
       ·rintro b a w' ⟨fg,e8,e5,v1407,fZ,ha,eU,eV,fk,fl,fo,kY,Q_X22_⟩ gI d_ hoff;refine⟨_,rfl,fun K hK=> ?_⟩;have e17:a.tmps[17]? =some (fg):=(by rw[ha];exact mP (e:=(8,17,fg)) 4 rfl rfl (d_ 8 (by kernel_rfl)) rfl);replace ha:=A_ ha;have bm:=A_ eU;have HB:=A_ eV;have iv:=A_ (fk (d_ 8 (by kernel_rfl)));obtain⟨Gz,Hu,eo20⟩:=Kd.dp iv.out
        (first|subst eo20|(injection eo20 with mG rK mH;have rL:=mG.symm;have rM:=mH.symm;clear mG rK mH;subst rL;subst rM))
        refine gH Tryz.func33 (by kernel_rfl) rfl #[.slice Gz w_.length Hu] (by rfl) rfl rfl (by first|(simp only[List.map_toArray,List.map_cons,List.map_nil,Act.eval,Array.getD_eq_getD_getElem?,Option.getD_some,e17];done)|(simp only[List.map_toArray,List.map_cons,List.map_nil,Act.eval,Array.getD_eq_getD_getElem?,Option.getD_some,e17];rfl)) ?_
        with_reducible refine(dQ.calls k _ _ w_ t1397 _ ?bG ?bH A6.out ?sideT).mono ?_
        (case sideT=>exact⟨mY ht_.out (oB HB)⟩)
        (case bG=>repeat(first|exact(Kd.ct iv.out).2.2|(with_reducible refine Kd.gP ?_ _)|(with_reducible refine Kd.gX ?_ _)|(with_reducible refine Kd.gW ?_)))
        (case bH=>exact(Kd.ct iv.out).2.1)
        rintro e wX ⟨rfl,hb⟩;refine⟨_,rfl,?_⟩;have ah:=A_ (Kd.bh (oR iv) hb);have ai:=A_ (bb bm hb);have ay:=A_ (bz (oB HB) hb);have zE:=fun(bU:b 13=true)=>(show Kd.R (Kd.int .i64) 3 wX w.heap.size (fun _=>True) e8 vn from by first|exact(Kd.bh (by(with_reducible repeat(first|apply Kd.bY|apply Kd.R_drewN|apply Kd.R_drew));exact(fl bU)) hb)|exact Kd.bN (Kd.bh (by(with_reducible repeat(first|apply Kd.bY|apply Kd.R_drewN|apply Kd.R_drew));exact(fl bU)) hb) (fun _ h_=>by first|trivial|exact h_|exact h_.1));have vp:=fun(bU:b 18=true)=>(show Kd.R (Kd.int .i64) 3 wX w.heap.size (fun _=>True) e5 tL from by first|exact(Kd.bh (by(with_reducible repeat(first|apply Kd.bY|apply Kd.R_drewN|apply Kd.R_drew));exact(fo bU)) hb)|exact Kd.bN (Kd.bh (by(with_reducible repeat(first|apply Kd.bY|apply Kd.R_drewN|apply Kd.R_drew));exact(fo bU)) hb) (fun _ h_=>by first|trivial|exact h_|exact h_.1));clear iv;clear bm;clear HB;have iv:=ah;have bm:=ai;have HB:=ay;clear ah ai ay
        (try clear hb)
        (try clear hb2)
        (try clear hk)
        (try clear hi)
        refine hK.out _ _ ⟨.slice Gz w_.length Hu,e8,e5,v1407,fZ,(by rw[ha.out];exact mQ 5 gI rfl rfl rfl),(oK bm),(oB HB),fun _=>(oR iv),zE,vp,fun bU=>absurd ((hoff 21 (by kernel_rfl)).symm.trans bU) (by decide),fun bU=>absurd ((hoff 22 (by kernel_rfl)).symm.trans bU) (by decide)⟩
       refine mV ?_ ?_
       ·rintro b a w' ⟨fg,e8,e5,v1407,fZ,ha,eU,eV,fk,fl,fo,kY,Q_X22_⟩ gI d_ hoff;refine⟨_,rfl,fun K hK=> ?_⟩;have e18:a.tmps[18]? =some (.string t1397):=(by rw[ha];exact mP (e:=(9,18,.string t1397)) 5 rfl rfl (d_ 9 (by kernel_rfl)) rfl);replace ha:=A_ ha;have bm:=A_ eU;have HB:=A_ eV;have iv:=A_ (fk (d_ 8 (by kernel_rfl)));refine value_ (w1:=w') (v:= .string ((⟨#[100,111,110,101,32]⟩:ByteArray)++t1397)) (by rfl) rfl ?_ ?_
        ·go_simp
         (try simp only[eJ])
         try rfl
        refine hK.out _ _ ⟨fg,e8,e5,v1407,fZ,(by rw[ha.out];exact mQ 6 gI rfl rfl rfl),eU,eV,fk,fl,fo,fun bU=>absurd ((hoff 21 (by kernel_rfl)).symm.trans bU) (by decide),fun bU=>absurd ((hoff 22 (by kernel_rfl)).symm.trans bU) (by decide)⟩
       refine mV ?_ ?_
       ·rintro b a w' ⟨fg,e8,e5,v1407,fZ,ha,eU,eV,fk,fl,fo,kY,Q_X22_⟩ gI d_ hoff;refine⟨_,rfl,fun K hK=> ?_⟩;have e20:a.tmps[20]? =some (.pointer (some ⟨fX,3,none⟩)):=(by rw[ha];exact(yZ rfl).trans rfl);replace ha:=A_ ha;have bm:=A_ eU;have HB:=A_ eV;have hc0_:w'.cell? ⟨fX,0,none⟩=some (.slice aU ak.length c0_0):=cz bm 0;have L3:w'.cell? ⟨fX,1,none⟩=some (.int .i64 ax):=cz bm 1;have L4:w'.cell? ⟨fX,2,none⟩=some (.slice a6 aq.length aW):=cz bm 2;have L5:w'.cell? ⟨fX,3,none⟩=some (.int .i64 aN):=cz bm 3;have L6:w'.cell? ⟨fX,4,none⟩=some (.int .i64 a0_4):=cz bm 4;have L8:w'.cell? ⟨fX,5,none⟩=some (.slice cy aD.length cu):=cz bm 5;refine value_ (w1:=w') (v:= .int .i64 aN) (by rfl) rfl ?_ ?_
        ·go_simp
         (try simp only[eJ])
         try rfl
        refine hK.out _ _ ⟨fg,e8,e5,v1407,fZ,(by rw[ha.out];exact mQ 7 gI rfl rfl rfl),eU,eV,fk,fun bU=>absurd ((hoff 13 (by kernel_rfl)).symm.trans bU) (by decide),fo,fun bU=>absurd ((hoff 21 (by kernel_rfl)).symm.trans bU) (by decide),fun bU=>absurd ((hoff 22 (by kernel_rfl)).symm.trans bU) (by decide)⟩
       refine mV ?_ ?_
       ·rintro b a w' ⟨fg,e8,e5,v1407,fZ,ha,eU,eV,fk,fl,fo,kY,Q_X22_⟩ gI d_ hoff;refine⟨_,rfl,fun K hK=> ?_⟩;have e21:a.tmps[21]? =some (.int .i64 aN):=(by rw[ha];exact mP (e:=(12,21,.int .i64 aN)) 7 rfl rfl (d_ 12 (by kernel_rfl)) rfl);replace ha:=A_ ha;have bm:=A_ eU;have HB:=A_ eV;refine Kd.vK (Kd.int .i64) _ 3 ?hg (N:=22) ?hd (xs:=([aN]:List Int)) (inner:=[.int .i64 aN]) (ok:=fun _=>True) (cU:=fun _=>True) ?hr ?hp (fun _ hk=>hk) trivial (Below.refl _ _) (Nat.le_refl _) (by simp) ?_;(case hd=>rfl);(case hg=>rfl);(case hr=>first|(go_simp;done)|(go_simp;rfl));(case hp=>exact(bf.one (show Kd.M (Kd.int .i64) _ _ _ aN [.int .i64 aN]from rfl) (bf.none _ _)));intro e8 l5 gh hb cT dx;clear cT dx
        (first|rw[←QO.out]at gh|(simp only[Int.reduceToNat]at gh;rw[←QO.out]at gh))
        have ah:=A_ (Kd.dr gh (bn (oB HB)));have ai:=A_ (bb bm hb);have ay:=A_ (bz (oB HB) hb);have Gv:=fun(bU:b 8=true)=>(show Kd.R (Kd.int .i64) 3 l5 w.heap.size (fun _=>True) fg w_ from by first|exact(Kd.iA (by(with_reducible repeat(first|apply Kd.bY|apply Kd.R_drewN|apply Kd.R_drew));exact(fk bU)) (Kd.fT gh) hb)|exact Kd.bN (Kd.iA (by(with_reducible repeat(first|apply Kd.bY|apply Kd.R_drewN|apply Kd.R_drew));exact(fk bU)) (Kd.fT gh) hb) (fun _ h_=>by first|trivial|exact h_|exact h_.1));have vp:=fun(bU:b 18=true)=>(show Kd.R (Kd.int .i64) 3 l5 w.heap.size (fun _=>True) e5 tL from by first|exact(Kd.iA (by(with_reducible repeat(first|apply Kd.bY|apply Kd.R_drewN|apply Kd.R_drew));exact(fo bU)) (Kd.fT gh) hb)|exact Kd.bN (Kd.iA (by(with_reducible repeat(first|apply Kd.bY|apply Kd.R_drewN|apply Kd.R_drew));exact(fo bU)) (Kd.fT gh) hb) (fun _ h_=>by first|trivial|exact h_|exact h_.1));clear bm;clear HB;have kf:=ah;have bm:=ai;have HB:=ay;clear ah ai ay;clear hb gh;refine hK.out _ _ ⟨fg,e8,e5,v1407,fZ,(by rw[ha.out];exact mQ 8 gI rfl rfl rfl),(oK bm),(oB HB),Gv,fun _=>(oR kf),vp,fun bU=>absurd ((hoff 21 (by kernel_rfl)).symm.trans bU) (by decide),fun bU=>absurd ((hoff 22 (by kernel_rfl)).symm.trans bU) (by decide)⟩
       refine mV ?_ ?_
       ·rintro b a w' ⟨fg,e8,e5,v1407,fZ,ha,eU,eV,fk,fl,fo,kY,Q_X22_⟩ gI d_ hoff;refine⟨_,rfl,fun K hK=> ?_⟩;have Sl:a.tmps[22]? =some (e8):=(by rw[ha];exact mP (e:=(13,22,e8)) 8 rfl rfl (d_ 13 (by kernel_rfl)) rfl);replace ha:=A_ ha;have bm:=A_ eU;have HB:=A_ eV;have iv:=A_ (fk (d_ 8 (by kernel_rfl)));have kf:=A_ (fl (d_ 13 (by kernel_rfl)));obtain⟨jo,co24,eo24⟩:=Kd.dp kf.out
        (first|subst eo24|(injection eo24 with mG rK mH;have rL:=mG.symm;have rM:=mH.symm;clear mG rK mH;subst rL;subst rM))
        refine gH Tryz.func33 (by kernel_rfl) rfl #[.slice jo vn.length co24] (by rfl) rfl rfl (by first|(simp only[List.map_toArray,List.map_cons,List.map_nil,Act.eval,Array.getD_eq_getD_getElem?,Option.getD_some,Sl];done)|(simp only[List.map_toArray,List.map_cons,List.map_nil,Act.eval,Array.getD_eq_getD_getElem?,Option.getD_some,Sl];rfl)) ?_
        with_reducible refine(dQ.calls k _ _ vn iH _ ?bG ?bH A8.out ?sideT).mono ?_
        (case sideT=>exact⟨mY ht_.out (oB HB)⟩)
        (case bG=>repeat(first|exact(Kd.ct kf.out).2.2|(with_reducible refine Kd.gP ?_ _)|(with_reducible refine Kd.gX ?_ _)|(with_reducible refine Kd.gW ?_)))
        (case bH=>exact(Kd.ct kf.out).2.1)
        rintro e F2 ⟨rfl,hb⟩;refine⟨_,rfl,?_⟩;have ah:=A_ (Kd.bh (oR iv) hb);have ai:=A_ (Kd.bh (oR kf) hb);have ay:=A_ (bb bm hb);have aG:=A_ (bz (oB HB) hb);have vp:=fun(bU:b 18=true)=>(show Kd.R (Kd.int .i64) 3 F2 w.heap.size (fun _=>True) e5 tL from by first|exact(Kd.bh (by(with_reducible repeat(first|apply Kd.bY|apply Kd.R_drewN|apply Kd.R_drew));exact(fo bU)) hb)|exact Kd.bN (Kd.bh (by(with_reducible repeat(first|apply Kd.bY|apply Kd.R_drewN|apply Kd.R_drew));exact(fo bU)) hb) (fun _ h_=>by first|trivial|exact h_|exact h_.1));clear iv;clear kf;clear bm;clear HB;have iv:=ah;have kf:=ai;have bm:=ay;have HB:=aG;clear ah ai ay aG
        (try clear hb)
        (try clear hb2)
        (try clear hk)
        (try clear hi)
        refine hK.out _ _ ⟨fg,.slice jo vn.length co24,e5,v1407,fZ,(by rw[ha.out];exact mQ 9 gI rfl rfl rfl),(oK bm),(oB HB),fun _=>(oR iv),fun _=>(oR kf),vp,fun bU=>absurd ((hoff 21 (by kernel_rfl)).symm.trans bU) (by decide),fun bU=>absurd ((hoff 22 (by kernel_rfl)).symm.trans bU) (by decide)⟩
       refine mV ?_ ?_
       ·rintro b a w' ⟨fg,e8,e5,v1407,fZ,ha,eU,eV,fk,fl,fo,kY,Q_X22_⟩ gI d_ hoff;refine⟨_,rfl,fun K hK=> ?_⟩;have e23:a.tmps[23]? =some (.string iH):=(by rw[ha];exact mP (e:=(14,23,.string iH)) 9 rfl rfl (d_ 14 (by kernel_rfl)) rfl);replace ha:=A_ ha;have bm:=A_ eU;have HB:=A_ eV;have iv:=A_ (fk (d_ 8 (by kernel_rfl)));have kf:=A_ (fl (d_ 13 (by kernel_rfl)));refine value_ (w1:=w') (v:= .string ((⟨#[119,97,114,109,116,104,32]⟩:ByteArray)++iH)) (by rfl) rfl ?_ ?_
        ·go_simp
         (try simp only[eJ])
         try rfl
        refine hK.out _ _ ⟨fg,e8,e5,v1407,fZ,(by rw[ha.out];exact mQ 10 gI rfl rfl rfl),eU,eV,fk,fl,fo,fun bU=>absurd ((hoff 21 (by kernel_rfl)).symm.trans bU) (by decide),fun bU=>absurd ((hoff 22 (by kernel_rfl)).symm.trans bU) (by decide)⟩
       refine mV ?_ ?_
       ·rintro b a w' ⟨fg,e8,e5,v1407,fZ,ha,eU,eV,fk,fl,fo,kY,Q_X22_⟩ gI d_ hoff;refine⟨_,rfl,fun K hK=> ?_⟩;have e25:a.tmps[25]? =some (.pointer (some ⟨fX,4,none⟩)):=(by rw[ha];exact(yZ rfl).trans rfl);replace ha:=A_ ha;have bm:=A_ eU;have HB:=A_ eV;have hc0_:w'.cell? ⟨fX,0,none⟩=some (.slice aU ak.length c0_0):=cz bm 0;have L3:w'.cell? ⟨fX,1,none⟩=some (.int .i64 ax):=cz bm 1;have L4:w'.cell? ⟨fX,2,none⟩=some (.slice a6 aq.length aW):=cz bm 2;have L5:w'.cell? ⟨fX,3,none⟩=some (.int .i64 aN):=cz bm 3;have L6:w'.cell? ⟨fX,4,none⟩=some (.int .i64 a0_4):=cz bm 4;have L8:w'.cell? ⟨fX,5,none⟩=some (.slice cy aD.length cu):=cz bm 5;refine value_ (w1:=w') (v:= .int .i64 a0_4) (by rfl) rfl ?_ ?_
        ·go_simp
         (try simp only[eJ])
         try rfl
        refine hK.out _ _ ⟨fg,e8,e5,v1407,fZ,(by rw[ha.out];exact mQ 11 gI rfl rfl rfl),eU,eV,fk,fl,fun bU=>absurd ((hoff 18 (by kernel_rfl)).symm.trans bU) (by decide),fun bU=>absurd ((hoff 21 (by kernel_rfl)).symm.trans bU) (by decide),fun bU=>absurd ((hoff 22 (by kernel_rfl)).symm.trans bU) (by decide)⟩
       refine mV ?_ ?_
       ·rintro b a w' ⟨fg,e8,e5,v1407,fZ,ha,eU,eV,fk,fl,fo,kY,Q_X22_⟩ gI d_ hoff;refine⟨_,rfl,fun K hK=> ?_⟩;have e26:a.tmps[26]? =some (.int .i64 a0_4):=(by rw[ha];exact mP (e:=(17,26,.int .i64 a0_4)) 11 rfl rfl (d_ 17 (by kernel_rfl)) rfl);replace ha:=A_ ha;have bm:=A_ eU;have HB:=A_ eV;refine Kd.vK (Kd.int .i64) _ 3 ?hg (N:=27) ?hd (xs:=([a0_4]:List Int)) (inner:=[.int .i64 a0_4]) (ok:=fun _=>True) (cU:=fun _=>True) ?hr ?hp (fun _ hk=>hk) trivial (Below.refl _ _) (Nat.le_refl _) (by simp) ?_;(case hd=>rfl);(case hg=>rfl);(case hr=>first|(go_simp;done)|(go_simp;rfl));(case hp=>exact(bf.one (show Kd.M (Kd.int .i64) _ _ _ a0_4 [.int .i64 a0_4]from rfl) (bf.none _ _)));intro e5 l5 gh hb cT dx;clear cT dx
        (first|rw[←QP.out]at gh|(simp only[Int.reduceToNat]at gh;rw[←QP.out]at gh))
        have ah:=A_ (Kd.dr gh (bn (oB HB)));have ai:=A_ (bb bm hb);have ay:=A_ (bz (oB HB) hb);have Gv:=fun(bU:b 8=true)=>(show Kd.R (Kd.int .i64) 3 l5 w.heap.size (fun _=>True) fg w_ from by first|exact(Kd.iA (by(with_reducible repeat(first|apply Kd.bY|apply Kd.R_drewN|apply Kd.R_drew));exact(fk bU)) (Kd.fT gh) hb)|exact Kd.bN (Kd.iA (by(with_reducible repeat(first|apply Kd.bY|apply Kd.R_drewN|apply Kd.R_drew));exact(fk bU)) (Kd.fT gh) hb) (fun _ h_=>by first|trivial|exact h_|exact h_.1));have zE:=fun(bU:b 13=true)=>(show Kd.R (Kd.int .i64) 3 l5 w.heap.size (fun _=>True) e8 vn from by first|exact(Kd.iA (by(with_reducible repeat(first|apply Kd.bY|apply Kd.R_drewN|apply Kd.R_drew));exact(fl bU)) (Kd.fT gh) hb)|exact Kd.bN (Kd.iA (by(with_reducible repeat(first|apply Kd.bY|apply Kd.R_drewN|apply Kd.R_drew));exact(fl bU)) (Kd.fT gh) hb) (fun _ h_=>by first|trivial|exact h_|exact h_.1));clear bm;clear HB;have mz:=ah;have bm:=ai;have HB:=ay;clear ah ai ay;clear hb gh;refine hK.out _ _ ⟨fg,e8,e5,v1407,fZ,(by rw[ha.out];exact mQ 12 gI rfl rfl rfl),(oK bm),(oB HB),Gv,zE,fun _=>(oR mz),fun bU=>absurd ((hoff 21 (by kernel_rfl)).symm.trans bU) (by decide),fun bU=>absurd ((hoff 22 (by kernel_rfl)).symm.trans bU) (by decide)⟩
       refine mV ?_ ?_
       ·rintro b a w' ⟨fg,e8,e5,v1407,fZ,ha,eU,eV,fk,fl,fo,kY,Q_X22_⟩ gI d_ hoff;refine⟨_,rfl,fun K hK=> ?_⟩;have Sm:a.tmps[27]? =some (e5):=(by rw[ha];exact mP (e:=(18,27,e5)) 12 rfl rfl (d_ 18 (by kernel_rfl)) rfl);replace ha:=A_ ha;have bm:=A_ eU;have HB:=A_ eV;have iv:=A_ (fk (d_ 8 (by kernel_rfl)));have kf:=A_ (fl (d_ 13 (by kernel_rfl)));have mz:=A_ (fo (d_ 18 (by kernel_rfl)));obtain⟨Ao28,kG,AJ⟩:=Kd.dp mz.out
        (first|subst AJ|(injection AJ with mG rK mH;have rL:=mG.symm;have rM:=mH.symm;clear mG rK mH;subst rL;subst rM))
        refine gH Tryz.func33 (by kernel_rfl) rfl #[.slice Ao28 tL.length kG] (by rfl) rfl rfl (by first|(simp only[List.map_toArray,List.map_cons,List.map_nil,Act.eval,Array.getD_eq_getD_getElem?,Option.getD_some,Sm];done)|(simp only[List.map_toArray,List.map_cons,List.map_nil,Act.eval,Array.getD_eq_getD_getElem?,Option.getD_some,Sm];rfl)) ?_
        with_reducible refine(dQ.calls k _ _ tL ib _ ?bG ?bH BU.out ?sideT).mono ?_
        (case sideT=>exact⟨mY ht_.out (oB HB)⟩)
        (case bG=>repeat(first|exact(Kd.ct mz.out).2.2|(with_reducible refine Kd.gP ?_ _)|(with_reducible refine Kd.gX ?_ _)|(with_reducible refine Kd.gW ?_)))
        (case bH=>exact(Kd.ct mz.out).2.1)
        rintro e WR ⟨rfl,hb⟩;refine⟨_,rfl,?_⟩;have ah:=A_ (Kd.bh (oR iv) hb);have ai:=A_ (Kd.bh (oR kf) hb);have ay:=A_ (Kd.bh (oR mz) hb);have aG:=A_ (bb bm hb);have bD:=A_ (bz (oB HB) hb);clear iv;clear kf;clear mz;clear bm;clear HB;have iv:=ah;have kf:=ai;have mz:=ay;have bm:=aG;have HB:=bD;clear ah ai ay aG bD
        (try clear hb)
        (try clear hb2)
        (try clear hk)
        (try clear hi)
        refine hK.out _ _ ⟨fg,e8,.slice Ao28 tL.length kG,v1407,fZ,(by rw[ha.out];exact mQ 13 gI rfl rfl rfl),(oK bm),(oB HB),fun _=>(oR iv),fun _=>(oR kf),fun _=>(oR mz),fun bU=>absurd ((hoff 21 (by kernel_rfl)).symm.trans bU) (by decide),fun bU=>absurd ((hoff 22 (by kernel_rfl)).symm.trans bU) (by decide)⟩
       refine mV ?_ ?_
       ·rintro b a w' ⟨fg,e8,e5,v1407,fZ,ha,eU,eV,fk,fl,fo,kY,Q_X22_⟩ gI d_ hoff;refine⟨_,rfl,fun K hK=> ?_⟩;have e28:a.tmps[28]? =some (.string ib):=(by rw[ha];exact mP (e:=(19,28,.string ib)) 13 rfl rfl (d_ 19 (by kernel_rfl)) rfl);replace ha:=A_ ha;have bm:=A_ eU;have HB:=A_ eV;have iv:=A_ (fk (d_ 8 (by kernel_rfl)));have kf:=A_ (fl (d_ 13 (by kernel_rfl)));have mz:=A_ (fo (d_ 18 (by kernel_rfl)));refine value_ (w1:=w') (v:= .string ((⟨#[109,111,109,101,110,116,32]⟩:ByteArray)++ib)) (by rfl) rfl ?_ ?_
        ·go_simp
         (try simp only[eJ])
         try rfl
        refine hK.out _ _ ⟨fg,e8,e5,v1407,fZ,(by rw[ha.out];exact mQ 14 gI rfl rfl rfl),eU,eV,fk,fl,fo,fun bU=>absurd ((hoff 21 (by kernel_rfl)).symm.trans bU) (by decide),fun bU=>absurd ((hoff 22 (by kernel_rfl)).symm.trans bU) (by decide)⟩
       refine mV ?_ ?_
       ·rintro b a w' ⟨fg,e8,e5,v1407,fZ,ha,eU,eV,fk,fl,fo,kY,Q_X22_⟩ gI d_ hoff;refine⟨_,rfl,fun K hK=> ?_⟩;have e13:a.tmps[13]? =some (.string ((⟨#[112,105,116,99,104,101,115,32]⟩:ByteArray)++jR)):=(by rw[ha];exact mP (e:=(4,13,.string ((⟨#[112,105,116,99,104,101,115,32]⟩:ByteArray)++jR))) 2 rfl rfl (d_ 4 (by kernel_rfl)) rfl);have e19:a.tmps[19]? =some (.string ((⟨#[100,111,110,101,32]⟩:ByteArray)++t1397)):=(by rw[ha];exact mP (e:=(10,19,.string ((⟨#[100,111,110,101,32]⟩:ByteArray)++t1397))) 6 rfl rfl (d_ 10 (by kernel_rfl)) rfl);have e24:a.tmps[24]? =some (.string ((⟨#[119,97,114,109,116,104,32]⟩:ByteArray)++iH)):=(by rw[ha];exact mP (e:=(15,24,.string ((⟨#[119,97,114,109,116,104,32]⟩:ByteArray)++iH))) 10 rfl rfl (d_ 15 (by kernel_rfl)) rfl);have e29:a.tmps[29]? =some (.string ((⟨#[109,111,109,101,110,116,32]⟩:ByteArray)++ib)):=(by rw[ha];exact mP (e:=(20,29,.string ((⟨#[109,111,109,101,110,116,32]⟩:ByteArray)++ib))) 14 rfl rfl (d_ 20 (by kernel_rfl)) rfl);replace ha:=A_ ha;have bm:=A_ eU;have HB:=A_ eV;have iv:=A_ (fk (d_ 8 (by kernel_rfl)));have kf:=A_ (fl (d_ 13 (by kernel_rfl)));have mz:=A_ (fo (d_ 18 (by kernel_rfl)));refine Kd.vK Kd.string _ 9 ?hg (N:=30) ?hd (xs:=([(⟨#[112,105,116,99,104,101,115,32]⟩:ByteArray)++jR,(⟨#[100,111,110,101,32]⟩:ByteArray)++t1397,(⟨#[119,97,114,109,116,104,32]⟩:ByteArray)++iH,(⟨#[109,111,109,101,110,116,32]⟩:ByteArray)++ib]:List ByteArray)) (inner:=[.string ((⟨#[112,105,116,99,104,101,115,32]⟩:ByteArray)++jR),.string ((⟨#[100,111,110,101,32]⟩:ByteArray)++t1397),.string ((⟨#[119,97,114,109,116,104,32]⟩:ByteArray)++iH),.string ((⟨#[109,111,109,101,110,116,32]⟩:ByteArray)++ib)]) (ok:=fun _=>True) (cU:=fun _=>True) ?hr ?hp (fun _ hk=>hk) trivial (Below.refl _ _) (Nat.le_refl _) (by simp) ?_;(case hd=>rfl);(case hg=>rfl);(case hr=>first|(go_simp;done)|(go_simp;rfl));(case hp=>exact(bf.one (show Kd.M Kd.string _ _ _ ((⟨#[112,105,116,99,104,101,115,32]⟩:ByteArray)++jR) [.string ((⟨#[112,105,116,99,104,101,115,32]⟩:ByteArray)++jR)]from rfl) (bf.one (show Kd.M Kd.string _ _ _ ((⟨#[100,111,110,101,32]⟩:ByteArray)++t1397) [.string ((⟨#[100,111,110,101,32]⟩:ByteArray)++t1397)]from rfl) (bf.one (show Kd.M Kd.string _ _ _ ((⟨#[119,97,114,109,116,104,32]⟩:ByteArray)++iH) [.string ((⟨#[119,97,114,109,116,104,32]⟩:ByteArray)++iH)]from rfl) (bf.one (show Kd.M Kd.string _ _ _ ((⟨#[109,111,109,101,110,116,32]⟩:ByteArray)++ib) [.string ((⟨#[109,111,109,101,110,116,32]⟩:ByteArray)++ib)]from rfl) (bf.none _ _))))));intro v1407 F4 Dh hb cT dx;clear cT dx
        (first|rw[←QQ.out]at Dh|(simp only[Int.reduceToNat]at Dh;rw[←QQ.out]at Dh))
        have ah:=A_ (Kd.bh (oR iv) hb);have ai:=A_ (Kd.bh (oR kf) hb);have ay:=A_ (Kd.bh (oR mz) hb);have aG:=A_ (Kd.dr Dh (bn (oB HB)));have bD:=A_ (bb bm hb);have n5_:=A_ (bz (oB HB) hb);clear iv;clear kf;clear mz;clear bm;clear HB;have iv:=ah;have kf:=ai;have mz:=ay;have GK:=aG;have bm:=bD;have HB:=n5_;clear ah ai ay aG bD n5_;clear hb Dh;refine hK.out _ _ ⟨fg,e8,e5,v1407,fZ,(by rw[ha.out];exact mQ 15 gI rfl rfl rfl),(oK bm),(oB HB),fun _=>(oR iv),fun _=>(oR kf),fun _=>(oR mz),fun _=>(oR GK),fun bU=>absurd ((hoff 22 (by kernel_rfl)).symm.trans bU) (by decide)⟩
       refine mV ?_ ?_
       ·rintro b a w' ⟨fg,e8,e5,v1407,fZ,ha,eU,eV,fk,fl,fo,kY,Q_X22_⟩ gI d_ hoff;refine⟨_,rfl,fun K hK=> ?_⟩;have e30:a.tmps[30]? =some (v1407):=(by rw[ha];exact mP (e:=(21,30,v1407)) 15 rfl rfl (d_ 21 (by kernel_rfl)) rfl);replace ha:=A_ ha;have bm:=A_ eU;have HB:=A_ eV;have iv:=A_ (fk (d_ 8 (by kernel_rfl)));have kf:=A_ (fl (d_ 13 (by kernel_rfl)));have mz:=A_ (fo (d_ 18 (by kernel_rfl)));have GK:=A_ (kY (d_ 21 (by kernel_rfl)));refine value_ (w1:=w') (v:=v1407) (by rfl) rfl ?_ ?_
        ·go_simp
         (try simp only[eJ])
         try rfl
        refine hK.out _ _ ⟨fg,e8,e5,v1407,(v1407),(by rw[ha.out];exact mQ 16 gI rfl rfl rfl),eU,eV,fk,fl,fo,kY,fun _=>rfl⟩
       exact aiJ
      rintro b a WS hall ⟨fg,e8,e5,v1407,fZ,ha,eU,eV,fk,fl,fo,kY,Q_X22_⟩;clear bm HB;have S7:=hall 2 (by kernel_rfl);have S8:=hall 3 (by kernel_rfl);have S9:=hall 4 (by kernel_rfl);have S_:=hall 7 (by kernel_rfl);have LZ:=hall 8 (by kernel_rfl);have Ta:=hall 9 (by kernel_rfl);have S0:=hall 10 (by kernel_rfl);have S1:=hall 12 (by kernel_rfl);have LU:=hall 13 (by kernel_rfl);have hb14_:=hall 14 (by kernel_rfl);have S3:=hall 15 (by kernel_rfl);have S4:=hall 17 (by kernel_rfl);have LV:=hall 18 (by kernel_rfl);have S5:=hall 19 (by kernel_rfl);have S6:=hall 20 (by kernel_rfl);have LW:=hall 21 (by kernel_rfl);have LX:=hall 22 (by kernel_rfl);subst ha;obtain rfl:=Q_X22_ LX;simp only[k8,S7,S8,S9,S_,LZ,Ta,S0,S1,LU,hb14_,S3,S4,LV,S5,S6,LW,LX,if_true,Act.put,List.setIfInBounds_toArray,List.set_cons_zero,List.set_cons_succ];have bm:=A_ eU;clear eU;have HB:=A_ eV;clear eV;have iv:=A_ (fk LZ);clear fk;have kf:=A_ (fl LU);clear fl;have mz:=A_ (fo LV);clear fo;have GK:=A_ (kY LW);clear kY;clear hall S7 S8 S9 S_ LZ Ta S0 S1 LU hb14_ S3 S4 LV S5 S6 LW LX;have Tx:=cz bm 0;have Ty:=cz bm 1;have Tz:=cz bm 2;have adI:=cz bm 3;have adJ:=cz bm 4;have adK:=cz bm 5;have TX:=aJ bm.out 0;have TY:=aJ bm.out 1;have TZ:=aJ bm.out 2;have aen:=aJ bm.out 3;have aeo:=aJ bm.out 4;have aep:=aJ bm.out 5
      try go_wp2
      go_loopg [3,34] k (fun kq v3 v34 w'=>∃(bA:List ByteArray) (eD:Int),v34= .int .i64 eD∧aj (gK.l0 kq bA aD (aD.length:Int) eD=some r)∧aj (kq≤k)∧aj (Kd.R Kd.string 9 w' w.heap.size (fun _=>True) v3 bA)∧aj (w'.heap[fX]? =some (.cells #[(.slice aU ak.length c0_0),.int .i64 ax,(.slice a6 aq.length aW),.int .i64 aN,.int .i64 a0_4,(.slice cy aD.length cu)] 30 (0,0)))∧aj (Below w.heap.size w w'))
      case atStart=>exact⟨(Ph),(0),eS,H',⟨Nat.le_refl _⟩,⟨oR GK⟩,⟨oK bm⟩,⟨oB HB⟩⟩
      case round=>
       clear H'
       try clear c1
       try clear c2
       try clear p2
       try clear c3
       try clear c4
       try clear c5
       try clear ug
       try clear CL
       try clear abW
       try clear c7
       try clear AE
       try clear CM
       try clear abX
       try clear c9
       try clear mF
       try clear sS
       try clear abZ
       try clear c11
       try clear Hh
       try clear Hi
       try clear RP
       try clear c12
       try clear c28
       try clear C5
       try clear C6
       try clear C7
       try clear Tp
       try clear adx
       try clear ady
       try clear Tx
       try clear Ty
       try clear Tz
       try clear adI
       try clear adJ
       try clear adK
       try clear Db
       try clear Dc
       try clear Dd
       try clear TP
       try clear aec
       try clear aed
       try clear TX
       try clear TY
       try clear TZ
       try clear aen
       try clear aeo
       try clear aep
       obtain⟨bA,eD,rfl,HA,dh,bc,bm,HB⟩:=hrel;cases gk with
       |zero=>exact absurd HA.out (by simp[gK.l0])
       |succ k1=>
        have H:=HA.out;clear HA;simp only[gK.l0]at H;by_cases qo:eD<(aD.length:Int)
        ·rw[if_pos qo]at H;have RU:decide (eD<(aD.length:Int))=true:=decide_eq_true qo;clear qo;by_cases oH:0≤eD
         ·rw[if_pos oH]at H;have abM:decide (0≤eD)=true:=decide_eq_true oH;clear oH;by_cases uf:eD<(aD.length:Int)
          ·rw[if_pos uf]at H;have abN:decide (eD<(aD.length:Int))=true:=decide_eq_true uf;clear uf;obtain⟨Pj,D7⟩:∃y_:List Int,y_=(([(dn aD eD).f0.f0,(dn aD eD).f0.f1,(dn aD eD).f1,(dn aD eD).f2]:List Int)):=⟨_,rfl⟩;replace H:((dQ.f k1 Pj).bind fun wO=>(if bA.length<8796093022208 then(gK.l0 k1 (bA++[wO]) aD (aD.length:Int) (wrap64 (eD+1)))else(none)))=some r:=by first|(rw[D7];with_reducible exact H)|(have aI:=(Option.bind_some _ _).symm.trans H;rw[D7];with_reducible exact aI)|(have aI:=(Option.bind_some _ _).symm.trans H;with_reducible exact aI)|with_reducible exact H|(rw[D7];exact H)|exact H
           have QR:=A_ D7;clear D7;replace H:=Option.bind_eq_some_iff.mp H;obtain⟨wO,PJ,H⟩:=H
           (try dsimp only at H)
           have X0:=A_ PJ;clear PJ;by_cases c37:bA.length<8796093022208
           ·rw[if_pos c37]at H;have ZO:=A_ c37;clear c37;obtain⟨Xn,D8⟩:∃y_:List ByteArray,y_=(bA++[wO]):=⟨_,rfl⟩;replace H:(gK.l0 k1 Xn aD (aD.length:Int) (wrap64 (eD+1)))=some r:=by first|(rw[D8];with_reducible exact H)|(have aI:=(Option.bind_some _ _).symm.trans H;rw[D8];with_reducible exact aI)|(have aI:=(Option.bind_some _ _).symm.trans H;with_reducible exact aI)|with_reducible exact H|(rw[D8];exact H)|exact H
            have aac:=A_ D8;clear D8;have H':=A_ H;clear H;have M_:0≤(eD:Int):=oD;have Nt:eD<(aD.length:Int):=oD;obtain⟨aa_,acv,Un,Uo,Up,Uq⟩:=tV zW.out eD M_ Nt;cases acv;replace Un:=hW HB Un;replace Uo:=hW HB Uo;replace Up:=hW HB Up;replace Uq:=hW HB Uq;replace M_:=eq_true M_;replace Nt:=eq_true Nt
            go_wp2_with (first|((with_reducible refine gate_dst (N:=5) rfl ?_);refine bX (N:=5) (cs:= #[.int .i64 0,.int .i64 0,.int .i64 0,.int .i64 0]) (t:=64) ?_;intro xW hg WT cj hb;have ah:=A_ (Kd.bh (oR bc) hb);have ai:=A_ (bb bm hb);have ay:=A_ (bz (oB HB) hb);have aG:=A_ (cj);have bD:=A_ ((by rw[hg];exact(bn (oB HB)):w.heap.size≤xW));have n5_:=A_ ((by rw[hg];exact(bn (oB HB)):w.heap.size≤xW));have dm:=A_ (nL bm hg);have eh:=A_ (nG bm hg);clear bc;clear bm;clear HB;have bc:=ah;have bm:=ai;have HB:=ay;have lM:=aG;have alu:=bD;have alg:=n5_;have Ch:=dm;have Z1:=eh;clear ah ai ay aG bD n5_ dm eh;clear hb cj hg;have aql:=Z1.out;have aqr:=Ch.out;have anh:=cz lM 0;have ani:=cz lM 1;have anj:=cz lM 2;have ank:=cz lM 3;have ao0:=aJ lM.out 0;have ao1:=aJ lM.out 1;have ao2:=aJ lM.out 2;have ao3:=aJ lM.out 3)|((with_reducible refine gate_dst (N:=49) rfl ?_);refine Kd.iB (Kd.int .i64) _ 3 ?hg (N:=49) ?hd (xs:=([(dn aD eD).f0.f0,(dn aD eD).f0.f1,(dn aD eD).f1,(dn aD eD).f2]:List Int)) (inner:=[.int .i64 ((dn aD eD).f0.f0),.int .i64 ((dn aD eD).f0.f1),.int .i64 ((dn aD eD).f1),.int .i64 ((dn aD eD).f2)]) (ok:=fun _=>True) (cU:=fun _=>True) ?hr ?hp (fun _ hk=>hk) trivial (Below.refl _ _) (Nat.le_refl _) (by simp) ?_;(case hd=>rfl);(case hg=>rfl);(case hr=>first|(go_simp;done)|(go_simp;rfl));(case hp=>exact(bf.one (show Kd.M (Kd.int .i64) _ _ _ ((dn aD eD).f0.f0) [.int .i64 ((dn aD eD).f0.f0)]from rfl) (bf.one (show Kd.M (Kd.int .i64) _ _ _ ((dn aD eD).f0.f1) [.int .i64 ((dn aD eD).f0.f1)]from rfl) (bf.one (show Kd.M (Kd.int .i64) _ _ _ ((dn aD eD).f1) [.int .i64 ((dn aD eD).f1)]from rfl) (bf.one (show Kd.M (Kd.int .i64) _ _ _ ((dn aD eD).f2) [.int .i64 ((dn aD eD).f2)]from rfl) (bf.none _ _))))));intro arQ w41 ho42 hb cT dx;clear cT dx;(first|rw[←QR.out]at ho42|(simp only[Int.reduceToNat]at ho42;rw[←QR.out]at ho42));have ah:=A_ (Kd.bh (by(with_reducible repeat(first|apply Kd.bY|apply Kd.R_drewN|apply Kd.R_drew));exact(Kd.bN (Kd.aM (p:=⟨xW,3,none⟩) (Kd.aM (p:=⟨xW,2,none⟩) (Kd.aM (p:=⟨xW,1,none⟩) (Kd.aM (p:=⟨xW,0,none⟩) (Kd.fN bc.out lM.out (by decide)) (fun _ hk=>hk.2) (.int .i64 ((dn aD eD).f0.f0))) (fun _ hk=>hk.2) (.int .i64 ((dn aD eD).f0.f1))) (fun _ hk=>hk.2) (.int .i64 ((dn aD eD).f1))) (fun _ hk=>hk.2) (.int .i64 ((dn aD eD).f2))) (fun _ h_=>h_.1))) hb);have ai:=A_ (Kd.dr ho42 (bn (oB HB)));have ay:=A_ (oG (g:=fX) (o:= .cells #[.slice aU ak.length c0_0,.int .i64 ax,.slice a6 aq.length aW,.int .i64 aN,.int .i64 a0_4,.slice (some aa_) aD.length cu] 30 (0,0)) (by(with_reducible repeat(first|refine bP ?_ _|refine bF ?_|refine bC ?_ _));refine blk_far ?_ Ch.out _;(with_reducible repeat(first|refine bP ?_ _|refine bF ?_|refine bC ?_ _));refine blk_far ?_ Ch.out _;(with_reducible repeat(first|refine bP ?_ _|refine bF ?_|refine bC ?_ _));refine blk_far ?_ Ch.out _;(with_reducible repeat(first|refine bP ?_ _|refine bF ?_|refine bC ?_ _));refine blk_far ?_ Ch.out _;(with_reducible repeat(first|refine bP ?_ _|refine bF ?_|refine bC ?_ _));exact bm.out) hb);have aG:=A_ (oG (g:=xW) (o:= .cells #[.int .i64 ((dn aD eD).f0.f0),.int .i64 ((dn aD eD).f0.f1),.int .i64 ((dn aD eD).f1),.int .i64 ((dn aD eD).f2)] 64 (0,0)) (by(with_reducible repeat(first|refine bP ?_ _|refine bF ?_|refine bC ?_ _));refine di (cs:= #[.int .i64 ((dn aD eD).f0.f0),.int .i64 ((dn aD eD).f0.f1),.int .i64 ((dn aD eD).f1),.int .i64 0]) ?_ 3 _ rfl;(with_reducible repeat(first|refine bP ?_ _|refine bF ?_|refine bC ?_ _));refine di (cs:= #[.int .i64 ((dn aD eD).f0.f0),.int .i64 ((dn aD eD).f0.f1),.int .i64 0,.int .i64 0]) ?_ 2 _ rfl;(with_reducible repeat(first|refine bP ?_ _|refine bF ?_|refine bC ?_ _));refine di (cs:= #[.int .i64 ((dn aD eD).f0.f0),.int .i64 0,.int .i64 0,.int .i64 0]) ?_ 1 _ rfl;(with_reducible repeat(first|refine bP ?_ _|refine bF ?_|refine bC ?_ _));refine di (cs:= #[.int .i64 0,.int .i64 0,.int .i64 0,.int .i64 0]) ?_ 0 _ rfl;(with_reducible repeat(first|refine bP ?_ _|refine bF ?_|refine bC ?_ _));exact lM.out) hb);have bD:=A_ (bz (oB HB) hb);clear bc;clear bm;clear lM;clear HB;have bc:=ah;have tP:=ai;have bm:=ay;have lM:=aG;have HB:=bD;clear ah ai ay aG bD;clear hb ho42;obtain⟨PR,co43,LH⟩:=Kd.dp tP.out;subst LH)|((with_reducible refine bT (f:=33) rfl ?_);refine gL (some 50) Tryz.func33 #[.slice PR Pj.length co43] ?_;(with_reducible refine(dQ.calls k1 _ _ Pj wO _ ?bG ?bH X0.out ?sideT).mono ?_);(case sideT=>exact⟨mY ht_.out (oB HB)⟩);(case bG=>repeat(first|exact(Kd.ct tP.out).2.2|(with_reducible refine Kd.gP ?_ _)|(with_reducible refine Kd.gX ?_ _)|(with_reducible refine Kd.gW ?_)));(case bH=>exact(Kd.ct tP.out).2.1);rintro e w44 ⟨rfl,hb⟩;refine⟨_,rfl,?_⟩;have ah:=A_ (Kd.bh (oR bc) hb);have ai:=A_ (Kd.bh (oR tP) hb);have ay:=A_ (bb bm hb);have aG:=A_ (bb lM hb);have bD:=A_ (bz (oB HB) hb);clear bc;clear tP;clear bm;clear lM;clear HB;have bc:=ah;have tP:=ai;have bm:=ay;have lM:=aG;have HB:=bD;clear ah ai ay aG bD;(try clear hb);(try clear hb2);(try clear hk);(try clear hi))|((with_reducible refine jz (b:= .append) (xs:= #[.tmp 38,.tmp 51]) rfl ?_);at_builtin;refine Kd.R_append Kd.string (w0:=w) w.heap.size rfl (.tmp 38) (.tmp 51) 38 9 (.string ⟨#[]⟩) 16 rfl Tryz.underlying38 ym rfl (by decide) (by omega) u3 bA wO [.string wO] (fun _=>True) (fun _=>False) rfl rfl ?aP (fun _ hk=>hk.elim) ?aF ?aO ?aB ?aS ?aL ?_;(case aP=>exact rfl);(case aB=>exact(oB HB));(case aF=>exact(fun _ _=>trivial));(case aO=>exact(oR bc));(case aS=>exact(bn (oB HB)));(case aL=>have:=ZO.out;omega);intro arR w45 ho hb hg hat;rw[←aac.out]at ho;have ah:=A_ (bg bm hg (Kd.nr bc.out bm.out (by decide)));have ai:=A_ (bg lM hg (Kd.nr bc.out lM.out (by decide)));have ay:=A_ (Kd.iM (oR tP) (Kd.iN (oR bc)) (by decide) hg);have aG:=A_ (hb);have bD:=A_ (ho);clear bm;clear lM;clear tP;clear HB;clear bc;have bm:=ah;have lM:=ai;have tP:=ay;have HB:=aG;have Y7:=bD;clear ah ai ay aG bD;clear ho hb hg hat))
            go_roundg k1
            case measure=>have:=dh.out;omega
            case rel=>exact⟨(Xn),(wrap64 (eD+1)),eS,H',⟨by have:=dh.out;omega⟩,⟨oR Y7⟩,⟨oK bm⟩,⟨oB HB⟩⟩
           ·rw[if_neg c37]at H;exact absurd H (by simp)
          ·rw[if_neg uf]at H;exact absurd H (by simp)
         ·rw[if_neg oH]at H;exact absurd H (by simp)
        ·rw[if_neg qo]at H;have RU:decide (eD<(aD.length:Int))=false:=decide_eq_false qo;clear qo;obtain rfl:=Option.some.inj H;go_wp2;go_ret;exact⟨_,eR,oR bc,oB HB⟩
     ·rw[if_neg c11]at H;exact absurd H (by simp)
    ·rw[if_neg c9]at H;exact absurd H (by simp)
   ·rw[if_neg c7]at H;exact absurd H (by simp)
  ·rw[if_neg c5]at H;exact absurd H (by simp)
 ·replace c3:=Bool.eq_false_iff.mpr c3;subst c3;rw[if_neg (show¬(false=true)by decide)]at H;obtain rfl:=Option.some.inj H;go_enter Tryz.func12,Tryz.ntmps12
  go_wp2_with (first|((with_reducible refine gate_dst (N:=1) rfl ?_);refine bX (N:=1) (cs:= #[.slice aU ak.length c0_0,.int .i64 ax,.slice a6 aq.length aW,.int .i64 aN,.int .i64 a0_4,.slice cy aD.length cu]) (t:=30) ?_;intro fX hg w46 cj hb;have ah:=A_ (bz (oB HB) hb);have ai:=A_ (cj);have ay:=A_ ((by rw[hg];exact(bn (oB HB)):w.heap.size≤fX));have aG:=A_ ((by rw[hg];exact(bn (oB HB)):w.heap.size≤fX));clear HB;have HB:=ah;have bm:=ai;have YI:=ay;have YA:=aG;clear ah ai ay aG;clear hb cj hg;have anK:=cz bm 0;have anL:=cz bm 1;have anM:=cz bm 2;have anN:=cz bm 3;have anO:=cz bm 4;have anP:=cz bm 5;have apr:=aJ bm.out 0;have aps:=aJ bm.out 1;have apt:=aJ bm.out 2;have apu:=aJ bm.out 3;have apv:=aJ bm.out 4;have apw:=aJ bm.out 5)|((with_reducible refine bT (f:=28) rfl ?_);refine gL (some 7) Tryz.func28 #[.agg #[.slice aU ak.length c0_0,.int .i64 ax,.slice a6 aq.length aW,.int .i64 aN,.int .i64 a0_4,.slice cy aD.length cu]] ?_;(with_reducible refine(impl_ShopOk.calls k _ _ ak ax _ _ aq aN a0_4 _ _ aD false _ ?bG ?bH ?iF ?iG ?mS ?oo A2.out).mono ?_);(case bG=>exact eM ix.out);(case bH=>exact iK.out);(case iF=>exact eM iY.out);(case iG=>exact nM.out);(case mS=>exact eM zW.out);(case oo=>exact HC0_5.out);rintro e w48 ⟨rfl,hb⟩;refine⟨_,rfl,?_⟩;have ah:=A_ (bb bm hb);have ai:=A_ (bz (oB HB) hb);clear bm;clear HB;have bm:=ah;have HB:=ai;clear ah ai;(try clear hb);(try clear hb2);(try clear hk);(try clear hi)))
  go_ret;exact⟨_,eR,by first|exact Kd.bM _ _ _ _ _|exact Kd.p_ _ _ _ _ _|exact Kd.qf _ _ _ _ _|exact Kd.Q_nil _ _ _ _ _|exact Kd.S_nil _ _ _ _ _,oB HB⟩
end Go.Proofs.YtnjfiaekdcekgaaGreatDoor.P
namespace Go.Proofs.YtnjfiaekdcekgaaGreatDoor.Q
open Go.RowKit Go.Proofs.YtnjfiaekdcekgaaGreatDoor.P Go.Proofs.YtnjfiaekdcekgaaGreatDoorW.bS Go.Proofs.YtnjfiaekdcekgaaGreatDoorW.dX
theorem afq (a:Int):lz.f a=some (decide (-10≤a∧a≤40)):=by unfold lz.f;rw[oZ];rfl
theorem tu (p:List ar) (d:Int) (q:List Int) (a m:Int) (l:List S64) (hl:l.length≤1048577):Ev (fun k=>impl_ShopOk.f k p d q a m l) (iT p d q a m l):=Ev.now _
theorem Fk (p:List ar) (d:Int) (q:List Int) (a m:Int) (l:List S64) (hl:l.length≤1048577):Ev (fun k=>cm.f k p d q a m l) (iT p d q a m l):=Ev.bind (F7 p d q) (Ev.now _)
def ky (p:List ar) (d:Int) (q:List Int) (a m:Int) (l:List S64) (x:Int):List ar×Int×List Int×Int×Int×List S64×Bool:=
  if iT p d q a m l=true∧m≠100000∧(-10≤x∧x≤40)then(p,d,q,x,m+1,l,true)else(p,d,q,a,m,l,false)
theorem UW {l:List S64} {m n:Int} (h:qE l m) (hm:m≤n):qE l n:=by
  rcases h with h|h
  · exact .inl h
  · exact .inr (by omega)
theorem aiN (p:List ar) (d:Int) (q:List Int) (a m:Int) (l:List S64) (x:Int) (hp:p.length≤4000000) (hq:q.length≤4000000) (hl:l.length≤1048576):Ev (fun k=>yl.f k p d q a m l x) (ky p d q a m l x):=by
  unfold yl.f ky;refine bR (vX p d q a m l hp hq (by omega)) (Ev.bind (tu p d q a m l (by omega)) ?_);by_cases h:iT p d q a m l=true;rotate_left
  · exact cq (fun h2=>h h2.1)<|aT h (bR (vX p d q a m l hp hq (by omega)) (Ev.now _))
  obtain⟨h1,h2,h3,h4,h5⟩:=tr.1 h;rw[eH (n:=m+1) (by omega) (by omega)];refine evp h (Ev.bind (tu p d q x (m+1) l (by omega)) ?_);by_cases h6:m≠100000∧(-10≤x∧x≤40)
  · exact df ⟨h,h6⟩<|evp (tr.2 ⟨h1,h2,h6.2,by omega,UW h5 (by omega)⟩) (Ev.now _)
  · refine cq (fun h7=>h6 h7.2)<|aT (fun h7=> ?_) (bR (vX p d q a m l hp hq (by omega)) (Ev.now _));obtain⟨g1,g2,g3,g4,g5⟩:=tr.1 h7;exact h6 ⟨by omega,g3⟩
theorem aiO (p:List ar) (d:Int) (q:List Int) (a m:Int) (l:List S64) (x:Int) (hp:p.length≤4000000) (hq:q.length≤4000000) (hl:l.length≤1048576):Ev (fun k=>wM.f k p d q a m l x) (ky p d q a m l x):=by
  unfold wM.f ky;refine bR (yB p d q a m l hp hq (by omega)) (Ev.bind (Fk p d q a m l (by omega)) ?_);by_cases h:iT p d q a m l=true;rotate_left
  · exact cq (fun h2=>h h2.1)<|aT h (bR (yB p d q a m l hp hq (by omega)) (Ev.now _))
  obtain⟨h1,h2,h3,h4,h5⟩:=tr.1 h;refine evp h ?_;by_cases h8:m=100000
  · exact cq (fun h7=>h7.2.1 h8)<|evp h8 (bR (yB p d q a m l hp hq (by omega)) (Ev.now _))
  refine aT h8 (Ev.bind (Fk p d q x m l (by omega)) ?_);by_cases h6: -10≤x∧x≤40
  · rw[eH (n:=m+1) (by omega) (by omega)];exact df ⟨h,h8,h6⟩<|evp (tr.2 ⟨h1,h2,h6,h4,h5⟩) (Ev.now _)
  · refine cq (fun h7=>h6 h7.2.2)<|aT (fun h7=> ?_) (bR (yB p d q a m l hp hq (by omega)) (Ev.now _));exact h6 (tr.1 h7).2.2.1
theorem aih (p:List ar) (d:Int) (q:List Int) (a m:Int) (l:List S64) (x:Int):(ky p d q a m l x).1=p∧(ky p d q a m l x).2.2.1=q∧(ky p d q a m l x).2.2.2.2.2.1=l:=by
  unfold ky;split<;>exact⟨rfl,rfl,rfl⟩
def kr (p:List ar) (d:Int) (q:List Int) (a m:Int) (l:List S64) (r n f:Int):List ar×Int×List Int×Int×Int×List S64×Bool:=
  if iT p d q a m l=true∧(addEntry l r n f m).2=true then(p,d,q,a,m,(addEntry l r n f m).1,true)else(p,d,q,a,m,l,false)
theorem aib (p:List ar) (d:Int) (q:List Int) (a m:Int) (l:List S64) (r n f:Int) (hp:p.length≤4000000) (hq:q.length≤4000000) (hl:l.length≤1048576):Ev (fun k=>yh.f k p d q a m l r n f) (kr p d q a m l r n f):=by
  unfold yh.f kr;refine bR (vX p d q a m l hp hq (by omega)) (Ev.bind (tu p d q a m l (by omega)) ?_);by_cases h:iT p d q a m l=true;rotate_left
  · exact cq (fun h2=>h h2.1)<|aT h (Ev.now _)
  refine evp h (Ev.bind (Rx l r n f m hl) ?_);by_cases h2:(addEntry l r n f m).2=true
  · exact df ⟨h,h2⟩<|evp h2 (Ev.now _)
  · exact cq (fun h3=>h2 h3.2)<|aT h2 (Ev.now _)
theorem aic (p:List ar) (d:Int) (q:List Int) (a m:Int) (l:List S64) (r n f:Int) (hp:p.length≤4000000) (hq:q.length≤4000000) (hl:l.length≤1048576):Ev (fun k=>wJ.f k p d q a m l r n f) (kr p d q a m l r n f):=by
  unfold wJ.f kr;refine bR (yB p d q a m l hp hq (by omega)) (Ev.bind (abk l r n f m hl) (Ev.bind (Fk p d q a m l (by omega)) ?_));by_cases h:iT p d q a m l=true;rotate_left
  · exact cq (fun h2=>h h2.1)<|aT h (Ev.now _)
  refine evp h ?_;by_cases h2:(addEntry l r n f m).2=true
  · exact df ⟨h,h2⟩<|evp h2 (Ev.now _)
  · exact cq (fun h3=>h2 h3.2)<|aT h2 (Ev.now _)
theorem aid (p:List ar) (d:Int) (q:List Int) (a m:Int) (l:List S64) (r n f:Int):(kr p d q a m l r n f).1=p∧(kr p d q a m l r n f).2.2.1=q∧(kr p d q a m l r n f).2.2.2.2.2.1.length≤l.length+1:=by
  unfold kr;split
  · exact⟨rfl,rfl,Rw l r n f m⟩
  · exact⟨rfl,rfl,Nat.le_succ _⟩
def ku (p:List ar) (d:Int) (q:List Int) (a m:Int) (l:List S64) (c x:Int):List ar×Int×List Int×Int×Int×List S64×Bool:=
  if iT p d q a m l=true then((lC p d q c x).1,(lC p d q c x).2.1,(lC p d q c x).2.2.1,a,m,l,(lC p d q c x).2.2.2)else(p,d,q,a,m,l,false)
theorem ail (p:List ar) (d:Int) (q:List Int) (a m:Int) (l:List S64) (c x:Int) (hp:p.length≤4000000) (hq:q.length≤4000000) (hl:l.length≤1048576):Ev (fun k=>yi.f k p d q a m l c x) (ku p d q a m l c x):=by
  unfold yi.f ku;refine bR (vX p d q a m l hp hq (by omega)) (Ev.bind (tu p d q a m l (by omega)) ?_);by_cases h:iT p d q a m l=true
  · exact df h<|evp h (Ev.bind (afU p d q c x hp hq) (Ev.now _))
  · exact cq h<|aT h (Ev.now _)
theorem aim (p:List ar) (d:Int) (q:List Int) (a m:Int) (l:List S64) (c x:Int) (hp:p.length≤4000000) (hq:q.length≤4000000) (hl:l.length≤1048576):Ev (fun k=>wK.f k p d q a m l c x) (ku p d q a m l c x):=by
  unfold wK.f ku;refine bR (yB p d q a m l hp hq (by omega)) (Ev.bind (Fk p d q a m l (by omega)) ?_);by_cases h:iT p d q a m l=true
  · exact df h<|evp h (Ev.bind (afV p d q c x hp hq) (Ev.now _))
  · exact cq h<|aT h (Ev.now _)
theorem aie (p:List ar) (d:Int) (q:List Int) (a m:Int) (l:List S64) (c x:Int):(ku p d q a m l c x).1=p∧(ku p d q a m l c x).2.2.1.length=q.length∧(ku p d q a m l c x).2.2.2.2.2.1=l:=by
  unfold ku;split
  · exact⟨(UR p d q c x).1,(UR p d q c x).2,rfl⟩
  · exact⟨rfl,rfl,rfl⟩
theorem agh (p:List ar) (d:Int) (q:List Int) (h:¬(mj p d q).2.2.2=true):mj p d q=(p,d,q,false):=by
  unfold mj at h ⊢
  split
  · rfl
  · split
    · rfl
    · rename_i h2 h3;rw[h2]at h;simp only[if_neg h3]at h;exact absurd trivial h
theorem akt (p:List ar) (d:Int) (q:List Int) (h:¬(l6 p d q).2.2.2=true):l6 p d q=(p,d,q,false):=by
  unfold l6 at h ⊢
  split
  · rename_i h1
    rw[if_pos h1]at h
    split
    · rfl
    · rename_i h2
      rw[if_neg h2]at h
      split
      · rfl
      · rename_i h3;rw[if_neg h3]at h;exact absurd rfl h
  · rfl
def pS (p:List ar) (d:Int) (q:List Int):List ar×Int×List Int×Bool:=if(((ov p d q).length:Nat):Int)>0 then mj p d q else l6 p d q
def kv (p:List ar) (d:Int) (q:List Int) (a m:Int) (l:List S64):List ar×Int×List Int×Int×Int×List S64×Bool:=
  if iT p d q a m l=true then((pS p d q).1,(pS p d q).2.1,(pS p d q).2.2.1,a,m,l,(pS p d q).2.2.2)else(p,d,q,a,m,l,false)
theorem aiK (p:List ar) (d:Int) (q:List Int) (a m:Int) (l:List S64) (hp:p.length≤4000000) (hq:q.length≤4000000) (hl:l.length≤1048576):Ev (fun k=>yj.f k p d q a m l) (kv p d q a m l):=by
  unfold yj.f kv pS;refine bR (vX p d q a m l hp hq (by omega)) (Ev.bind (tu p d q a m l (by omega)) ?_);by_cases h:iT p d q a m l=true;rotate_left
  · exact cq h<|aT h (Ev.now _)
  refine df h<|evp h (Ev.bind (aiH p d q hp hq) (Ev.bind (OL p d q) ?_));by_cases h2:(((ov p d q).length:Nat):Int)>0
  · simp only[if_pos h2];refine Ev.bind (agk p d q hp hq) ?_;by_cases h3:(mj p d q).2.2.2=true
    · exact evp h3 (evs (by rw[h3]))
    · exact aT h3 (evs (by rw[agh p d q h3]))
  · simp only[if_neg h2];by_cases h3:(l6 p d q).2.2.2=true
    · exact evp h3 (evs (by rw[h3]))
    · exact aT h3 (evs (by rw[akt p d q h3]))
theorem aiL (p:List ar) (d:Int) (q:List Int) (a m:Int) (l:List S64) (hp:p.length≤4000000) (hq:q.length≤4000000) (hl:l.length≤1048576):Ev (fun k=>wL.f k p d q a m l) (kv p d q a m l):=by
  unfold wL.f kv pS;refine bR (yB p d q a m l hp hq (by omega)) (Ev.bind (Fk p d q a m l (by omega)) ?_);by_cases h:iT p d q a m l=true;rotate_left
  · exact cq h<|aT h (Ev.now _)
  refine df h<|evp h (Ev.bind (WX p d q) ?_);by_cases h2:(((ov p d q).length:Nat):Int)>0
  · simp only[if_pos h2];exact Ev.bind (agl p d q hp hq) (Ev.now _)
  · simp only[if_neg h2];exact Ev.bind (aiI p d q hp hq) (Ev.now _)
theorem aif (p:List ar) (d:Int) (q:List Int) (a m:Int) (l:List S64):(kv p d q a m l).1=p∧(kv p d q a m l).2.2.1.length=q.length∧(kv p d q a m l).2.2.2.2.2.1=l:=by
  unfold kv pS;split
  · split
    · exact⟨(U7 p d q).1,(U7 p d q).2.2,rfl⟩
    · exact⟨(WU p d q).1,(WU p d q).2,rfl⟩
  · exact⟨rfl,rfl,rfl⟩
def I' (p:List ar) (d:Int) (q:List Int) (a m:Int) (l:List S64):Int:=
  if iT p d q a m l=true then wrap64 ((wrap64 ((p.length:Int)-d))+((ov p d q).length:Int))else 0
theorem afZ (p:List ar) (d:Int) (q:List Int) (a m:Int) (l:List S64) (hl:l.length≤1048577):Ev (fun k=>oa.f k p d q a m l) (I' p d q a m l):=by
  unfold oa.f I';refine Ev.bind (tu p d q a m l hl) ?_;by_cases h:iT p d q a m l=true
  · exact df h<|evp h (Ev.bind (OL p d q) (Ev.now _))
  · exact cq h<|aT h (Ev.now _)
def BL (p t:Int):Int:=if fine p=true then(if-10≤t∧t≤40 then wrap64 (Int.tdiv (wrap64 (p*(wrap64 (1000+(wrap64 (2*(wrap64 (t-15)))))))) 1000)else 0)else 0
theorem ako (p t:Int):AX.f p t=some (BL p t):=by
  unfold AX.f BL;rw[wj,afq];cases fine p<;>by_cases h: -10≤t∧t≤40<;>simp[h]
theorem akp (t:Int):BL 0 t=0:=by
  have:fine 0=false:=by decide
  unfold BL;rw[this];rfl
def vZ (p:List ar) (d:Int) (q:List Int) (a m:Int) (l:List S64) (c:Int):Int:=
  if iT p d q a m l=true then(if 0≤c∧c≤11 then(if AK l ⟨0,c⟩=1 then 0 else BL (rd q c) a)else 0)else 0
theorem ad5 (p:List ar) (d:Int) (q:List Int) (a m:Int) (l:List S64) (c:Int) (hl:l.length≤1048577):Ev (fun k=>nv.f k p d q a m l c) (vZ p d q a m l c):=by
  unfold nv.f;refine Ev.bind (tu p d q a m l hl) ?_;by_cases h0:iT p d q a m l=true;rotate_left
  · exact aT h0 (evs (by simp[vZ,h0]))
  refine evp h0 (bR (oZ _ _ _) ?_);obtain⟨hw,hlo,_⟩:=tr.mp h0
  have hq:q.length=12:=by
    unfold eX at hw;simp only[Bool.and_eq_true,decide_eq_true_eq]at hw;exact hw.2.2.1
  by_cases hc:0≤c∧c≤11;rotate_left
  · exact aT (by simpa using hc) (evs (by simp[vZ,hc]))
  refine evp (by simpa using hc) (evp hc.1 (evp (by omega) ?_));by_cases hz:rd q c=0
  · exact evp hz (evs (by simp[vZ,hz,akp]))
  refine aT hz ?_
  have F:ye.f l 0 c=some (AK l ⟨0,c⟩):=by
    unfold ye.f;rw[if_pos ⟨BM (by omega) (by omega),BM (by omega) (by omega),hl⟩,if_pos hlo]
  refine bR F ?_;by_cases hf:AK l ⟨0,c⟩=1
  · exact evp hf (evs (by simp[vZ,hf]))
  exact aT hf (bR (ako _ _) (evs (by simp[vZ,h0,hc,hf])))
def eQ (n:Int):Prop:= -9223372036854775808≤n∧n≤9223372036854775807
theorem af3 (x:Int):line [x]=num x:=by rw[MP];simp[lI]
def Lx (e:S64):ByteArray:=txt (line [e.f0.f0,e.f0.f1,e.f1,e.f2])
def wh (e:S64):Prop:=eQ e.f0.f0∧eQ e.f0.f1∧eQ e.f1∧eQ e.f2
def headText (d:Int) (q:List Int) (a m:Int):List ByteArray:=[txt ([112,105,116,99,104,101,115,32]++line q),txt ([100,111,110,101,32]++num d),txt ([119,97,114,109,116,104,32]++num a),txt ([109,111,109,101,110,116,32]++num m)]
def Bo (p:List ar) (d:Int) (q:List Int) (a m:Int) (l:List S64):List ByteArray:=if iT p d q a m l=true then headText d q a m++l.map Lx else[]
theorem acJ {e:S64} (h:wh e):∀n∈[e.f0.f0,e.f0.f1,e.f1,e.f2],eQ n:=by
  obtain⟨h1,h2,h3,h4⟩:=h;intro n hn;simp at hn;rcases hn with rfl|rfl|rfl|rfl<;>assumption
theorem ahD (l:List S64) (i:Nat) (h:i<l.length):dn l (i:Int)=l[i]:=by
  unfold dn;simp[List.getD_eq_getElem?_getD,h]
theorem SB (p:List ar) (d:Int) (q:List Int) (a m:Int) (l:List S64) (hd:eQ d) (hq:∀n∈q,eQ n) (ha:eQ a) (hm:eQ m) (hl:∀e∈l,wh e) (lq:q.length≤1048576) (ll:l.length≤1048576):
    Ev (fun k=>gK.f k p d q a m l) (Bo p d q a m l):=by
  have key:∀i,i≤l.length→Ev (fun k=>gK.l0 k (headText d q a m++(l.take i).map Lx) l (l.length:Int) (i:Int)) (headText d q a m++l.map Lx):=by
    refine down (n:=l.length) ?_ ?_
    · exact Ev.step (fun k=>by rw[gK.l0]) (aT (by omega) (evs (by rw[List.take_length])))
    · intro i hi ih;refine Ev.step (fun k=>by rw[gK.l0]) (evp (by omega) (evp (by omega) (evp (by omega) ?_)));rw[ahD l i hi,eH (by omega) (by omega)];refine Ev.bind (Jn _ (acJ (hl l[i] (List.getElem_mem hi))) (by simp)) (evp (by simp[headText];omega) ?_);rw[List.take_succ_eq_append_getElem hi,List.map_append,←List.append_assoc]at ih;exact ih
  have one:∀x,eQ x→Ev (fun k=>dQ.f k [x]) (txt (num x)):=fun x hx=>by
    have:=Jn [x] (by intro n hn;simp at hn;subst hn;exact hx) (by simp)
    rwa [af3]at this
  unfold gK.f Bo;refine Ev.bind (tu p d q a m l (by omega)) ?_;by_cases hok:iT p d q a m l=true
  · rw[if_pos hok];have h1:=MQ q hq;have h2:=E6 d hd.1 hd.2;have h3:=E6 a ha.1 ha.2;have h4:=E6 m hm.1 hm.2;refine evp hok (Ev.bind (Jn q hq lq) (evp (by rw[u7];omega) (Ev.bind (one _ hd) (evp (by rw[u7];omega) (Ev.bind (one _ ha) (evp (by rw[u7];omega) (Ev.bind (one _ hm) (evp (by rw[u7];omega) ?_))))))));exact key 0 (Nat.zero_le _)
  · rw[if_neg hok];exact aT hok (Ev.now _)
structure jI (p:List ar) (d:Int) (q:List Int) (a m:Int) (l:List S64) (c:Nat):Prop where
  plan:gPlan p
  work:∃n:Nat,d=(n:Int)∧n≤p.length∧eX p (n:Int) q=true
  lo:200000-1000*(c:Int)≤q.getD 0 0
  hi:q.getD 0 0≤299999+1000*(c:Int)
  log:gA l=true
  last:qE l m
  BK: -10≤a∧a≤40
  yD:0≤m∧m≤(c:Int)
  few:l.length≤c
section
variable {p:List ar} {d:Int} {q:List Int} {a m:Int} {l:List S64} {c:Nat}
theorem jI.ok (h:jI p d q a m l c) (hc:c≤45):iT p d q a m l=true:=by
  obtain⟨n,rfl,hn,hw⟩:=h.work;have:=h.yD;exact tr.2 ⟨hw,h.log,h.BK,by omega,h.last⟩
theorem jI.len (h:jI p d q a m l c):q.length=12:=by
  obtain⟨n,rfl,hn,hw⟩:=h.work;exact((BO h.plan n hn q).1 hw).1
theorem af9 {l:List S64} (h:gA l=true):l.length≤30:=by
  unfold gA at h;simp only[Bool.and_eq_true,decide_eq_true_eq]at h;exact h.2
theorem jI.step (h:jI p d q a m l c):jI p d q a m l (c+1):=
  ⟨h.plan,h.work,by have:=h.lo;omega,by have:=h.hi;omega,h.log,h.last,h.BK,by have:=h.yD;omega,by have:=h.few;omega⟩
theorem jI.akq (h:jI p d q a m l c) (x:Int):
    jI (ky p d q a m l x).1 (ky p d q a m l x).2.1 (ky p d q a m l x).2.2.1 (ky p d q a m l x).2.2.2.1 (ky p d q a m l x).2.2.2.2.1 (ky p d q a m l x).2.2.2.2.2.1 (c+1):=by
  unfold ky
  split
  · rename_i hc
    have:=h.yD;exact⟨h.plan,h.work,by have:=h.lo;dsimp only;omega,by have:=h.hi;dsimp only;omega,h.log,UW h.last (by dsimp only;omega),hc.2.2,by dsimp only;omega,by have:=h.few;dsimp only;omega⟩
  · exact h.step
theorem jI.ac3 (h:jI p d q a m l c) (r n f:Int):
    jI (kr p d q a m l r n f).1 (kr p d q a m l r n f).2.1 (kr p d q a m l r n f).2.2.1 (kr p d q a m l r n f).2.2.2.1 (kr p d q a m l r n f).2.2.2.2.1 (kr p d q a m l r n f).2.2.2.2.2.1 (c+1):=by
  unfold kr
  split
  · rename_i hc
    refine⟨h.plan,h.work,by have:=h.lo;dsimp only;omega,by have:=h.hi;dsimp only;omega,?_,?_,h.BK,by have:=h.yD;dsimp only;omega,by have:=h.few;dsimp only;unfold addEntry;split<;>simp<;>omega⟩
    · have h2:=hc.2;unfold addEntry at h2 ⊢
      split
      · rename_i h3;exact h3.2
      · rename_i h3;rw[if_neg h3]at h2;cases h2
    · have h2:=hc.2;unfold addEntry at h2 ⊢
      split
      · exact .inr (by simp[List.getD_eq_getElem?_getD,CR])
      · rename_i h3;rw[if_neg h3]at h2;cases h2
  · exact h.step
theorem jI.s7 (h:jI p d q a m l c) (k x:Int) (hx: -1000≤x∧x≤1000):
    jI (ku p d q a m l k x).1 (ku p d q a m l k x).2.1 (ku p d q a m l k x).2.2.1 (ku p d q a m l k x).2.2.2.1 (ku p d q a m l k x).2.2.2.2.1 (ku p d q a m l k x).2.2.2.2.2.1 (c+1):=by
  obtain⟨n,rfl,hn,hw⟩:=h.work;obtain⟨k1,k2,k3,k4,k5⟩:=afT h.plan hn hw k x hx;unfold ku
  split
  · refine⟨by rw[k1];exact h.plan,⟨n,k2,by rw[k1];exact hn,by rw[k1];exact k3⟩,by have:=h.lo;dsimp only;omega,by have:=h.hi;dsimp only;omega,h.log,h.last,h.BK,by have:=h.yD;dsimp only;omega,by have:=h.few;dsimp only;omega⟩
  · exact h.step
theorem abo (g:gPlan p) (q:List Int):∀i:Nat,i≤p.length→(∃j,j<i∧oW p q j∧oc p q j=true)∨oW p q i:=by
  intro i
  induction i with
  |zero=>exact fun _=> .inr (ahP p q)
  |succ i ih=>
   intro hi;rcases ih (by omega)with ⟨j,h1,h2,h3⟩|h
   · exact .inl ⟨j,by omega,h2,h3⟩
   · by_cases hb:oc p q i=true
     · exact .inl ⟨i,by omega,h,hb⟩
     · exact .inr (ahO g (by omega) h hb)
theorem ajW (g:gPlan p) {n:Nat} (hn:n≤p.length) (hw:eX p (n:Int) q=true) (hs:155000≤q.getD 0 0∧q.getD 0 0≤345000):
    (pS p (n:Int) q).1=p∧(∃n':Nat,(pS p (n:Int) q).2.1=(n':Int)∧n'≤p.length∧eX p (n':Int) (pS p (n:Int) q).2.2.1=true)∧(pS p (n:Int) q).2.2.1.getD 0 0=q.getD 0 0:=by
  unfold pS;rcases abo g q n hn with ⟨j,h1,h2,h3⟩|h
  · obtain⟨e,he⟩:∃e,n=j+(e+1):=⟨n-j-1,by omega⟩;obtain⟨r,hr⟩:=WY g (by omega:j+(e+1)≤p.length) h2 h3;have hm:=agi g hn he hw hs h2 h3;obtain⟨m1,m2,m3⟩:=mended g hn h1 hw hs h2;rw[OJ hw,if_pos (by rw[he,hr];simp only[List.length_cons];omega),hm];exact⟨rfl,⟨n,rfl,hn,m1⟩,m2⟩
  · rw[OJ hw,akD g hn h,if_neg (by simp)];have hq:=ahQ g hn hw h;have e0:∀k,(ik p (q.getD 0 0) k).getD 0 0=q.getD 0 0:=fun k=>by rw[qF _ _ _ _ (by omega),if_pos (Nat.zero_le _)];rfl
    by_cases hlt:n<p.length
    · have:=aku g hs hlt;rw[←hq]at this;rw[this];exact⟨rfl,⟨n+1,rfl,hlt,Jp g hs (n+1) hlt⟩,e0 _⟩
    · obtain rfl:n=p.length:=(by omega);have:=aks g hs;rw[←hq]at this;rw[this];exact⟨rfl,⟨p.length,rfl,Nat.le_refl _,hw⟩,rfl⟩
theorem jI.ajX (h:jI p d q a m l c) (hc:c≤45):
    jI (kv p d q a m l).1 (kv p d q a m l).2.1 (kv p d q a m l).2.2.1 (kv p d q a m l).2.2.2.1 (kv p d q a m l).2.2.2.2.1 (kv p d q a m l).2.2.2.2.2.1 (c+1):=by
  obtain⟨n,rfl,hn,hw⟩:=h.work;have h1:=h.lo;have h2:=h.hi;obtain⟨t1,⟨n',t2,t3,t4⟩,t5⟩:=ajW h.plan hn hw ⟨by omega,by omega⟩;unfold kv
  split
  · exact⟨by rw[t1];exact h.plan,⟨n',t2,by rw[t1];exact t3,by rw[t1];exact t4⟩,by dsimp only;omega,by dsimp only;omega,h.log,h.last,h.BK,by have:=h.yD;dsimp only;omega,by have:=h.few;dsimp only;omega⟩
  · exact h.step
end
theorem U4 (p:List ar) (g:gPlan p) (s:Int) (hs:200000≤s∧s≤299999):
    jI (newShop s p).1 (newShop s p).2.1 (newShop s p).2.2.1 (newShop s p).2.2.2.1 (newShop s p).2.2.2.2.1 (newShop s p).2.2.2.2.2.1 0:=by
  have hn:=agu g (s:=s) ⟨by omega,by omega⟩;unfold newShop;rw[if_pos (by rw[hn]),hn];have e0:(ik p s 0).getD 0 0=s:=by rw[qF _ _ _ _ (by omega),if_pos (Nat.zero_le _)];rfl
  refine⟨g,⟨0,rfl,Nat.zero_le _,Jp g ⟨by omega,by omega⟩ 0 (Nat.zero_le _)⟩,?_,?_,(show gA ([]:List S64)=true from by decide),.inl rfl,(by dsimp only;omega),(by dsimp only;omega),Nat.le_refl _⟩
  · show _≤(ik p s 0).getD 0 0;rw[e0];omega
  · show(ik p s 0).getD 0 0≤_;rw[e0];omega
def GC (s:List ar×Int×List Int×Int×Int×List S64):Prop:=jI s.1 s.2.1 s.2.2.1 s.2.2.2.1 s.2.2.2.2.1 s.2.2.2.2.2 20
theorem jI.more {p:List ar} {d:Int} {q:List Int} {a m:Int} {l:List S64} {c c':Nat} (h:jI p d q a m l c) (hc:c≤c'):jI p d q a m l c':=
  ⟨h.plan,h.work,by have:=h.lo;omega,by have:=h.hi;omega,h.log,h.last,h.BK,by have:=h.yD;omega,by have:=h.few;omega⟩
section
variable (b:List Int) (hb:b.length≤1048576)
include hb
theorem aij (N:Nat) (hN:N≤19):∀e:Nat,e≤N→∀(i h:Int) (p:List ar) (d:Int) (q:List Int) (a m:Int) (l:List S64),0≤i→jI p d q a m l (N-e)→
    ∃s i' h',Ev (fun k=>dR.l0 k (N:Int) ((N-e:Nat):Int) b i h p d q a m l) (s.1,s.2.1,s.2.2.1,s.2.2.2.1,s.2.2.2.2.1,s.2.2.2.2.2,i',h')∧GC s∧0≤i':=by
  intro e
  induction e with
  |zero=>
   intro _ i h p d q a m l hi g;exact⟨(p,d,q,a,m,l),i,h,Ev.step (fun k=>by rw[dR.l0]) (aT (by omega) (Ev.now _)),g.more (by omega),hi⟩
  |succ e ih=>
   intro he i h p d q a m l hi g;have lq:=g.len;have lp:=g.plan.1;have ll:=af9 g.log;obtain⟨x,i1,h1,e1,x0,x1,_,j1⟩:=kZ b hb i h 8 hi;have hs:N-e=N-(e+1)+1:=(by omega);by_cases y0:x=0
   · obtain⟨y,i2,h2,e2,_,_,_,j2⟩:=kZ b hb i1 h1 30 j1;obtain⟨s,i',h',ev,gs,hi'⟩:=ih (by omega) i2 h2 _ _ _ _ _ _ j2 (hs▸g.akq y);refine⟨s,i',h',Ev.step (fun k=>by rw[dR.l0]) (evp (by omega) (bR e1 (evp y0 (bR e2 (Ev.bind (aiO p d q a m l y (by omega) (by omega) (by omega)) ?_))))),gs,hi'⟩;rw[show wrap64 (((N-(e+1):Nat):Int)+1)=((N-e:Nat):Int)from by rw[eH (by omega) (by omega)];omega];exact ev
   by_cases y1:x=1
   · obtain⟨r,n,i2,h2,e2,gp,j2⟩:=ahf b hb i1 h1 j1;obtain⟨f,i3,h3,e3,_,_,_,j3⟩:=kZ b hb i2 h2 3 j2;obtain⟨s,i',h',ev,gs,hi'⟩:=ih (by omega) i3 h3 _ _ _ _ _ _ j3 (hs▸g.ac3 r n f);refine⟨s,i',h',Ev.step (fun k=>by rw[dR.l0]) (evp (by omega) (bR e1 (aT y0 (evp y1 (bR e2 (bR e3 (Ev.bind (aic p d q a m l r n f (by omega) (by omega) (by omega)) ?_))))))),gs,hi'⟩;rw[show wrap64 (((N-(e+1):Nat):Int)+1)=((N-e:Nat):Int)from by rw[eH (by omega) (by omega)];omega];exact ev
   by_cases y2:x=2
   · obtain⟨k0,i2,h2,e2,_,_,_,j2⟩:=kZ b hb i1 h1 12 j1;obtain⟨z,i3,h3,e3,z0,z1,_,j3⟩:=kZ b hb i2 h2 2001 j2;have z2:=z1 (by omega);obtain⟨s,i',h',ev,gs,hi'⟩:=ih (by omega) i3 h3 _ _ _ _ _ _ j3 (hs▸g.s7 k0 (z-1000) (by omega));refine⟨s,i',h',Ev.step (fun k=>by rw[dR.l0]) (evp (by omega) (bR e1 (aT y0 (aT y1 (evp y2 (bR e2 (bR e3 ?_))))))),gs,hi'⟩;dsimp only;rw[show wrap64 (z-1000)=z-1000 from eH (by omega) (by omega)];refine Ev.bind (aim p d q a m l k0 (z-1000) (by omega) (by omega) (by omega)) ?_;rw[show wrap64 (((N-(e+1):Nat):Int)+1)=((N-e:Nat):Int)from by rw[eH (by omega) (by omega)];omega];exact ev
   · obtain⟨s,i',h',ev,gs,hi'⟩:=ih (by omega) i1 h1 _ _ _ _ _ _ j1 (hs▸g.ajX (by omega));refine⟨s,i',h',Ev.step (fun k=>by rw[dR.l0]) (evp (by omega) (bR e1 (aT y0 (aT y1 (aT y2 (Ev.bind (aiL p d q a m l (by omega) (by omega) (by omega)) ?_)))))),gs,hi'⟩;rw[show wrap64 (((N-(e+1):Nat):Int)+1)=((N-e:Nat):Int)from by rw[eH (by omega) (by omega)];omega];exact ev
theorem aii (i h:Int) (hi:0≤i):∃s i' h',Ev (fun k=>dR.f k b i h) (s.1,s.2.1,s.2.2.1,s.2.2.2.1,s.2.2.2.2.1,s.2.2.2.2.2,i',h')∧GC s∧0≤i':=by
  obtain⟨x,i1,h1,e1,x0,x1,_,j1⟩:=kZ b hb i h 100000 hi;have x2:=x1 (by omega);obtain⟨p,i2,h2,e2,g,j2⟩:=ahl b hb i1 h1 j1;obtain⟨y,i3,h3,e3,y0,y1,_,j3⟩:=kZ b hb i2 h2 20 j2;have y2:=y1 (by omega);obtain⟨N,rfl⟩:=Int.eq_ofNat_of_zero_le y0;obtain⟨s,i',h',ev,gs,hi'⟩:=aij b hb N (by omega) N (Nat.le_refl _) i3 h3 _ _ _ _ _ _ j3 ((U4 p g (200000+x) (by omega)).more (Nat.zero_le _));refine⟨s,i',h',?_,gs,hi'⟩;unfold dR.f;refine bR e1 (Ev.bind e2 ?_);dsimp only;rw[show wrap64 (200000+x)=200000+x from eH (by omega) (by omega)];refine Ev.bind (Vf (200000+x) p) (bR e3 ?_);rw[show N-N=0 by omega]at ev;exact ev
theorem abl (i h:Int) (hi:0≤i):∃s i' h',Ev (fun k=>zq.f k b i h) (s.1,s.2.1,s.2.2.1,s.2.2.2.1,s.2.2.2.2.1,s.2.2.2.2.2,i',h')∧GC s∧0≤i':=by
  obtain⟨v,i1,h1,e1,j1⟩:=Vo b hb i h 2 hi;unfold zq.f;by_cases hv:v=true
  · refine⟨f_,i1,h1,bR e1 (evp hv (Ev.bind ah7 (Ev.now _))),?_,j1⟩;have:=(U4 (nK 700) (SD 700 (by omega)).1 264000 (by omega)).more (Nat.zero_le 20);exact this
  · obtain⟨s,i',h',ev,gs,hi'⟩:=aii b hb i1 h1 j1;exact⟨s,i',h',bR e1 (aT hv (Ev.bind ev (Ev.now _))),gs,hi'⟩
end
structure zJ (x:cN):Prop where
  ok:gZ x.f0 x.f1 x.f2 x.f3=true
  small:(-1000≤x.f1∧x.f1≤1000)∧(-1000≤x.f2∧x.f2≤1000)∧(-1000≤x.f3∧x.f3≤1000)
section
variable (b:List Int) (hb:b.length≤1048576)
include hb
theorem aa4 (i h:Int) (hi:0≤i):∃n x y z i' h',zo.f b i h=some (n,x,y,z,i',h')∧zJ ⟨n,x,y,z⟩∧0≤i':=by
  obtain⟨v,i1,h1,e1,v0,v1,_,j1⟩:=kZ b hb i h 12 hi;have v2:=v1 (by omega);unfold zo.f;rw[e1,Option.bind_some];dsimp only;by_cases c0:v=0
  · obtain⟨x,i2,h2,e2,x0,x1,_,j2⟩:=kZ b hb i1 h1 40 j1;have x2:=x1 (by omega);rw[if_pos c0,e2,Option.bind_some];dsimp only;rw[show wrap64 (x-5)=x-5 from eH (by omega) (by omega)];exact⟨_,_,_,_,_,_,rfl,⟨by unfold gZ;dsimp only;rw[if_neg (by omega),if_pos rfl,decide_eq_true_eq];omega,by dsimp only;omega⟩,j2⟩
  rw[if_neg c0];by_cases c1:v=1
  · obtain⟨x,i2,h2,e2,x0,j2⟩:=Vs b hb i1 h1 [0,0,1] j1 (by decide);obtain⟨y,i3,h3,e3,y0,y1,_,j3⟩:=kZ b hb i2 h2 6 j2;obtain⟨z,i4,h4,e4,z0,z1,_,j4⟩:=kZ b hb i3 h3 3 j3;have y2:=y1 (by omega);have z2:=z1 (by omega);have x2:x=0∨x=1:=(by simp at x0;omega);rw[if_pos c1,e2,Option.bind_some];dsimp only;rw[e3,Option.bind_some];dsimp only;rw[e4,Option.bind_some];exact⟨_,_,_,_,_,_,rfl,⟨by unfold gZ;dsimp only;rw[if_neg (by omega),if_neg (by omega),if_pos rfl,decide_eq_true_eq];omega,by dsimp only;omega⟩,j4⟩
  rw[if_neg c1];by_cases c2:v=2
  · obtain⟨x,i2,h2,e2,x0,x1,_,j2⟩:=kZ b hb i1 h1 12 j1;obtain⟨y,i3,h3,e3,y0,y1,_,j3⟩:=kZ b hb i2 h2 2001 j2;have x2:=x1 (by omega);have y2:=y1 (by omega);rw[if_pos c2,e2,Option.bind_some];dsimp only;rw[e3,Option.bind_some];dsimp only;rw[show wrap64 (y-1000)=y-1000 from eH (by omega) (by omega)];exact⟨_,_,_,_,_,_,rfl,⟨by unfold gZ;dsimp only;rw[if_neg (by omega),if_neg (by omega),if_neg (by omega),if_pos rfl,decide_eq_true_eq];omega,by dsimp only;omega⟩,j3⟩
  rw[if_neg c2];by_cases c3:v=3
  · rw[if_pos c3];exact⟨_,_,_,_,_,_,rfl,⟨by decide,by dsimp only;omega⟩,j1⟩
  rw[if_neg c3];by_cases c4:v=4
  · rw[if_pos c4];exact⟨_,_,_,_,_,_,rfl,⟨by decide,by dsimp only;omega⟩,j1⟩
  rw[if_neg c4];by_cases c5:v=5
  · obtain⟨x,i2,h2,e2,x0,x1,_,j2⟩:=kZ b hb i1 h1 12 j1;have x2:=x1 (by omega);rw[if_pos c5,e2,Option.bind_some];exact⟨_,_,_,_,_,_,rfl,⟨by unfold gZ;dsimp only;rw[if_neg (by omega),if_neg (by omega),if_neg (by omega),if_neg (by omega),if_pos rfl,decide_eq_true_eq];omega,by dsimp only;omega⟩,j2⟩
  rw[if_neg c5];exact⟨_,_,_,_,_,_,rfl,⟨by decide,by dsimp only;omega⟩,j1⟩
theorem aa6 (i h:Int) (hi:0≤i):∃l i' h',Ev (fun k=>ml.f k b i h) (l,i',h')∧l.length≤25∧(∀x∈l,zJ x)∧0≤i':=by
  obtain⟨n,i1,h1,e1,n0,n1,_,j1⟩:=kZ b hb i h 26 hi;have n2:=n1 (by omega);obtain⟨N,rfl⟩:=Int.eq_ofNat_of_zero_le n0
  have key:∀m:Nat,m≤N→∀(acc:List cN) (i h:Int),0≤i→acc.length=N-m→(∀x∈acc,zJ x)→
      ∃l i' h',Ev (fun k=>ml.l0 k acc (N:Int) ((N-m:Nat):Int) b i h) (l,i',h')∧l.length≤25∧(∀x∈l,zJ x)∧0≤i':=by
    intro m
    induction m with
    |zero=>
     intro _ acc i h hi hl hx;exact⟨acc,i,h,Ev.step (fun k=>by rw[ml.l0]) (aT (by omega) (Ev.now _)),by omega,hx,hi⟩
    |succ m ih=>
     intro hm acc i h hi hl hx;obtain⟨a,x,y,z,i2,h2,e2,g,j2⟩:=aa4 b hb i h hi
     obtain⟨l,i',h',ev,l1,l2,j⟩:=ih (by omega) (acc++[⟨a,x,y,z⟩]) i2 h2 j2 (by simp;omega) (by
       intro w hw;rcases List.mem_append.1 hw with hw|hw
       · exact hx w hw
       · simp at hw;subst hw;exact g)
     refine⟨l,i',h',Ev.step (fun k=>by rw[ml.l0]) (evp (by omega) (bR e2 ?_)),l1,l2,j⟩;refine evp (show acc.length<4398046511104 by omega) ?_;rw[show wrap64 (((N-(m+1):Nat):Int)+1)=((N-m:Nat):Int)from by rw[eH (by omega) (by omega)];omega];exact ev
  obtain⟨l,i',h',ev,l1,l2,j⟩:=key N (Nat.le_refl _) [] i1 h1 j1 (by simp) (by simp);refine⟨l,i',h',?_,l1,l2,j⟩;unfold ml.f;refine bR e1 ?_;rw[show N-N=0 by omega]at ev;exact ev
theorem acq:∃s l,Ev (fun k=>wH.f k b) (s.1,s.2.1,s.2.2.1,s.2.2.2.1,s.2.2.2.2.1,s.2.2.2.2.2,l)∧GC s∧l.length≤25∧∀x∈l,zJ x:=by
  obtain⟨h0,e0⟩:=agx b;obtain⟨s,i1,h1,e1,g,j1⟩:=abl b hb 0 h0 (by omega);obtain⟨l,i2,h2,e2,l1,l2,j2⟩:=aa6 b hb i1 h1 j1;refine⟨s,l,?_,g,l1,l2⟩;unfold wH.f;exact Ev.bind e0 (Ev.bind e1 (Ev.bind e2 (Ev.now _)))
end
end Go.Proofs.YtnjfiaekdcekgaaGreatDoor.Q
namespace Go.Proofs.YtnjfiaekdcekgaaGreatDoor.S
open Go.RowKit Go.Sort Go.Proofs.YtnjfiaekdcekgaaGreatDoor.P Go.Proofs.YtnjfiaekdcekgaaGreatDoor.Q Go.Proofs.YtnjfiaekdcekgaaGreatDoor.V Go.Proofs.YtnjfiaekdcekgaaGreatDoorW.bS
attribute [local go_sem] fV fW
abbrev E:=S64
instance:Inhabited E:=⟨z64⟩
def enc4 (x:E):List Value:=[.int .i64 x.f0.f0,.int .i64 x.f0.f1,.int .i64 x.f1,.int .i64 x.f2]
abbrev WO (x:E):Value:= .agg #[.int .i64 x.f0.f0,.int .i64 x.f0.f1,.int .i64 x.f1,.int .i64 x.f2]
class lg (W:World) (a:Addr) (v:outParam Value):Prop where out:W.cell? a=some v
section
variable {w w0 W:World} {a:Addr} {v:Value} {o:Obj} {n:Nat}
theorem Lb (h:lg W a v):a.block<W.heap.size:=World.block_lt_of_cell? W a h.out
instance [h:lg W a v]:lg (W.alloc o) a v:=⟨((dB (RowKit.Below.refl W.heap.size W) o).cell (Lb h)).trans h.out⟩
instance [h:lg W a v]:lg W.drew a v:=⟨h.out⟩
instance [h:lg W a v]:lg (W.drewN n) a v:=⟨h.out⟩
instance [b:aK w W] [h:lg w a v]:lg W a v:=⟨(b.out.cell (Lb h)).trans h.out⟩
instance [b:Sin w0 W] [h:lg w0 a v]:lg W a v:=⟨(b.out.cell (Lb h)).trans h.out⟩
theorem ab6 (W:World) (a:Addr) {v:Value} [h:lg W a v]:W.cell? a=some v:=h.out
end
def vw (x:E):Prop:=x.f1=1∨x.f1=2
theorem KH {a b:Int} (h:a≠b):(a != b)=true:=bne_iff_ne.mpr h
theorem KG {a b:Int} (h:a=b):(a != b)=false:=bne_eq_false_iff_eq.mpr h
set_option maxHeartbeats 8000000 in
set_option maxRecDepth 100000 in
set_option synthInstance.maxHeartbeats 400000 in
set_option synthInstance.maxSize 100000 in
theorem aio (a b:E) (w:World) (ha:vw a) (hb:vw b):
    Calls Tryz.prog 154 #[WO a,WO b] w fun e w'=>e= .returned (.bool (aQ a b))∧Below w.heap.size w w':=by
  obtain⟨⟨a0,a1⟩,a2,a3⟩:=a;obtain⟨⟨b0,b1⟩,b2,b3⟩:=b;obtain⟨r,hr⟩:∃r,aQ ⟨⟨a0,a1⟩,a2,a3⟩ ⟨⟨b0,b1⟩,b2,b3⟩=r:=⟨_,rfl⟩;rw[hr];unfold vw at ha hb;simp only at ha hb;unfold aQ at hr;simp only at hr;have hu:=Tryz.underlying64;have Uf:=Tryz.underlying62;have done_:∀{p q s:Prop} [Decidable p] [Decidable q] [Decidable s],True:=fun{_ _ _} _ _ _=>trivial;clear done_;by_cases h1:a2=b2
  · rw[if_pos h1]at hr;have h1:=KG h1;by_cases h2:a3=b3
    · rw[if_pos h2]at hr;have h2:=KG h2;by_cases h3:a0=b0
      · rw[if_pos h3]at hr;have h3:=KG h3;clear ha hb;go_enter Tryz.func154,Tryz.ntmps154;go_wp2;go_ret;exact⟨rfl,From.out⟩
      · rw[if_neg h3]at hr;have h3:=KH h3;clear ha hb;go_enter Tryz.func154,Tryz.ntmps154;go_wp2;go_ret;exact⟨rfl,From.out⟩
    · rw[if_neg h2]at hr;have h2:=KH h2;clear ha hb;go_enter Tryz.func154,Tryz.ntmps154;go_wp2;go_ret;exact⟨rfl,From.out⟩
  · rw[if_neg h1]at hr;have h4:(a2==2)=r:=(by rw[←hr,Bool.eq_iff_iff,beq_iff_eq,decide_eq_true_eq];omega);have h1:=KH h1;clear ha hb hr;go_enter Tryz.func154,Tryz.ntmps154;go_wp2;go_ret;exact⟨rfl,From.out⟩
structure fU where
  g:Nat
  bs:Nat
  n:Nat
  c:Nat
  lb:Array Value
  sb:Array Value
class gQ (C:outParam fU):Prop where
  swap:SwapSwapsK Tryz.prog 189 C.sb enc4 4 C.g 0 C.n
  small:C.n<50
  lb:C.lb= #[.pointer (some ⟨C.bs,0,none⟩)]
  ne:C.bs≠C.g
structure eo (C:fU) (W:World) (D:Array E):Prop where
  hold:HoldsK enc4 4 W C.g 0 D
  size:D.size=C.n
  box:W.heap[C.bs]? =some (.cells #[.slice (some ⟨C.g,0,none⟩) C.n C.c] 28 (0,0))
  lt:C.g<W.heap.size
  shape:∃cur:Array Value,W.heap[C.g]? =some (.cells cur 64 (0,0))∧cur.size=C.c*4
  ftd:∀x∈D,vw x
class So (C:outParam fU) (W:World) (D:outParam (Array E)):Prop where out:eo C W D
theorem eo.at_ {C:fU} {W:World} {D:Array E} (h:eo C W D) (i:Nat) (hi:i<C.n):
    W.cell? ⟨C.g,i*4,none⟩=some (.int .i64 D[i]!.f0.f0)∧W.cell? ⟨C.g,i*4+1,none⟩=some (.int .i64 D[i]!.f0.f1)∧W.cell? ⟨C.g,i*4+2,none⟩=some (.int .i64 D[i]!.f1)∧W.cell? ⟨C.g,i*4+3,none⟩=some (.int .i64 D[i]!.f2):=by
  have hi':i<D.size:=by rw[h.size];exact hi
  have c0:=(h.hold.cell (i:=i) (c:=0) hi' (by omega)).1;have c1:=(h.hold.cell (i:=i) (c:=1) hi' (by omega)).1;have c2:=(h.hold.cell (i:=i) (c:=2) hi' (by omega)).1;have c3:=(h.hold.cell (i:=i) (c:=3) hi' (by omega)).1;simp only[Nat.zero_add,Nat.add_zero]at c0 c1 c2 c3;exact⟨c0,c1,c2,c3⟩
theorem eo.SC {C:fU} {W:World} {D:Array E} (h:eo C W D) (i:Nat) (hi:i<C.n):vw D[i]! :=by
  have hi':i<D.size:=by rw[h.size];exact hi
  rw[getElem!_pos D i hi'];exact h.ftd _ (Array.getElem_mem hi')
attribute [local go_sem] ab6
set_option maxHeartbeats 8000000 in
set_option maxRecDepth 100000 in
set_option synthInstance.maxHeartbeats 400000 in
set_option synthInstance.maxSize 100000 in
theorem UY (C:fU) (w:World) (D:Array E) (h:eo C w D) (hlb:C.lb= #[.pointer (some ⟨C.bs,0,none⟩)]) (hn:C.n<50) (i j:Nat) (hi:i<C.n) (hj:j<C.n):
    Calls Tryz.prog 153 (#[.int .i64 i,.int .i64 j]++C.lb) w fun e w'=>e= .returned (.bool (aQ D[i]! D[j]!))∧Below w.heap.size w w':=by
  obtain⟨i0,i1,i2,i3⟩:=h.at_ i hi;obtain⟨j0,j1,j2,j3⟩:=h.at_ j hj;have fi:=h.SC i hi;have fj:=h.SC j hj;generalize D[i]! =x at*;generalize D[j]! =y at*;have rU:=h.box;rw[hlb];obtain⟨g,bs,n,c,lb,sb⟩:=C;simp only at*;have jB:a7 w bs #[.slice (some ⟨g,0,none⟩) n c] 28:=⟨rU⟩;have hs:=fun W=>aio x y W fi fj;have HS:=aj.mk hs;have k0:=lg.mk i0;have k1:=lg.mk i1;have k2:=lg.mk i2;have k3:=lg.mk i3;have k4:=lg.mk j0;have k5:=lg.mk j1;have k6:=lg.mk j2;have k7:=lg.mk j3;clear i0 i1 i2 i3 j0 j1 j2 j3;have hi1:(0:Int)≤(i:Int):=by omega
  have hi2:(i:Int)<(n:Int):=by omega
  have hj1:(0:Int)≤(j:Int):=by omega
  have hj2:(j:Int)<(n:Int):=by omega
  clear h hlb rU hs fi fj hn hi hj;have hu:=Tryz.underlying64;go_enter Tryz.func153,Tryz.ntmps153;go_wp2;refine Fg ?_;intro w3 jw
  go_region_held3 (fun w'=>Sin w3 w') (first|exact⟨From.out⟩|skip) (first|(go_at_call 154;refine(HS.out _).mono ?_;rintro e w2 ⟨rfl,hb⟩;have jb:=aK.mk hb;clear hb))
  all_goals go_wp2
  all_goals go_ret
  all_goals exact⟨rfl,From.out⟩
end Go.Proofs.YtnjfiaekdcekgaaGreatDoor.S
namespace Go.Proofs.YtnjfiaekdcekgaaGreatDoor.S
open Go.RowKit Go.Sort Go.Proofs.YtnjfiaekdcekgaaGreatDoor.P Go.Proofs.YtnjfiaekdcekgaaGreatDoor.Q Go.Proofs.YtnjfiaekdcekgaaGreatDoor.V Go.Proofs.YtnjfiaekdcekgaaGreatDoorW.bS
class Ix (i:Int) (n:Nat):Prop where
  lo:0≤i
  hi:i<(n:Int)
theorem enc4_len (x:E):(enc4 x).length=4:=rfl
def sg (C:fU) (D:Array E) (W:World) (i j:Int):World:=(W.setCells C.g (0+i.toNat*4) (enc4 D[j.toNat]!)).setCells C.g (0+j.toNat*4) (enc4 D[i.toNat]!)
theorem NZ {C:fU} {W:World} {D:Array E} (h:eo C W D) (i j:Int) (hi:i.toNat<C.n) (hj:j.toNat<C.n):sg C D W i j=putRowK enc4 4 W C.g 0 (swp D i.toNat j.toNat):=by
  have:=swap_worldK enc4 4 enc4_len W 0 0 C.g 0 D i.toNat j.toNat (by rw[h.size];exact hi) (by rw[h.size];exact hj)
  rw[show((putRowK enc4 4 (Sort.ahead W 0) C.g 0 D).drewN 0)=W by
    rw[show∀X:World,X.drewN 0=X from fun _=>rfl];exact putRowK_self enc4 4 W C.g 0 D h.hold]at this
  exact this
theorem agf {D:Array E} {i j:Nat} {x:E} (h:x∈swp D i j) (hi:i<D.size) (hj:j<D.size):x∈D:=by
  obtain⟨k,hk,rfl⟩:=Array.mem_iff_getElem.mp h;have hk':k<D.size:=by simpa[size_swp]using hk
  rw[←getElem!_pos (swp D i j) k hk];by_cases e1:k=j
  · subst e1;rw[swp_right D i k hk',getElem!_pos D i hi];exact Array.getElem_mem hi
  · by_cases e2:k=i
    · subst e2;rw[swp_left D k j hk' e1,getElem!_pos D j hj];exact Array.getElem_mem hj
    · rw[swp_other D i j k e2 e1,getElem!_pos D k hk'];exact Array.getElem_mem hk'
theorem VI {W:World} {g:Nat} {D:Array E} {c:Nat} (h:∃cur:Array Value,W.heap[g]? =some (.cells cur 64 (0,0))∧cur.size=c):∃cur:Array Value,(putRowK enc4 4 W g 0 D).heap[g]? =some (.cells cur 64 (0,0))∧cur.size=c:=by
  obtain⟨cur,hc,hs⟩:=h;refine⟨putCells id 0 (flatK enc4 4 D) cur,?_,by simpa[putCells]using hs⟩;unfold putRowK putRow;rw[onCells_block,if_pos rfl,hc];rfl
class Fr (C:outParam fU) (w0 W:World):Prop where out:w0.grownBy W (some C.g)
section
variable {C:fU} {w w0 W:World} {D:Array E} {o:Obj} {n x i:Nat} {v:Value} {cs:Array Value} {t:TypeId}
theorem eo.move (h:eo C w D) (hs:w.heap.size≤W.heap.size) (h1:W.heap[C.g]? =w.heap[C.g]?) (h2:W.heap[C.bs]? =w.heap[C.bs]?):eo C W D:=
  ⟨fun j hj=>by
    obtain⟨a,b⟩:=h.hold j hj;exact⟨(World.cell?_of_block (a:=⟨C.g,0+j,none⟩) h1).trans a,(World.frozen?_of_block (a:=⟨C.g,0+j,none⟩) h1).trans b⟩,h.size,h2.trans h.box,Nat.lt_of_lt_of_le h.lt hs,by rw[h1];exact h.shape,h.ftd⟩
theorem eo.Cz (h:eo C W D):C.bs<W.heap.size:=iD h.box
theorem eo.below (h:eo C w D) (hb:RowKit.Below w.heap.size w W):eo C W D:=h.move hb.size (hb.block _ h.lt) (hb.block _ h.Cz)
instance [h:So C W D]:So C (W.alloc o) D:=⟨h.out.below (dB (RowKit.Below.refl _ _) o)⟩
instance [h:So C W D]:So C W.drew D:=⟨h.out.below (fC (RowKit.Below.refl _ _))⟩
instance [h:So C W D]:So C (W.drewN n) D:=⟨h.out.below (pw_below_drewN (RowKit.Below.refl _ _) n)⟩
instance [b:aK w W] [h:So C w D]:So C W D:=⟨h.out.below b.out⟩
instance [h:So C W D] [k:ma W x]:iL x C.g:=⟨by rw[k.out];exact Nat.ne_of_gt h.out.lt⟩
instance [h:So C W D] [k:ma W x]:iL x C.bs:=⟨by rw[k.out];exact Nat.ne_of_gt h.out.Cz⟩
instance [h:So C W D] [k:iL x C.g] [l:iL x C.bs]:So C (W.setCell ⟨x,i,none⟩ v) D:=
  ⟨h.out.move (by simp) (Below.heap_setCell W ⟨x,i,none⟩ v _ (Ne.symm k.out)) (Below.heap_setCell W ⟨x,i,none⟩ v _ (Ne.symm l.out))⟩
theorem N0 (h:eo C W D) (i j:Int) (hi:i.toNat<C.n) (hj:j.toNat<C.n):W.grownBy (sg C D W i j) (some C.g):=by
  rw[NZ h i j hi hj];refine⟨rfl,rfl,rfl,by simp[putRowK],fun k hk hne=> ?_⟩;unfold putRowK putRow;rw[onCells_block,if_neg (fun hh=>hne (by rw[hh]))]
theorem sZ {i:Int} {n:Nat} (h:Ix i n):i.toNat<n:=by have:=h.lo;have:=h.hi;omega
theorem ain [g:gQ C] (h:eo C W D) (i j:Int) (hi:i.toNat<C.n) (hj:j.toNat<C.n):eo C (sg C D W i j) (swp D i.toNat j.toNat):=by
  have hg:=N0 h i j hi hj;refine⟨?_,by rw[size_swp];exact h.size,(hg.block _ h.Cz (fun e=>g.ne (Option.some.inj e))).trans h.box,Nat.lt_of_lt_of_le h.lt hg.size,by rw[NZ h i j hi hj];exact VI h.shape,fun x hx=>h.ftd x (agf hx (by rw[h.size];exact hi) (by rw[h.size];exact hj))⟩;rw[NZ h i j hi hj];exact holdsK_putRowK enc4 4 W C.g 0 D _ h.hold (size_swp _ _ _)
instance {i j:Int} [g:gQ C] [h:So C W D] [a:Ix i C.n] [b:Ix j C.n]:So C (sg C D W i j) (swp D i.toNat j.toNat):=⟨ain h.out i j (sZ a) (sZ b)⟩
instance {i j:Int} [h:So C W D] [k:a7 W x cs t] [l:iL x C.g] [a:Ix i C.n] [b:Ix j C.n]:a7 (sg C D W i j) x cs t:=⟨((N0 h.out i j (sZ a) (sZ b)).block x (iD k.out) (fun e=>l.out (Option.some.inj e))).trans k.out⟩
theorem N1 (W:World) (i j:Int) [g:gQ C] [h:So C W D] [a:Ix i C.n] [b:Ix j C.n]:(callFunc 189 (#[.int .i64 i,.int .i64 j]++C.sb)).run Tryz.prog W= .ok (.value (.tuple #[])) (sg C D W i j):=by
  have:=g.swap W D h.out.hold h.out.size i.toNat j.toNat (sZ a) (sZ b);rw[show((i.toNat:Nat):Int)=i from Int.toNat_of_nonneg a.lo,show((j.toNat:Nat):Int)=j from Int.toNat_of_nonneg b.lo]at this;exact this
theorem MO [g:gQ C] [h:So C W D] (i j:Int) [a:Ix i C.n] [b:Ix j C.n]:
    Calls Tryz.prog 153 (#[.int .i64 i,.int .i64 j]++C.lb) W fun e w'=>e= .returned (.bool (aQ D[i.toNat]! D[j.toNat]!))∧RowKit.Below W.heap.size W w':=by
  have:=UY C W D h.out g.lb g.small i.toNat j.toNat (sZ a) (sZ b);rw[show((i.toNat:Nat):Int)=i from Int.toNat_of_nonneg a.lo,show((j.toNat:Nat):Int)=j from Int.toNat_of_nonneg b.lo]at this;exact this
class eE (D:Array E) (i j:Int) (b:outParam Bool):Prop where out:aQ D[i.toNat]! D[j.toNat]! =b
theorem eE.of {D:Array E} {i j:Int} {b:Bool} {i' j':Nat} (h:aQ D[i']! D[j']! =b) (hi:i=i') (hj:j=j'):eE D i j b:=⟨by rw[hi,hj,Int.toNat_natCast,Int.toNat_natCast];exact h⟩
theorem kJ {b:Bool} [g:gQ C] [h:So C W D] (i j:Int) [a:Ix i C.n] [k:Ix j C.n] [l:eE D i j b]:
    Calls Tryz.prog 153 (#[.int .i64 i,.int .i64 j]++C.lb) W fun e w'=>e= .returned (.bool b)∧RowKit.Below W.heap.size W w':=
  (MO i j).mono fun e w' h=>⟨by rw[h.1,l.out],h.2⟩
theorem pC {w0 w W:World} {r:Option Nat} (h:w0.grownBy w r) (k:w.grownBy W r):w0.grownBy W r:=
  ⟨k.os.trans h.os,k.tape.trans h.tape,k.output.trans h.output,Nat.le_trans h.size k.size,fun j hj hne=>(k.block j (Nat.lt_of_lt_of_le hj h.size) hne).trans (h.block j hj hne)⟩
theorem qx {w W:World} {r:Option Nat} (h:RowKit.Below w.heap.size w W):w.grownBy W r:=⟨h.os,h.tape,h.output,h.size,fun j hj _=>h.block j hj⟩
instance [h:So C w D]:Fr C w w:=⟨qx (RowKit.Below.refl _ _)⟩
instance [h:Fr C w W]:Fr C w (W.alloc o):=⟨pC h.out (qx (dB (RowKit.Below.refl _ _) o))⟩
instance [h:Fr C w W]:Fr C w W.drew:=⟨pC h.out (qx (fC (RowKit.Below.refl _ _)))⟩
instance [h:Fr C w W]:Fr C w (W.drewN n):=⟨pC h.out (qx (pw_below_drewN (RowKit.Below.refl _ _) n))⟩
instance [b:aK w W] [h:Fr C w0 w]:Fr C w0 W:=⟨pC h.out (qx b.out)⟩
instance {i j:Int} [h:Fr C w0 W] [k:So C W D] [a:Ix i C.n] [b:Ix j C.n]:Fr C w0 (sg C D W i j):=⟨pC h.out (N0 k.out i j (sZ a) (sZ b))⟩
class Gb (C:outParam fU) (w:outParam World) (W:World):Prop where out:w.grownBy W (some C.g)
instance [b:Gb C w W] [h:Fr C w0 w]:Fr C w0 W:=⟨pC h.out b.out⟩
instance [b:Gb C w W] [h:a7 w x cs t] [l:iL x C.g]:a7 W x cs t:=⟨(b.out.block x (iD h.out) (fun e=>l.out (Option.some.inj e))).trans h.out⟩
end
end Go.Proofs.YtnjfiaekdcekgaaGreatDoor.S
namespace Go.Proofs.YtnjfiaekdcekgaaGreatDoor.S
open Go.RowKit Go.Sort Go.Proofs.YtnjfiaekdcekgaaGreatDoor.P Go.Proofs.YtnjfiaekdcekgaaGreatDoor.Q Go.Proofs.YtnjfiaekdcekgaaGreatDoor.V Go.Proofs.YtnjfiaekdcekgaaGreatDoorW.bS
attribute [local go_sem] fV fW N1
abbrev n9 (C:fU):Value:= .agg #[.func (.func 153) #[] C.lb,.func (.func 189) #[] C.sb]
set_option maxHeartbeats 8000000 in
set_option maxRecDepth 100000 in
set_option synthInstance.maxHeartbeats 400000 in
set_option synthInstance.maxSize 100000 in
theorem afi (C:fU) [gQ C] (w:World) (D:Array E) (h:eo C w D) (a b:Nat) (hab:a≤b) (hb:b≤C.n):
    Calls Tryz.prog 191 #[n9 C,.int .i64 a,.int .i64 b] w fun e w'=>e= .returned (.tuple #[])∧eo C w' (insertionSort aQ D a b)∧w.grownBy w' (some C.g):=by
  have j0:=So.mk h;have hsm:=gQ.small (C:=C);have jx:iL w.heap.size C.g:=⟨Nat.ne_of_gt h.lt⟩;clear h;have hu:=Tryz.underlying184;go_enter Tryz.func191,Tryz.ntmps191;go_wp2
  go_loopw [6] (fun vi wr=>∃(i:Nat) (dk:Array E),vi= .int .i64 i∧aj (a<i)∧aj (i≤b+1)∧So C wr dk∧Fr C w wr∧a7 wr w.heap.size #[.func (.func 153) #[] C.lb,.func (.func 189) #[] C.sb] 184∧aj (insOuter aQ a b i dk=insOuter aQ a b (a+1) D)) (fun vi _=>b+1-(intOf vi).toNat)
  case atStart=>exact⟨a+1,D,by go_num,⟨by omega⟩,⟨by omega⟩,inferInstance,inferInstance,⟨mC w _⟩,⟨rfl⟩⟩
  case round=>
    clear j0;obtain⟨i,dk,rfl,HA,HI,j1,j2,j3,HO⟩:=hrel;by_cases hib:i<b
    · have aeJ:decide ((i:Int)<(b:Int))=true:=decide_eq_true (by omega);go_wp2
      go_loopw [7] (fun vj wr2=>∃(j:Nat) (dj:Array E),vj= .int .i64 j∧aj (a≤j)∧aj (j≤i)∧So C wr2 dj∧Fr C w wr2∧a7 wr2 w.heap.size #[.func (.func 153) #[] C.lb,.func (.func 189) #[] C.sb] 184∧aj (insInner aQ a j dj=insInner aQ a i dk)) (fun vj _=>(intOf vj).toNat)
      case atStart=>exact⟨i,dk,rfl,⟨by have:=HA.out;omega⟩,⟨Nat.le_refl _⟩,j1,j2,j3,⟨rfl⟩⟩
      case round=>
        clear j1 j2 j3;obtain⟨j,dj,rfl,YR,YX,j1,j2,j3,HN⟩:=hrel;have hjb:=YX.out;have haj:=YR.out;by_cases hja:a<j
        · have aeK:decide ((a:Int)<(j:Int))=true:=decide_eq_true (by omega);have x1:Ix (j:Int) C.n:=⟨by omega,by omega⟩;have x2:Ix ((j:Int)-1) C.n:=⟨by omega,by omega⟩;have e1:((j:Int)-1).toNat=j-1:=(by omega);cases hl:aQ dj[j]! dj[j-1]! with
          |true=>
           go_wp2_with (first|(go_at_call 153;refine(MO _ _).mono ?_;rintro e w2 ⟨he,hb⟩;rw[Int.toNat_natCast,e1,hl]at he;subst he;have jb:=aK.mk hb;clear hb))
           refine⟨⟨j-1,swp dj j (j-1),by congr 1;omega,⟨by omega⟩,⟨by omega⟩,?_,inferInstance,inferInstance,⟨?_⟩⟩,by simp[intOf];omega⟩
           · have k:So C (sg C dj w2 (j:Int) ((j:Int)-1)) (swp dj (j:Int).toNat ((j:Int)-1).toNat):=inferInstance;rw[Int.toNat_natCast,e1]at k;exact k
           · rw[←HN.out,insInner_go aQ a j dj hja hl]
          |false=>
           go_wp2_with (first|(go_at_call 153;refine(MO _ _).mono ?_;rintro e w2 ⟨he,hb⟩;rw[Int.toNat_natCast,e1,hl]at he;subst he;have jb:=aK.mk hb;clear hb))
           refine⟨⟨i+1,dj,by go_num,⟨by have:=HA.out;omega⟩,⟨by omega⟩,inferInstance,inferInstance,inferInstance,⟨?_⟩⟩,by simp[intOf];omega⟩;rw[←HO.out,insOuter_go aQ a b i dk hib,←HN.out,insInner_stop aQ a j dj (.inr hl)]
        · have aeK:decide ((a:Int)<(j:Int))=false:=decide_eq_false (by omega);go_wp2;refine⟨⟨i+1,dj,by go_num,⟨by have:=HA.out;omega⟩,⟨by omega⟩,inferInstance,inferInstance,inferInstance,⟨?_⟩⟩,by simp[intOf];omega⟩;rw[←HO.out,insOuter_go aQ a b i dk hib,←HN.out,insInner_stop aQ a j dj (.inl (by omega))]
    · have aeJ:decide ((i:Int)<(b:Int))=false:=decide_eq_false (by omega);go_wp2
      go_end0
      refine⟨rfl,?_,Fr.out⟩;have:=HO.out;rw[insOuter_stop aQ a b i dk hib]at this;unfold insertionSort;rw[←this];exact So.out
abbrev gv (C:fU):Array Value:= #[.func (.func 153) #[] C.lb,.func (.func 189) #[] C.sb]
theorem so_cast {C:fU} {W:World} {D D':Array E} (h:So C W D) (e:D=D'):eo C W D':=e▸h.out
set_option maxHeartbeats 8000000 in
set_option maxRecDepth 100000 in
set_option synthInstance.maxHeartbeats 400000 in
set_option synthInstance.maxSize 100000 in
theorem aik (C:fU) [gQ C] (w:World) (D:Array E) (h:eo C w D) (lo hi first:Nat) (hf:first+hi≤C.n) (hlo:lo≤C.n):
    Calls Tryz.prog 199 #[n9 C,.int .i64 lo,.int .i64 hi,.int .i64 first] w fun e w'=>e= .returned (.tuple #[])∧eo C w' (siftDown aQ hi first lo D)∧w.grownBy w' (some C.g):=by
  have j0:=So.mk h;have hsm:=gQ.small (C:=C);have jx:iL w.heap.size C.g:=⟨Nat.ne_of_gt h.lt⟩;clear h;have hu:=Tryz.underlying184;go_enter Tryz.func199,Tryz.ntmps199;go_wp2
  go_loopw [8] (fun v wr=>∃(r:Nat) (dk:Array E),v= .int .i64 r∧aj (r≤C.n)∧So C wr dk∧Fr C w wr∧a7 wr w.heap.size (gv C) 184∧aj (siftDown aQ hi first r dk=siftDown aQ hi first lo D)) (fun v _=>hi-(intOf v).toNat)
  case atStart=>exact⟨lo,D,rfl,⟨hlo⟩,inferInstance,inferInstance,⟨mC w _⟩,⟨rfl⟩⟩
  case round=>
    clear j0;obtain⟨r,dk,rfl,HR,j1,j2,j3,HO⟩:=hrel;have hrn:=HR.out;have gJ:=HO.out;rw[siftDown]at gJ;by_cases c1:2*r+1≥hi
    · rw[dif_pos c1]at gJ;have gJ:=aj.mk gJ;have d1:decide ((hi:Int)≤2*(r:Int)+1)=true:=decide_eq_true (by omega);go_wp2
      go_end0
      exact⟨rfl,so_cast j1 gJ.out,Fr.out⟩
    rw[dif_neg c1]at gJ;have d1:decide ((hi:Int)≤2*(r:Int)+1)=false:=decide_eq_false (by omega);have x1:Ix ((first:Int)+(2*(r:Int)+1)) C.n:=⟨by omega,by omega⟩;have x0:Ix ((first:Int)+(r:Int)) C.n:=⟨by omega,by omega⟩;by_cases c2:2*r+1+1<hi
    · have d2:decide (2*(r:Int)+1+1<(hi:Int))=true:=decide_eq_true (by omega);have x2:Ix ((first:Int)+(2*(r:Int)+1)+1) C.n:=⟨by omega,by omega⟩;have x3:Ix ((first:Int)+(2*(r:Int)+1+1)) C.n:=⟨by omega,by omega⟩;cases l1:aQ dk[first+(2*r+1)]! dk[first+(2*r+1)+1]! with
      |true=>
       have y1:eE dk ((first:Int)+(2*(r:Int)+1)) ((first:Int)+(2*(r:Int)+1)+1) true:=eE.of l1 (by omega) (by omega);rw[l1,decide_eq_true c2,Bool.and_self,if_pos rfl]at gJ;clear l1;cases l2:aQ dk[first+r]! dk[first+(2*r+2)]! with
       |true=>
        have y2:eE dk ((first:Int)+(r:Int)) ((first:Int)+(2*(r:Int)+1+1)) true:=eE.of l2 (by omega) (by omega);rw[l2,if_neg (by decide),dif_pos c2]at gJ;have gJ:=aj.mk gJ;clear l2
        go_wp2_with (first|(go_at_call 153;refine(kJ _ _).mono ?_;rintro e w2 ⟨rfl,hb⟩;have jb:=aK.mk hb;clear hb))
        refine⟨⟨2*r+2,swp dk (first+r) (first+(2*r+2)),by first|rfl|(congr 1;omega),⟨by omega⟩,⟨so_cast (D':=swp dk (first+r) (first+(2*r+2))) inferInstance (by first|rfl|(congr 1<;>omega))⟩,inferInstance,inferInstance,gJ⟩,by simp[intOf];omega⟩
       |false=>
        have y2:eE dk ((first:Int)+(r:Int)) ((first:Int)+(2*(r:Int)+1+1)) false:=eE.of l2 (by omega) (by omega);rw[l2,if_pos (by decide)]at gJ;have gJ:=aj.mk gJ;clear l2
        go_wp2_with (first|(go_at_call 153;refine(kJ _ _).mono ?_;rintro e w2 ⟨rfl,hb⟩;have jb:=aK.mk hb;clear hb))
        ((try simp only[Exit.inBlock,Exit.then]);refine bodyPost_ret (results_none rfl _ _ _) rfl ?_)
        exact⟨rfl,so_cast inferInstance gJ.out,Fr.out⟩
      |false=>
       have y1:eE dk ((first:Int)+(2*(r:Int)+1)) ((first:Int)+(2*(r:Int)+1)+1) false:=eE.of l1 (by omega) (by omega);rw[l1,Bool.and_false,if_neg (by decide)]at gJ;clear l1;cases l2:aQ dk[first+r]! dk[first+(2*r+1)]! with
       |true=>
        have y2:eE dk ((first:Int)+(r:Int)) ((first:Int)+(2*(r:Int)+1)) true:=eE.of l2 (by omega) (by omega);rw[l2,if_neg (by decide)]at gJ;have gJ:=aj.mk gJ;clear l2
        go_wp2_with (first|(go_at_call 153;refine(kJ _ _).mono ?_;rintro e w2 ⟨rfl,hb⟩;have jb:=aK.mk hb;clear hb))
        refine⟨⟨2*r+1,swp dk (first+r) (first+(2*r+1)),by first|rfl|(congr 1;omega),⟨by omega⟩,⟨so_cast (D':=swp dk (first+r) (first+(2*r+1))) inferInstance (by first|rfl|(congr 1<;>omega))⟩,inferInstance,inferInstance,gJ⟩,by simp[intOf];omega⟩
       |false=>
        have y2:eE dk ((first:Int)+(r:Int)) ((first:Int)+(2*(r:Int)+1)) false:=eE.of l2 (by omega) (by omega);rw[l2,if_pos (by decide)]at gJ;have gJ:=aj.mk gJ;clear l2
        go_wp2_with (first|(go_at_call 153;refine(kJ _ _).mono ?_;rintro e w2 ⟨rfl,hb⟩;have jb:=aK.mk hb;clear hb))
        ((try simp only[Exit.inBlock,Exit.then]);refine bodyPost_ret (results_none rfl _ _ _) rfl ?_)
        exact⟨rfl,so_cast inferInstance gJ.out,Fr.out⟩
    · have d2:decide (2*(r:Int)+1+1<(hi:Int))=false:=decide_eq_false (by omega);rw[decide_eq_false c2,Bool.false_and,if_neg (by decide)]at gJ;cases l2:aQ dk[first+r]! dk[first+(2*r+1)]! with
      |true=>
       have y2:eE dk ((first:Int)+(r:Int)) ((first:Int)+(2*(r:Int)+1)) true:=eE.of l2 (by omega) (by omega);rw[l2,if_neg (by decide)]at gJ;have gJ:=aj.mk gJ;clear l2
       go_wp2_with (first|(go_at_call 153;refine(kJ _ _).mono ?_;rintro e w2 ⟨rfl,hb⟩;have jb:=aK.mk hb;clear hb))
       refine⟨⟨2*r+1,swp dk (first+r) (first+(2*r+1)),by first|rfl|(congr 1;omega),⟨by omega⟩,⟨so_cast (D':=swp dk (first+r) (first+(2*r+1))) inferInstance (by first|rfl|(congr 1<;>omega))⟩,inferInstance,inferInstance,gJ⟩,by simp[intOf];omega⟩
      |false=>
       have y2:eE dk ((first:Int)+(r:Int)) ((first:Int)+(2*(r:Int)+1)) false:=eE.of l2 (by omega) (by omega);rw[l2,if_pos (by decide)]at gJ;have gJ:=aj.mk gJ;clear l2
       go_wp2_with (first|(go_at_call 153;refine(kJ _ _).mono ?_;rintro e w2 ⟨rfl,hb⟩;have jb:=aK.mk hb;clear hb))
       ((try simp only[Exit.inBlock,Exit.then]);refine bodyPost_ret (results_none rfl _ _ _) rfl ?_)
       exact⟨rfl,so_cast inferInstance gJ.out,Fr.out⟩
theorem V' {C:fU} {W:World} {D:Array E} [gQ C] [h:So C W D] (lo' hi' first':Int) (lo hi first:Nat) (e1:lo'=lo) (e2:hi'=hi) (e3:first'=first) (hf:first+hi≤C.n) (hlo:lo≤C.n):
    Calls Tryz.prog 199 #[n9 C,.int .i64 lo',.int .i64 hi',.int .i64 first'] W fun e w'=>e= .returned (.tuple #[])∧eo C w' (siftDown aQ hi first lo D)∧W.grownBy w' (some C.g):=by
  subst e1 e2 e3;exact aik C W D h.out lo hi first hf hlo
set_option maxHeartbeats 8000000 in
set_option maxRecDepth 100000 in
set_option synthInstance.maxHeartbeats 400000 in
set_option synthInstance.maxSize 100000 in
theorem ad3 (C:fU) [gQ C] (w:World) (D:Array E) (h:eo C w D) (a b:Nat) (hab:a≤b) (hb:b≤C.n):
    Calls Tryz.prog 192 #[n9 C,.int .i64 a,.int .i64 b] w fun e w'=>e= .returned (.tuple #[])∧eo C w' (heapSort aQ D a b)∧w.grownBy w' (some C.g):=by
  have j0:=So.mk h;have hsm:=gQ.small (C:=C);have jx:iL w.heap.size C.g:=⟨Nat.ne_of_gt h.lt⟩;clear h;have hu:=Tryz.underlying184
  have hq:Int.tdiv ((b:Int)-(a:Int)-1) 2=(((b-a-1)/2:Nat):Int):=by
    by_cases h0:b-a=0
    · rw[h0,show(b:Int)-(a:Int)-1= -1 by omega];decide
    · rw[show(b:Int)-(a:Int)-1=((b-a-1:Nat):Int)by omega];rfl
  go_enter Tryz.func192,Tryz.ntmps192;go_wp2
  go_loopw [9] (fun v wr=>∃(k:Nat) (z:Int) (dk:Array E),v= .int .i64 z∧aj (z=(k:Int)-1)∧aj (k≤(b-a-1)/2+1)∧So C wr dk∧Fr C w wr∧a7 wr w.heap.size (gv C) 184∧aj (heapBuild aQ (b-a) a k dk=heapBuild aQ (b-a) a ((b-a-1)/2+1) D)) (fun v _=>(intOf v+1).toNat)
  case atStart=>
    refine⟨(b-a-1)/2+1,_,D,rfl,⟨?_⟩,⟨Nat.le_refl _⟩,inferInstance,inferInstance,⟨mC w _⟩,⟨rfl⟩⟩;omega
  case round=>
    clear j0;obtain⟨k,z,dk,rfl,HZ,HK,j1,j2,j3,HO⟩:=hrel;have hz:=HZ.out;have hk:=HK.out;cases k with
    |succ m=>
     obtain rfl:z=(m:Int):=(by omega);have d1:decide (0≤(m:Int))=true:=decide_eq_true (by omega);clear hq hz
     go_wp2_with (first|(go_at_call 199;refine(V' _ _ _ m (b-a) a rfl (by omega) rfl (by omega) (by omega)).mono ?_;rintro e w2 ⟨rfl,hs,hg⟩;have k1:=So.mk hs;have k2:=Gb.mk hg;clear hs hg))
     exact⟨⟨m,_,_,rfl,⟨rfl⟩,⟨by omega⟩,k1,inferInstance,inferInstance,⟨HO.out⟩⟩,by simp[intOf]⟩
    |zero=>
     obtain rfl:z= -1:=(by omega);have ho:dk=heapBuild aQ (b-a) a ((b-a-1)/2+1) D:=HO.out;clear hq hz HO;go_wp2
     go_loopw [10] (fun v wr=>∃(k:Nat) (z:Int) (dj:Array E),v= .int .i64 z∧aj (z=(k:Int)-1)∧aj (k≤b-a)∧So C wr dj∧Fr C w wr∧a7 wr w.heap.size (gv C) 184∧aj (heapPop aQ a k dj=heapSort aQ D a b)) (fun v _=>(intOf v+1).toNat)
     case atStart=>exact⟨b-a,_,dk,rfl,⟨by omega⟩,⟨Nat.le_refl _⟩,j1,j2,j3,⟨by rw[ho];rfl⟩⟩
     case round=>
       clear j1 j2 j3 HZ HK ho hk;obtain⟨k,z,dj,rfl,HZ,HK,j1,j2,j3,HO⟩:=hrel;have hz:=HZ.out;have hk:=HK.out;cases k with
       |succ m=>
        obtain rfl:z=(m:Int):=(by omega);have d1:decide (0≤(m:Int))=true:=decide_eq_true (by omega);have x1:Ix (a:Int) C.n:=⟨by omega,by omega⟩;have x2:Ix ((a:Int)+(m:Int)) C.n:=⟨by omega,by omega⟩;clear hz
        go_wp2_with (first|(go_at_call 199;refine(V' _ _ _ 0 m a rfl rfl rfl (by omega) (by omega)).mono ?_;rintro e w2 ⟨rfl,hs,hg⟩;have k1:=So.mk hs;have k2:=Gb.mk hg;clear hs hg))
        refine⟨⟨m,_,_,rfl,⟨rfl⟩,⟨by omega⟩,⟨so_cast (D':=siftDown aQ m a 0 (swp dj a (a+m))) k1 (by first|rfl|(congr 2<;>omega))⟩,inferInstance,inferInstance,⟨HO.out⟩⟩,by simp[intOf]⟩
       |zero=>
        obtain rfl:z= -1:=(by omega);have ho:dj=heapSort aQ D a b:=HO.out;clear hz;go_wp2
        go_end0
        exact⟨rfl,so_cast j1 ho,Fr.out⟩
class Fx (x:outParam Nat) (w0 W:World):Prop where out:w0.grownBy W (some x)
class Gx (x:outParam Nat) (w:outParam World) (W:World):Prop where out:w.grownBy W (some x)
section
variable {C:fU} {w w0 W:World} {D:Array E} {o:Obj} {n x y i:Nat} {v:Value} {cs:Array Value} {t:TypeId}
instance [h:Fx x w W]:Fx x w (W.alloc o):=⟨pC h.out (qx (dB (RowKit.Below.refl _ _) o))⟩
instance [h:Fx x w W]:Fx x w W.drew:=⟨pC h.out (qx (fC (RowKit.Below.refl _ _)))⟩
instance [h:Fx x w W]:Fx x w (W.drewN n):=⟨pC h.out (qx (pw_below_drewN (RowKit.Below.refl _ _) n))⟩
instance [b:aK w W] [h:Fx x w0 w]:Fx x w0 W:=⟨pC h.out (qx b.out)⟩
instance [b:Gx x w W] [h:Fx x w0 w]:Fx x w0 W:=⟨pC h.out b.out⟩
instance [h:Fx x w W]:Fx x w (W.setCell ⟨x,i,none⟩ v):=⟨pC h.out ⟨rfl,rfl,rfl,by simp,fun k _ hk=>Below.heap_setCell W ⟨x,i,none⟩ v k (fun e=>hk (by rw[e]))⟩⟩
instance [b:Gx x w W] [h:a7 w y cs t] [l:iL y x]:a7 W y cs t:=⟨(b.out.block y (iD h.out) (fun e=>l.out (Option.some.inj e))).trans h.out⟩
instance [b:Gx x w W] [h:From w0 w] [l:Nw w0 x]:From w0 W:=⟨h.out.grown b.out h.out.size (fun k hk=>by cases hk;exact l.out)⟩
end
set_option maxHeartbeats 8000000 in
set_option maxRecDepth 100000 in
set_option synthInstance.maxHeartbeats 400000 in
set_option synthInstance.maxSize 100000 in
theorem agT (C:fU) [gQ C] (w:World) (D:Array E) (h:eo C w D) (a b:Int) (ha:Ix a C.n) (hb:Ix b C.n) (x:Nat) (s:Int) (hs:0≤s) (hs2:s≤100) (hx:w.heap[x]? =some (.cells #[.int .i64 s] 3 (0,0))) (hg:x≠C.g) (hbs:x≠C.bs):
    Calls Tryz.prog 204 #[n9 C,.int .i64 a,.int .i64 b,.pointer (some ⟨x,0,none⟩)] w fun e w'=>∃r1 r2 s':Int,e= .returned (.tuple #[.int .i64 r1,.int .i64 r2])∧((r1=a∧r2=b)∨(r1=b∧r2=a))∧0≤s'∧s'≤s+1∧eo C w' D∧w'.heap[x]? =some (.cells #[.int .i64 s'] 3 (0,0))∧w.grownBy w' (some x):=by
  have j0:=So.mk h;have hxl:x<w.heap.size:=iD hx;have jn:iL w.heap.size x:=⟨by omega⟩;have jn2:iL x w.heap.size:=⟨by omega⟩;have jg:iL x C.g:=⟨hg⟩;have jb:iL x C.bs:=⟨hbs⟩;have jx:=a7.mk hx;have jf:Fx x w w:=⟨qx (RowKit.Below.refl _ _)⟩;have jy:=fun o:Obj=>mC w o;clear h hx hg hbs hxl;have hu:=Tryz.underlying184;cases l:aQ D[b.toNat]! D[a.toNat]! with
  |true=>
   have y1:eE D b a true:=⟨l⟩;clear l;go_enter Tryz.func204,Tryz.ntmps204
   go_wp2_with (first|(go_at_call 153;refine(kJ _ _).mono ?_;rintro e w2 ⟨rfl,hb⟩;have jb:=aK.mk hb;clear hb))
   go_ret2;exact⟨b,a,s+1,rfl,.inr ⟨rfl,rfl⟩,by omega,by omega,So.out,a7.out,Fx.out⟩
  |false=>
   have y1:eE D b a false:=⟨l⟩;clear l;go_enter Tryz.func204,Tryz.ntmps204
   go_wp2_with (first|(go_at_call 153;refine(kJ _ _).mono ?_;rintro e w2 ⟨rfl,hb⟩;have jb:=aK.mk hb;clear hb))
   go_ret2;exact⟨a,b,s,rfl,.inl ⟨rfl,rfl⟩,by omega,by omega,So.out,a7.out,Fx.out⟩
theorem afr {r1 r2 a b:Int} {n:Nat} (h:(r1=a∧r2=b)∨(r1=b∧r2=a)) (ha:Ix a n) (hb:Ix b n):Ix r1 n∧Ix r2 n:=by
  rcases h with ⟨rfl,rfl⟩|⟨rfl,rfl⟩
  · exact⟨ha,hb⟩
  · exact⟨hb,ha⟩
set_option maxHeartbeats 8000000 in
set_option maxRecDepth 100000 in
set_option synthInstance.maxHeartbeats 400000 in
set_option synthInstance.maxSize 100000 in
theorem agd (C:fU) [gQ C] (w:World) (D:Array E) (h:eo C w D) (a b c:Int) (ha:Ix a C.n) (hb:Ix b C.n) (hc:Ix c C.n) (x:Nat) (s:Int) (hs:0≤s) (hs2:s≤90) (hx:w.heap[x]? =some (.cells #[.int .i64 s] 3 (0,0))) (hg:x≠C.g) (hbs:x≠C.bs):
    Calls Tryz.prog 203 #[n9 C,.int .i64 a,.int .i64 b,.int .i64 c,.pointer (some ⟨x,0,none⟩)] w fun e w'=>∃r s':Int,e= .returned (.int .i64 r)∧(r=a∨r=b∨r=c)∧eo C w' D∧w'.heap[x]? =some (.cells #[.int .i64 s'] 3 (0,0))∧w.grownBy w' (some x):=by
  have j0:=So.mk h;have hxl:x<w.heap.size:=iD hx;have jn2:iL w.heap.size x:=⟨by omega⟩;have jx:=a7.mk hx;have jf:Fx x w w:=⟨qx (RowKit.Below.refl _ _)⟩;have jy:=a7.mk (mC w (.cells (gv C) 184));have jx2:a7 (w.alloc (.cells (gv C) 184)) x #[.int .i64 s] 3:=⟨bC hx _⟩;clear h hx hxl;have hu:=Tryz.underlying184;go_enter Tryz.func203,Tryz.ntmps203
  go_wp2_with (first|(go_at_call 204;refine(agT C _ _ So.out _ _ inferInstance inferInstance x _ (by omega) (by omega) a7.out hg hbs).mono ?_;rintro e w2 ⟨r1,r2,s2,rfl,hr,h1,h2,h3,h4,h5⟩;obtain⟨i1,i2⟩:=afr (n:=C.n) hr inferInstance inferInstance;have k1:=So.mk h3;have k2:=a7.mk h4;have k3:=Gx.mk h5;clear h3 h4 h5))
  go_ret;refine⟨_,_,rfl,?_,So.out,a7.out,Fx.out⟩;omega
set_option maxHeartbeats 8000000 in
set_option maxRecDepth 100000 in
set_option synthInstance.maxHeartbeats 400000 in
set_option synthInstance.maxSize 100000 in
theorem ab8 (C:fU) [gQ C] (w:World) (D:Array E) (h:eo C w D) (a b:Nat) (hab:a<b) (hb:b≤C.n):
    Calls Tryz.prog 194 #[n9 C,.int .i64 a,.int .i64 b] w fun e w'=>∃p k:Int,e= .returned (.tuple #[.int .i64 p,.int .i64 k])∧a≤p∧p<b∧(k=0∨k=1∨k=2)∧RowKit.Below w.heap.size w w':=by
  have j0:=So.mk h;have hgl:=h.lt;have hbl:=h.Cz;have hsm:=gQ.small (C:=C);obtain⟨q,hq⟩:∃q:Int,Int.tdiv ((b:Int)-(a:Int)) 4=q:=⟨_,rfl⟩
  have hq1:0≤q∧4*q≤(b:Int)-a:=by
    rw[←hq,show(b:Int)-(a:Int)=((b-a:Nat):Int)by omega];have:Int.tdiv (((b-a:Nat)):Int) 4=(((b-a)/4:Nat):Int):=rfl;rw[this];omega
  have jy:=a7.mk (mC w (.cells (gv C) 184));have jx:a7 ((w.alloc (.cells (gv C) 184)).alloc (.cells #[.int .i64 0] 3)) (w.heap.size+1) #[.int .i64 0] 3:=⟨by have:=mC (w.alloc (.cells (gv C) 184)) (.cells #[.int .i64 0] 3);simpa using this⟩;have jn:Nw w (w.heap.size+1):=⟨by omega⟩;have hu:=Tryz.underlying184;have d2:decide (50≤(b:Int)-(a:Int))=false:=decide_eq_false (by omega);by_cases h8:8≤(b:Int)-(a:Int)
  · have d1:decide (8≤(b:Int)-(a:Int))=true:=decide_eq_true h8;have x1:Ix ((a:Int)+q) C.n:=⟨by omega,by omega⟩;have x2:Ix ((a:Int)+q*2) C.n:=⟨by omega,by omega⟩;have x3:Ix ((a:Int)+q*3) C.n:=⟨by omega,by omega⟩;go_enter Tryz.func194,Tryz.ntmps194
    go_wp2_with (first|(go_at_call 203;refine(agd C _ _ So.out _ _ _ inferInstance inferInstance inferInstance (w.heap.size+1) _ (by omega) (by omega) a7.out (by omega) (by omega)).mono ?_;rintro e w2 ⟨r,s2,rfl,hr,h3,h4,h5⟩;have k1:=So.mk h3;have k2:=a7.mk h4;have k3:=Gx.mk h5;clear h3 h4 h5))
    all_goals go_ret2
    all_goals exact⟨_,_,rfl,by omega,by omega,by omega,From.out⟩
  · have d1:decide (8≤(b:Int)-(a:Int))=false:=decide_eq_false h8;go_enter Tryz.func194,Tryz.ntmps194;go_wp2
    all_goals go_ret2
    all_goals exact⟨_,_,rfl,by omega,by omega,by omega,From.out⟩
end Go.Proofs.YtnjfiaekdcekgaaGreatDoor.S
