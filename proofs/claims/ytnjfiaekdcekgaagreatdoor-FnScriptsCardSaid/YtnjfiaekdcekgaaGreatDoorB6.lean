/- What functions of the program come to (f), that their calls come to just this (calls), and the plain laws over lists and numbers, and the law FnScripts: for every argument it answers true. No condition but those of the given row. -/
import Derived.Test.YtnjfiaekdcekgaaGreatDoorRows
import Derived.Test.YtnjfiaekdcekgaaGreatDoorB5
import Derived.Lib.AtoiTie
import Derived.WalkKit
import Derived.ProofKit
import Derived.OpenShut
import Derived.ShutString
import Derived.ChangeOld
import Derived.Below
import Derived.SizedLaws
import Derived.Test.YtnjfiaekdcekgaaGreatDoorTie
import Derived.Test.YtnjfiaekdcekgaaGreatDoorCards
import GoSem.PinnedTables
import Derived.SevenTiedAt
import Derived.Stop.Joined
import Derived.Stop.LaidErr
import Derived.LaidLaws
import Derived.LaidMore
import Derived.LaidHandle
import Derived.MakeChecks
set_option linter.unusedVariables false
set_option linter.unusedSimpArgs false
namespace Go.Proofs.YtnjfiaekdcekgaaGreatDoor.P
set_option maxHeartbeats 8000000
set_option maxRecDepth 100000
open Go.RowKit Go.Proofs.YtnjfiaekdcekgaaGreatDoorW.bS Go.Proofs.YtnjfiaekdcekgaaGreatDoorW.dU Go.Proofs.YtnjfiaekdcekgaaGreatDoorW.dX Go.Proofs.YtnjfiaekdcekgaaGreatDoor.V
attribute [local go_sem] fV fW
attribute [local go_sem] fE fI fH fL fG fK fF fJ
def mL.l0:Nat→Bool→List ByteArray→Bool→List Int→List ByteArray→Int→List (ar)→Int→List Int→Int→Int→List (S64)→Option (Bool)
 |0,_,_,_,_,_,_,_,_,_,_,_,_=>none
 |k+1,x6,x7,x8,OM,Jt,Ju,Xa,Xb,Xc,Xd,Xe,Xf=>if Ju<(OM.length:Int)then(if 0≤Ju then((impl_FormatInt.f (rd OM Ju)).bind fun BA=>(if Jt.length<8796093022208 then(mL.l0 k x6 x7 x8 OM (Jt++[BA]) (wrap64 (Ju+1)) Xa Xb Xc Xd Xe Xf)else(none)))else(none))else((gK.f k Xa Xb Xc Xd Xe Xf).bind fun uZ=>(if Jt.length+uZ.length<8796093022208 then(if x6=true then(if x8=true then((mM.f k x7 (Jt++uZ)).bind fun Fy=>(some Fy))else(some false))else(some false))else(none)))
def mL.f (k:Nat) (l0:List Int):Option (Bool):=(wy.f l0).bind fun t1753=>(if t1753=true then(some true)else((wH.f k l0).bind fun CC=>((impl_ScriptText.f k CC.2.2.2.2.2.2).bind fun CD=>((fq.f k CD.1).bind fun CE=>((sX.f k).bind fun py=>((impl_RunActs.f k py.1 py.2.1 py.2.2.1 py.2.2.2.1 py.2.2.2.2.1 py.2.2.2.2.2 CC.2.2.2.2.2.2).bind fun n4=>(mL.l0 k CD.2 CE.1 CE.2 n4.2.2.2.2.2.2 (([]:List ByteArray)) 0 n4.1 n4.2.1 n4.2.2.1 n4.2.2.2.1 n4.2.2.2.2.1 n4.2.2.2.2.2.1)))))))
theorem mL.calls (k:Nat) (A0:Option Addr) (c0:Nat) (l0:List Int) (r:Bool) (w:World) (cd:Kd.C (Kd.int .u8) w A0 l0.length l0) (hc0:l0.length≤c0) (h:mL.f k l0=some r) (Ud:aj (r=true)) (ht_:aj (TabE w)):
  Calls Tryz.prog 4 #[.slice A0 l0.length c0] w fun e w'=>e= .returned (.bool r)∧Below w.heap.size w w':=by
 have kp:=Tryz.underlying30;have dI:=A_ cd;have nh:=A_ hc0;clear cd hc0;have HB:=A_ (Below.refl w.heap.size w);have H:((wy.f l0).bind fun t1753=>(if t1753=true then(some true)else((wH.f k l0).bind fun CC=>((impl_ScriptText.f k CC.2.2.2.2.2.2).bind fun CD=>((fq.f k CD.1).bind fun CE=>((sX.f k).bind fun py=>((impl_RunActs.f k py.1 py.2.1 py.2.2.1 py.2.2.2.1 py.2.2.2.2.1 py.2.2.2.2.2 CC.2.2.2.2.2.2).bind fun n4=>(mL.l0 k CD.2 CE.1 CE.2 n4.2.2.2.2.2.2 (([]:List ByteArray)) 0 n4.1 n4.2.1 n4.2.2.1 n4.2.2.2.1 n4.2.2.2.2.1 n4.2.2.2.2.2.1))))))))=some r:=h;clear h;replace H:=Option.bind_eq_some_iff.mp H;obtain⟨t1753,fh,H⟩:=H
 (try dsimp only at H)
 have A2:=A_ fh;clear fh;by_cases c3:t1753=true
 ·subst c3;rw[if_pos rfl]at H;obtain rfl:=Option.some.inj H;go_enter Tryz.func4,Tryz.ntmps4
  go_wp2_with (first|((with_reducible refine bT (f:=6) rfl ?_);refine gL (some 14) Tryz.func6 #[.slice A0 l0.length c0] ?_;(with_reducible refine(wy.calls _ _ l0 true _ ?bG ?bH A2.out).mono ?_);(case bG=>repeat(first|exact dI.out|(with_reducible refine Kd.gP ?_ _)|(with_reducible refine Kd.gX ?_ _)|(with_reducible refine Kd.gW ?_)));(case bH=>exact nh.out);rintro e w' ⟨rfl,⟨nd,rfl⟩⟩;refine⟨_,rfl,?_⟩))
  go_ret;exact⟨eR,oB HB⟩
 ·replace c3:=Bool.eq_false_iff.mpr c3;subst c3;rw[if_neg (show¬(false=true)by decide)]at H;replace H:=Option.bind_eq_some_iff.mp H;obtain⟨⟨mX,pQ,nJ,sj,tA,qO,Bw⟩,mn,H⟩:=H
  (try dsimp only at H)
  have A4:=A_ mn;clear mn;replace H:=Option.bind_eq_some_iff.mp H;obtain⟨⟨N_,Bx⟩,k9,H⟩:=H
  (try dsimp only at H)
  have A5:=A_ k9;clear k9;replace H:=Option.bind_eq_some_iff.mp H;obtain⟨⟨zt,Bz⟩,oy,H⟩:=H
  (try dsimp only at H)
  have A6:=A_ oy;clear oy;replace H:=Option.bind_eq_some_iff.mp H;obtain⟨⟨Oa,Ob,Oc,Od,Oe,Og⟩,mo,H⟩:=H
  (try dsimp only at H)
  have A7:=A_ mo;clear mo;replace H:=Option.bind_eq_some_iff.mp H;obtain⟨⟨iI,jT,iV,kB,t1796,t1797,sk⟩,qX,H⟩:=H
  (try dsimp only at H)
  have A8:=A_ qX;clear qX;obtain⟨XG,Ex⟩:∃y_:List ByteArray,y_=(([]:List ByteArray)):=⟨_,rfl⟩;replace H:(mL.l0 k Bx zt Bz sk XG 0 iI jT iV kB t1796 t1797)=some r:=by first|(rw[Ex];with_reducible exact H)|(have aI:=(Option.bind_some _ _).symm.trans H;rw[Ex];with_reducible exact aI)|(have aI:=(Option.bind_some _ _).symm.trans H;with_reducible exact aI)|with_reducible exact H|(rw[Ex];exact H)|exact H
  have Q3:=A_ Ex;clear Ex;have H':=A_ H;clear H;go_enter Tryz.func4,Tryz.ntmps4
  go_wp2_with (first|((with_reducible refine bT (f:=6) rfl ?_);refine gL (some 14) Tryz.func6 #[.slice A0 l0.length c0] ?_;(with_reducible refine(wy.calls _ _ l0 false _ ?bG ?bH A2.out).mono ?_);(case bG=>repeat(first|exact dI.out|(with_reducible refine Kd.gP ?_ _)|(with_reducible refine Kd.gX ?_ _)|(with_reducible refine Kd.gW ?_)));(case bH=>exact nh.out);rintro e w' ⟨rfl,⟨nd,rfl⟩⟩;refine⟨_,rfl,?_⟩)|((with_reducible refine bT (f:=7) rfl ?_);refine gL (some 17) Tryz.func7 #[.slice A0 l0.length c0] ?_;(with_reducible refine(wH.calls k _ _ l0 mX pQ nJ sj tA qO Bw _ ?bG ?bH A4.out).mono ?_);(case bG=>repeat(first|exact dI.out|(with_reducible refine Kd.gP ?_ _)|(with_reducible refine Kd.gX ?_ _)|(with_reducible refine Kd.gW ?_)));(case bH=>exact nh.out);rintro e w9 ⟨asp,asq,asr,ass,rfl,ho0,aY,bB,ko,hb⟩;refine⟨_,rfl,?_⟩;have ah:=A_ (Kd.dr ho0 (bn (oB HB)));have ai:=A_ (Kd.dr aY (bn (oB HB)));have ay:=A_ (Kd.dr bB (bn (oB HB)));have aG:=A_ (Kd.dr ko (bn (oB HB)));have bD:=A_ (bz (oB HB) hb);clear HB;have jK:=ah;have HO1760:=ai;have jL:=ay;have HO1768:=aG;have HB:=bD;clear ah ai ay aG bD;(try clear hb);(try clear hb2);(try clear hk);(try clear hi);(try clear ho0);(try clear aY);(try clear bB);(try clear ko))|((with_reducible refine gate_dst (N:=3) rfl ?_);refine bX (N:=3) (cs:= #[.slice none 0 0,.int .i64 0,.slice none 0 0,.int .i64 0,.int .i64 0,.slice none 0 0]) (t:=30) ?_;intro gg hg lJ cj hb;have ah:=A_ (Kd.bh (oR jK) hb);have ai:=A_ (Kd.bh (oR HO1760) hb);have ay:=A_ (Kd.bh (oR jL) hb);have aG:=A_ (Kd.bh (oR HO1768) hb);have bD:=A_ (bz (oB HB) hb);have n5_:=A_ (cj);have dm:=A_ ((by rw[hg];exact(bn (oB HB)):w.heap.size≤gg));have eh:=A_ ((by rw[hg];exact(bn (oB HB)):w.heap.size≤gg));clear jK;clear HO1760;clear jL;clear HO1768;clear HB;have jK:=ah;have HO1760:=ai;have jL:=ay;have HO1768:=aG;have HB:=bD;have dT:=n5_;have alw:=dm;have ali:=eh;clear ah ai ay aG bD n5_ dm eh;clear hb cj hg;obtain⟨mq,co11,CS⟩:=Kd.dp jK.out;subst CS;have C3:=cz dT 0;have C4:=cz dT 1;have H4:=cz dT 2;have H6:=cz dT 3;have Tm:=cz dT 4;have Tn:=cz dT 5;have C_:=aJ dT.out 0;have Da:=aJ dT.out 1;have Ie:=aJ dT.out 2;have Ig:=aJ dT.out 3;have TM:=aJ dT.out 4;have TN:=aJ dT.out 5;obtain⟨ke,co13,AH⟩:=Kd.dp HO1760.out;subst AH;obtain⟨sK,oI,eo14⟩:=Kd.dp jL.out;subst eo14;obtain⟨JJ,Hs,Lz⟩:=Kd.dp HO1768.out;subst Lz)|((with_reducible refine bT (f:=15) rfl ?_);refine gL (some 22) Tryz.func15 #[.slice JJ Bw.length Hs] ?_;(with_reducible refine(impl_ScriptText.calls k _ _ Bw N_ Bx _ ?bG ?bH A5.out ?sideT).mono ?_);(case sideT=>exact⟨mY ht_.out.1 (oB HB)⟩);(case bG=>refine(Kd.ct (e:=57) (base:=w.heap.size) (ok:=fun k_=>True) (n:=Bw.length) (c:=Hs) ?_).2.2;exact(by(with_reducible repeat(first|apply Kd.bY|apply Kd.R_drewN|apply Kd.R_drew));exact(Kd.bN (Kd.aM (p:=⟨gg,5,none⟩) (Kd.aM (p:=⟨gg,4,none⟩) (Kd.aM (p:=⟨gg,3,none⟩) (Kd.aM (p:=⟨gg,2,none⟩) (Kd.aM (p:=⟨gg,1,none⟩) (Kd.aM (p:=⟨gg,0,none⟩) (Kd.fN HO1768.out dT.out (by decide)) (fun _ hk=>hk.2) (.slice mq mX.length co11)) (fun _ hk=>hk.2) (.int .i64 pQ)) (fun _ hk=>hk.2) (.slice ke nJ.length co13)) (fun _ hk=>hk.2) (.int .i64 sj)) (fun _ hk=>hk.2) (.int .i64 tA)) (fun _ hk=>hk.2) (.slice sK qO.length oI)) (fun _ h_=>h_.1))));(case bH=>exact(Kd.ct HO1768.out).2.1);rintro e l5 ⟨rfl,hb⟩;refine⟨_,rfl,?_⟩;have ah:=A_ (Kd.bh (by(with_reducible repeat(first|apply Kd.bY|apply Kd.R_drewN|apply Kd.R_drew));exact(Kd.bN (Kd.aM (p:=⟨gg,5,none⟩) (Kd.aM (p:=⟨gg,4,none⟩) (Kd.aM (p:=⟨gg,3,none⟩) (Kd.aM (p:=⟨gg,2,none⟩) (Kd.aM (p:=⟨gg,1,none⟩) (Kd.aM (p:=⟨gg,0,none⟩) (Kd.fN jK.out dT.out (by decide)) (fun _ hk=>hk.2) (.slice mq mX.length co11)) (fun _ hk=>hk.2) (.int .i64 pQ)) (fun _ hk=>hk.2) (.slice ke nJ.length co13)) (fun _ hk=>hk.2) (.int .i64 sj)) (fun _ hk=>hk.2) (.int .i64 tA)) (fun _ hk=>hk.2) (.slice sK qO.length oI)) (fun _ h_=>h_.1))) hb);have ai:=A_ (Kd.bh (by(with_reducible repeat(first|apply Kd.bY|apply Kd.R_drewN|apply Kd.R_drew));exact(Kd.bN (Kd.aM (p:=⟨gg,5,none⟩) (Kd.aM (p:=⟨gg,4,none⟩) (Kd.aM (p:=⟨gg,3,none⟩) (Kd.aM (p:=⟨gg,2,none⟩) (Kd.aM (p:=⟨gg,1,none⟩) (Kd.aM (p:=⟨gg,0,none⟩) (Kd.fN HO1760.out dT.out (by decide)) (fun _ hk=>hk.2) (.slice mq mX.length co11)) (fun _ hk=>hk.2) (.int .i64 pQ)) (fun _ hk=>hk.2) (.slice ke nJ.length co13)) (fun _ hk=>hk.2) (.int .i64 sj)) (fun _ hk=>hk.2) (.int .i64 tA)) (fun _ hk=>hk.2) (.slice sK qO.length oI)) (fun _ h_=>h_.1))) hb);have ay:=A_ (Kd.bh (by(with_reducible repeat(first|apply Kd.bY|apply Kd.R_drewN|apply Kd.R_drew));exact(Kd.bN (Kd.aM (p:=⟨gg,5,none⟩) (Kd.aM (p:=⟨gg,4,none⟩) (Kd.aM (p:=⟨gg,3,none⟩) (Kd.aM (p:=⟨gg,2,none⟩) (Kd.aM (p:=⟨gg,1,none⟩) (Kd.aM (p:=⟨gg,0,none⟩) (Kd.fN jL.out dT.out (by decide)) (fun _ hk=>hk.2) (.slice mq mX.length co11)) (fun _ hk=>hk.2) (.int .i64 pQ)) (fun _ hk=>hk.2) (.slice ke nJ.length co13)) (fun _ hk=>hk.2) (.int .i64 sj)) (fun _ hk=>hk.2) (.int .i64 tA)) (fun _ hk=>hk.2) (.slice sK qO.length oI)) (fun _ h_=>h_.1))) hb);have aG:=A_ (Kd.bh (by(with_reducible repeat(first|apply Kd.bY|apply Kd.R_drewN|apply Kd.R_drew));exact(Kd.bN (Kd.aM (p:=⟨gg,5,none⟩) (Kd.aM (p:=⟨gg,4,none⟩) (Kd.aM (p:=⟨gg,3,none⟩) (Kd.aM (p:=⟨gg,2,none⟩) (Kd.aM (p:=⟨gg,1,none⟩) (Kd.aM (p:=⟨gg,0,none⟩) (Kd.fN HO1768.out dT.out (by decide)) (fun _ hk=>hk.2) (.slice mq mX.length co11)) (fun _ hk=>hk.2) (.int .i64 pQ)) (fun _ hk=>hk.2) (.slice ke nJ.length co13)) (fun _ hk=>hk.2) (.int .i64 sj)) (fun _ hk=>hk.2) (.int .i64 tA)) (fun _ hk=>hk.2) (.slice sK qO.length oI)) (fun _ h_=>h_.1))) hb);have bD:=A_ (oG (g:=gg) (o:= .cells #[.slice mq mX.length co11,.int .i64 pQ,.slice ke nJ.length co13,.int .i64 sj,.int .i64 tA,.slice sK qO.length oI] 30 (0,0)) (by(with_reducible repeat(first|refine bP ?_ _|refine bF ?_|refine bC ?_ _));refine di (cs:= #[.slice mq mX.length co11,.int .i64 pQ,.slice ke nJ.length co13,.int .i64 sj,.int .i64 tA,.slice none 0 0]) ?_ 5 _ rfl;(with_reducible repeat(first|refine bP ?_ _|refine bF ?_|refine bC ?_ _));refine di (cs:= #[.slice mq mX.length co11,.int .i64 pQ,.slice ke nJ.length co13,.int .i64 sj,.int .i64 0,.slice none 0 0]) ?_ 4 _ rfl;(with_reducible repeat(first|refine bP ?_ _|refine bF ?_|refine bC ?_ _));refine di (cs:= #[.slice mq mX.length co11,.int .i64 pQ,.slice ke nJ.length co13,.int .i64 0,.int .i64 0,.slice none 0 0]) ?_ 3 _ rfl;(with_reducible repeat(first|refine bP ?_ _|refine bF ?_|refine bC ?_ _));refine di (cs:= #[.slice mq mX.length co11,.int .i64 pQ,.slice none 0 0,.int .i64 0,.int .i64 0,.slice none 0 0]) ?_ 2 _ rfl;(with_reducible repeat(first|refine bP ?_ _|refine bF ?_|refine bC ?_ _));refine di (cs:= #[.slice mq mX.length co11,.int .i64 0,.slice none 0 0,.int .i64 0,.int .i64 0,.slice none 0 0]) ?_ 1 _ rfl;(with_reducible repeat(first|refine bP ?_ _|refine bF ?_|refine bC ?_ _));refine di (cs:= #[.slice none 0 0,.int .i64 0,.slice none 0 0,.int .i64 0,.int .i64 0,.slice none 0 0]) ?_ 0 _ rfl;(with_reducible repeat(first|refine bP ?_ _|refine bF ?_|refine bC ?_ _));exact dT.out) hb);have n5_:=A_ (bz (oB HB) hb);clear jK;clear HO1760;clear jL;clear HO1768;clear dT;clear HB;have jK:=ah;have HO1760:=ai;have jL:=ay;have HO1768:=aG;have dT:=bD;have HB:=n5_;clear ah ai ay aG bD n5_;(try clear hb);(try clear hb2);(try clear hk);(try clear hi))|((with_reducible refine bT (f:=16) rfl ?_);refine gL (some 27) Tryz.func16 #[.string N_] ?_;(with_reducible refine(fq.calls k N_ zt Bz _ A6.out ?sideT).mono ?_);(case sideT=>exact⟨Oo ht_.out (oB HB)⟩);rintro e Jl ⟨FX,rfl,ho0,hb⟩;refine⟨_,rfl,?_⟩;have ah:=A_ (Kd.bh (oR jK) hb);have ai:=A_ (Kd.bh (oR HO1760) hb);have ay:=A_ (Kd.bh (oR jL) hb);have aG:=A_ (Kd.bh (oR HO1768) hb);have bD:=A_ (Kd.dr ho0 (bn (oB HB)));have n5_:=A_ (bb dT hb);have dm:=A_ (bz (oB HB) hb);clear jK;clear HO1760;clear jL;clear HO1768;clear dT;clear HB;have jK:=ah;have HO1760:=ai;have jL:=ay;have HO1768:=aG;have oC:=bD;have dT:=n5_;have HB:=dm;clear ah ai ay aG bD n5_ dm;(try clear hb);(try clear hb2);(try clear hk);(try clear hi);(try clear ho0))|((with_reducible refine bT (f:=17) rfl ?_);refine gL (some 31) Tryz.func17 #[] ?_;(with_reducible refine(sX.calls k  Oa Ob Oc Od Oe Og _ A7.out).mono ?_);rintro e FZ ⟨ast,asu,asv,rfl,ho0,aY,bB,hb⟩;refine⟨_,rfl,?_⟩;have ah:=A_ (Kd.iA (oR jK) (Kd.fT ho0) hb);have ai:=A_ (Kd.iA (oR HO1760) (Kd.fT aY) hb);have ay:=A_ (Kd.iA (oR jL) (Kd.fT bB) hb);have aG:=A_ (Kd.bh (oR HO1768) hb);have bD:=A_ (Kd.bh (oR oC) hb);have n5_:=A_ (Kd.dr (Kd.ki ho0 (Kd.gY (oR jK))) (bn (oB HB)));have dm:=A_ (Kd.dr (Kd.ki aY (Kd.gY (oR HO1760))) (bn (oB HB)));have eh:=A_ (Kd.dr (Kd.ki bB (Kd.gY (oR jL))) (bn (oB HB)));have gl:=A_ (bb dT hb);have gT:=A_ (bz (oB HB) hb);clear jK;clear HO1760;clear jL;clear HO1768;clear oC;clear dT;clear HB;have jK:=ah;have HO1760:=ai;have jL:=ay;have HO1768:=aG;have oC:=bD;have HO1778:=n5_;have HO1782:=dm;have pc:=eh;have dT:=gl;have HB:=gT;clear ah ai ay aG bD n5_ dm eh gl gT;(try clear hb);(try clear hb2);(try clear hk);(try clear hi);(try clear ho0);(try clear aY);(try clear bB);obtain⟨X7,acd,acK⟩:=Kd.dp HO1778.out;subst acK;obtain⟨Gz,Hu,eo20⟩:=Kd.dp HO1782.out;subst eo20;obtain⟨PO,co21,LB⟩:=Kd.dp pc.out;subst LB)|((with_reducible refine bT (f:=9) rfl ?_);refine gL (some 33) Tryz.func9 #[.agg #[.slice X7 Oa.length acd,.int .i64 Ob,.slice Gz Oc.length Hu,.int .i64 Od,.int .i64 Oe,.slice PO Og.length co21],.slice JJ Bw.length Hs] ?_;(with_reducible refine(impl_RunActs.calls k _ _ Oa Ob _ _ Oc Od Oe _ _ Og _ _ Bw iI jT iV kB t1796 t1797 sk _ ?bG ?bH ?iF ?iG ?mS ?oo ?NV ?NW A8.out).mono ?_);(case bG=>repeat(first|exact(Kd.ct HO1778.out).2.2|(with_reducible refine Kd.gP ?_ _)|(with_reducible refine Kd.gX ?_ _)|(with_reducible refine Kd.gW ?_)));(case bH=>exact(Kd.ct HO1778.out).2.1);(case iF=>repeat(first|exact(Kd.ct HO1782.out).2.2|(with_reducible refine Kd.gP ?_ _)|(with_reducible refine Kd.gX ?_ _)|(with_reducible refine Kd.gW ?_)));(case iG=>exact(Kd.ct HO1782.out).2.1);(case mS=>repeat(first|exact(Kd.ct pc.out).2.2|(with_reducible refine Kd.gP ?_ _)|(with_reducible refine Kd.gX ?_ _)|(with_reducible refine Kd.gW ?_)));(case oo=>exact(Kd.ct pc.out).2.1);(case NV=>repeat(first|exact(Kd.ct HO1768.out).2.2|(with_reducible refine Kd.gP ?_ _)|(with_reducible refine Kd.gX ?_ _)|(with_reducible refine Kd.gW ?_)));(case NW=>exact(Kd.ct HO1768.out).2.1);rintro e w22 ⟨asw,asx,asy,OD,rfl,ho0,aY,bB,ko,hb⟩;refine⟨_,rfl,?_⟩;have ah:=A_ (Kd.iA (oR jK) (Kd.fT ho0) hb);have ai:=A_ (Kd.bN (Kd.R_told (Kd.R_told (Kd.Ko (oR HO1760) hb) (Kd.fT aY)) (Kd.fT ko)) (fun _ h_=>h_.1));have ay:=A_ (Kd.iA (oR jL) (Kd.fT bB) hb);have aG:=A_ (Kd.bh (oR HO1768) hb);have bD:=A_ (Kd.bh (oR oC) hb);have n5_:=A_ (Kd.iA (oR HO1778) (Kd.fT ho0) hb);have dm:=A_ (Kd.bN (Kd.R_told (Kd.R_told (Kd.Ko (oR HO1782) hb) (Kd.fT aY)) (Kd.fT ko)) (fun _ h_=>h_.1));have eh:=A_ (Kd.iA (oR pc) (Kd.fT bB) hb);have gl:=A_ (Kd.dr (Kd.ki (Kd.ki ho0 (Kd.gY (oR jK))) (Kd.gY (oR HO1778))) (bn (oB HB)));have gT:=A_ (Kd.dr (Kd.ki (Kd.ki aY (Kd.gY (oR HO1760))) (Kd.gY (oR HO1782))) (bn (oB HB)));have n10_:=A_ (Kd.dr (Kd.ki (Kd.ki bB (Kd.gY (oR jL))) (Kd.gY (oR pc))) (bn (oB HB)));have jC:=A_ (Kd.dr (Kd.ki (Kd.ki ko (Kd.gY (oR HO1760))) (Kd.gY (oR HO1782))) (bn (oB HB)));have mN:=A_ (bb dT hb);have wz:=A_ (bz (oB HB) hb);clear jK;clear HO1760;clear jL;clear HO1768;clear oC;clear HO1778;clear HO1782;clear pc;clear dT;clear HB;have jK:=ah;have HO1760:=ai;have jL:=ay;have HO1768:=aG;have oC:=bD;have HO1778:=n5_;have HO1782:=dm;have pc:=eh;have vD:=gl;have vE:=gT;have vF:=n10_;have xj:=jC;have dT:=mN;have HB:=wz;clear ah ai ay aG bD n5_ dm eh gl gT n10_ jC mN wz;(try clear hb);(try clear hb2);(try clear hk);(try clear hi);(try clear ho0);(try clear aY);(try clear bB);(try clear ko))|((with_reducible refine gate_dst (N:=9) rfl ?_);refine bX (N:=9) (cs:= #[.slice none 0 0,.int .i64 0,.slice none 0 0,.int .i64 0,.int .i64 0,.slice none 0 0]) (t:=30) ?_;intro cL hg F0 cj hb;have ah:=A_ (Kd.bh (oR jK) hb);have ai:=A_ (Kd.bh (oR HO1760) hb);have ay:=A_ (Kd.bh (oR jL) hb);have aG:=A_ (Kd.bh (oR HO1768) hb);have bD:=A_ (Kd.bh (oR oC) hb);have n5_:=A_ (Kd.bh (oR HO1778) hb);have dm:=A_ (Kd.bh (oR HO1782) hb);have eh:=A_ (Kd.bh (oR pc) hb);have gl:=A_ (Kd.bh (oR vD) hb);have gT:=A_ (Kd.bh (oR vE) hb);have n10_:=A_ (Kd.bh (oR vF) hb);have jC:=A_ (Kd.bh (oR xj) hb);have mN:=A_ (bb dT hb);have wz:=A_ (bz (oB HB) hb);have E4:=A_ (cj);have E5:=A_ ((by rw[hg];exact(bn (oB HB)):w.heap.size≤cL));have U_:=A_ ((by rw[hg];exact(bn (oB HB)):w.heap.size≤cL));have U':=A_ (nL dT hg);have Va:=A_ (nG dT hg);clear jK;clear HO1760;clear jL;clear HO1768;clear oC;clear HO1778;clear HO1782;clear pc;clear vD;clear vE;clear vF;clear xj;clear dT;clear HB;have jK:=ah;have HO1760:=ai;have jL:=ay;have HO1768:=aG;have oC:=bD;have HO1778:=n5_;have HO1782:=dm;have pc:=eh;have vD:=gl;have vE:=gT;have vF:=n10_;have xj:=jC;have dT:=mN;have HB:=wz;have dH:=E4;have alx:=E5;have alj:=U_;have vI:=U';have QH:=Va;clear ah ai ay aG bD n5_ dm eh gl gT n10_ jC mN wz E4 E5 U_ U' Va;clear hb cj hg;obtain⟨jo,co24,eo24⟩:=Kd.dp vD.out;subst eo24;have aqj:=QH.out;have aqp:=vI.out;have H7:=cz dH 0;have H8:=cz dH 1;have hcz26_2:=cz dH 2;have H_:=cz dH 3;have adC:=cz dH 4;have adD:=cz dH 5;have Ih:=aJ dH.out 0;have Ii:=aJ dH.out 1;have Ij:=aJ dH.out 2;have Ik:=aJ dH.out 3;have aeh:=aJ dH.out 4;have aei:=aJ dH.out 5;obtain⟨jW,co27,LC⟩:=Kd.dp vE.out;subst LC;obtain⟨Ao28,kG,AJ⟩:=Kd.dp vF.out;subst AJ)|((with_reducible refine gate_dst (N:=36) rfl ?_);refine Kd.iB Kd.string _ 9 ?hg (N:=36) ?hd (xs:=([]:List ByteArray)) (inner:=[]) (ok:=fun _=>True) (cU:=fun _=>True) ?hr ?hp (fun _ hk=>hk) trivial (Below.refl _ _) (Nat.le_refl _) (by simp) ?_;(case hd=>rfl);(case hg=>rfl);(case hr=>first|(go_simp;done)|(go_simp;rfl));(case hp=>exact(bf.none _ _));intro asz WR qz hb cT dx;clear cT dx;(first|rw[←Q3.out]at qz|(simp only[Int.reduceToNat]at qz;rw[←Q3.out]at qz));have ah:=A_ (Kd.bh (by(with_reducible repeat(first|apply Kd.bY|apply Kd.R_drewN|apply Kd.R_drew));exact(Kd.bN (Kd.aM (p:=⟨cL,5,none⟩) (Kd.aM (p:=⟨cL,4,none⟩) (Kd.aM (p:=⟨cL,3,none⟩) (Kd.aM (p:=⟨cL,2,none⟩) (Kd.aM (p:=⟨cL,1,none⟩) (Kd.aM (p:=⟨cL,0,none⟩) (Kd.fN jK.out dH.out (by decide)) (fun _ hk=>hk.2) (.slice jo iI.length co24)) (fun _ hk=>hk.2) (.int .i64 jT)) (fun _ hk=>hk.2) (.slice jW iV.length co27)) (fun _ hk=>hk.2) (.int .i64 kB)) (fun _ hk=>hk.2) (.int .i64 t1796)) (fun _ hk=>hk.2) (.slice Ao28 t1797.length kG)) (fun _ h_=>h_.1))) hb);have ai:=A_ (Kd.bh (by(with_reducible repeat(first|apply Kd.bY|apply Kd.R_drewN|apply Kd.R_drew));exact(Kd.bN (Kd.aM (p:=⟨cL,5,none⟩) (Kd.aM (p:=⟨cL,4,none⟩) (Kd.aM (p:=⟨cL,3,none⟩) (Kd.aM (p:=⟨cL,2,none⟩) (Kd.aM (p:=⟨cL,1,none⟩) (Kd.aM (p:=⟨cL,0,none⟩) (Kd.fN HO1760.out dH.out (by decide)) (fun _ hk=>hk.2) (.slice jo iI.length co24)) (fun _ hk=>hk.2) (.int .i64 jT)) (fun _ hk=>hk.2) (.slice jW iV.length co27)) (fun _ hk=>hk.2) (.int .i64 kB)) (fun _ hk=>hk.2) (.int .i64 t1796)) (fun _ hk=>hk.2) (.slice Ao28 t1797.length kG)) (fun _ h_=>h_.1))) hb);have ay:=A_ (Kd.bh (by(with_reducible repeat(first|apply Kd.bY|apply Kd.R_drewN|apply Kd.R_drew));exact(Kd.bN (Kd.aM (p:=⟨cL,5,none⟩) (Kd.aM (p:=⟨cL,4,none⟩) (Kd.aM (p:=⟨cL,3,none⟩) (Kd.aM (p:=⟨cL,2,none⟩) (Kd.aM (p:=⟨cL,1,none⟩) (Kd.aM (p:=⟨cL,0,none⟩) (Kd.fN jL.out dH.out (by decide)) (fun _ hk=>hk.2) (.slice jo iI.length co24)) (fun _ hk=>hk.2) (.int .i64 jT)) (fun _ hk=>hk.2) (.slice jW iV.length co27)) (fun _ hk=>hk.2) (.int .i64 kB)) (fun _ hk=>hk.2) (.int .i64 t1796)) (fun _ hk=>hk.2) (.slice Ao28 t1797.length kG)) (fun _ h_=>h_.1))) hb);have aG:=A_ (Kd.bh (by(with_reducible repeat(first|apply Kd.bY|apply Kd.R_drewN|apply Kd.R_drew));exact(Kd.bN (Kd.aM (p:=⟨cL,5,none⟩) (Kd.aM (p:=⟨cL,4,none⟩) (Kd.aM (p:=⟨cL,3,none⟩) (Kd.aM (p:=⟨cL,2,none⟩) (Kd.aM (p:=⟨cL,1,none⟩) (Kd.aM (p:=⟨cL,0,none⟩) (Kd.fN HO1768.out dH.out (by decide)) (fun _ hk=>hk.2) (.slice jo iI.length co24)) (fun _ hk=>hk.2) (.int .i64 jT)) (fun _ hk=>hk.2) (.slice jW iV.length co27)) (fun _ hk=>hk.2) (.int .i64 kB)) (fun _ hk=>hk.2) (.int .i64 t1796)) (fun _ hk=>hk.2) (.slice Ao28 t1797.length kG)) (fun _ h_=>h_.1))) hb);have bD:=A_ (Kd.iA (by(with_reducible repeat(first|apply Kd.bY|apply Kd.R_drewN|apply Kd.R_drew));exact(Kd.bN (Kd.aM (p:=⟨cL,5,none⟩) (Kd.aM (p:=⟨cL,4,none⟩) (Kd.aM (p:=⟨cL,3,none⟩) (Kd.aM (p:=⟨cL,2,none⟩) (Kd.aM (p:=⟨cL,1,none⟩) (Kd.aM (p:=⟨cL,0,none⟩) (Kd.fN oC.out dH.out (by decide)) (fun _ hk=>hk.2) (.slice jo iI.length co24)) (fun _ hk=>hk.2) (.int .i64 jT)) (fun _ hk=>hk.2) (.slice jW iV.length co27)) (fun _ hk=>hk.2) (.int .i64 kB)) (fun _ hk=>hk.2) (.int .i64 t1796)) (fun _ hk=>hk.2) (.slice Ao28 t1797.length kG)) (fun _ h_=>h_.1))) (Kd.fT qz) hb);have n5_:=A_ (Kd.bh (by(with_reducible repeat(first|apply Kd.bY|apply Kd.R_drewN|apply Kd.R_drew));exact(Kd.bN (Kd.aM (p:=⟨cL,5,none⟩) (Kd.aM (p:=⟨cL,4,none⟩) (Kd.aM (p:=⟨cL,3,none⟩) (Kd.aM (p:=⟨cL,2,none⟩) (Kd.aM (p:=⟨cL,1,none⟩) (Kd.aM (p:=⟨cL,0,none⟩) (Kd.fN HO1778.out dH.out (by decide)) (fun _ hk=>hk.2) (.slice jo iI.length co24)) (fun _ hk=>hk.2) (.int .i64 jT)) (fun _ hk=>hk.2) (.slice jW iV.length co27)) (fun _ hk=>hk.2) (.int .i64 kB)) (fun _ hk=>hk.2) (.int .i64 t1796)) (fun _ hk=>hk.2) (.slice Ao28 t1797.length kG)) (fun _ h_=>h_.1))) hb);have dm:=A_ (Kd.bh (by(with_reducible repeat(first|apply Kd.bY|apply Kd.R_drewN|apply Kd.R_drew));exact(Kd.bN (Kd.aM (p:=⟨cL,5,none⟩) (Kd.aM (p:=⟨cL,4,none⟩) (Kd.aM (p:=⟨cL,3,none⟩) (Kd.aM (p:=⟨cL,2,none⟩) (Kd.aM (p:=⟨cL,1,none⟩) (Kd.aM (p:=⟨cL,0,none⟩) (Kd.fN HO1782.out dH.out (by decide)) (fun _ hk=>hk.2) (.slice jo iI.length co24)) (fun _ hk=>hk.2) (.int .i64 jT)) (fun _ hk=>hk.2) (.slice jW iV.length co27)) (fun _ hk=>hk.2) (.int .i64 kB)) (fun _ hk=>hk.2) (.int .i64 t1796)) (fun _ hk=>hk.2) (.slice Ao28 t1797.length kG)) (fun _ h_=>h_.1))) hb);have eh:=A_ (Kd.bh (by(with_reducible repeat(first|apply Kd.bY|apply Kd.R_drewN|apply Kd.R_drew));exact(Kd.bN (Kd.aM (p:=⟨cL,5,none⟩) (Kd.aM (p:=⟨cL,4,none⟩) (Kd.aM (p:=⟨cL,3,none⟩) (Kd.aM (p:=⟨cL,2,none⟩) (Kd.aM (p:=⟨cL,1,none⟩) (Kd.aM (p:=⟨cL,0,none⟩) (Kd.fN pc.out dH.out (by decide)) (fun _ hk=>hk.2) (.slice jo iI.length co24)) (fun _ hk=>hk.2) (.int .i64 jT)) (fun _ hk=>hk.2) (.slice jW iV.length co27)) (fun _ hk=>hk.2) (.int .i64 kB)) (fun _ hk=>hk.2) (.int .i64 t1796)) (fun _ hk=>hk.2) (.slice Ao28 t1797.length kG)) (fun _ h_=>h_.1))) hb);have gl:=A_ (Kd.bh (by(with_reducible repeat(first|apply Kd.bY|apply Kd.R_drewN|apply Kd.R_drew));exact(Kd.bN (Kd.aM (p:=⟨cL,5,none⟩) (Kd.aM (p:=⟨cL,4,none⟩) (Kd.aM (p:=⟨cL,3,none⟩) (Kd.aM (p:=⟨cL,2,none⟩) (Kd.aM (p:=⟨cL,1,none⟩) (Kd.aM (p:=⟨cL,0,none⟩) (Kd.fN vD.out dH.out (by decide)) (fun _ hk=>hk.2) (.slice jo iI.length co24)) (fun _ hk=>hk.2) (.int .i64 jT)) (fun _ hk=>hk.2) (.slice jW iV.length co27)) (fun _ hk=>hk.2) (.int .i64 kB)) (fun _ hk=>hk.2) (.int .i64 t1796)) (fun _ hk=>hk.2) (.slice Ao28 t1797.length kG)) (fun _ h_=>h_.1))) hb);have gT:=A_ (Kd.bh (by(with_reducible repeat(first|apply Kd.bY|apply Kd.R_drewN|apply Kd.R_drew));exact(Kd.bN (Kd.aM (p:=⟨cL,5,none⟩) (Kd.aM (p:=⟨cL,4,none⟩) (Kd.aM (p:=⟨cL,3,none⟩) (Kd.aM (p:=⟨cL,2,none⟩) (Kd.aM (p:=⟨cL,1,none⟩) (Kd.aM (p:=⟨cL,0,none⟩) (Kd.fN vE.out dH.out (by decide)) (fun _ hk=>hk.2) (.slice jo iI.length co24)) (fun _ hk=>hk.2) (.int .i64 jT)) (fun _ hk=>hk.2) (.slice jW iV.length co27)) (fun _ hk=>hk.2) (.int .i64 kB)) (fun _ hk=>hk.2) (.int .i64 t1796)) (fun _ hk=>hk.2) (.slice Ao28 t1797.length kG)) (fun _ h_=>h_.1))) hb);have n10_:=A_ (Kd.bh (by(with_reducible repeat(first|apply Kd.bY|apply Kd.R_drewN|apply Kd.R_drew));exact(Kd.bN (Kd.aM (p:=⟨cL,5,none⟩) (Kd.aM (p:=⟨cL,4,none⟩) (Kd.aM (p:=⟨cL,3,none⟩) (Kd.aM (p:=⟨cL,2,none⟩) (Kd.aM (p:=⟨cL,1,none⟩) (Kd.aM (p:=⟨cL,0,none⟩) (Kd.fN vF.out dH.out (by decide)) (fun _ hk=>hk.2) (.slice jo iI.length co24)) (fun _ hk=>hk.2) (.int .i64 jT)) (fun _ hk=>hk.2) (.slice jW iV.length co27)) (fun _ hk=>hk.2) (.int .i64 kB)) (fun _ hk=>hk.2) (.int .i64 t1796)) (fun _ hk=>hk.2) (.slice Ao28 t1797.length kG)) (fun _ h_=>h_.1))) hb);have jC:=A_ (Kd.bh (by(with_reducible repeat(first|apply Kd.bY|apply Kd.R_drewN|apply Kd.R_drew));exact(Kd.bN (Kd.aM (p:=⟨cL,5,none⟩) (Kd.aM (p:=⟨cL,4,none⟩) (Kd.aM (p:=⟨cL,3,none⟩) (Kd.aM (p:=⟨cL,2,none⟩) (Kd.aM (p:=⟨cL,1,none⟩) (Kd.aM (p:=⟨cL,0,none⟩) (Kd.fN xj.out dH.out (by decide)) (fun _ hk=>hk.2) (.slice jo iI.length co24)) (fun _ hk=>hk.2) (.int .i64 jT)) (fun _ hk=>hk.2) (.slice jW iV.length co27)) (fun _ hk=>hk.2) (.int .i64 kB)) (fun _ hk=>hk.2) (.int .i64 t1796)) (fun _ hk=>hk.2) (.slice Ao28 t1797.length kG)) (fun _ h_=>h_.1))) hb);have mN:=A_ (Kd.dr (Kd.ki qz (Kd.gY (by(with_reducible repeat(first|apply Kd.bY|apply Kd.R_drewN|apply Kd.R_drew));exact(Kd.bN (Kd.aM (p:=⟨cL,5,none⟩) (Kd.aM (p:=⟨cL,4,none⟩) (Kd.aM (p:=⟨cL,3,none⟩) (Kd.aM (p:=⟨cL,2,none⟩) (Kd.aM (p:=⟨cL,1,none⟩) (Kd.aM (p:=⟨cL,0,none⟩) (Kd.fN oC.out dH.out (by decide)) (fun _ hk=>hk.2) (.slice jo iI.length co24)) (fun _ hk=>hk.2) (.int .i64 jT)) (fun _ hk=>hk.2) (.slice jW iV.length co27)) (fun _ hk=>hk.2) (.int .i64 kB)) (fun _ hk=>hk.2) (.int .i64 t1796)) (fun _ hk=>hk.2) (.slice Ao28 t1797.length kG)) (fun _ h_=>h_.1))))) (bn (oB HB)));have wz:=A_ (oG (g:=gg) (o:= .cells #[.slice mq mX.length co11,.int .i64 pQ,.slice ke nJ.length co13,.int .i64 sj,.int .i64 tA,.slice sK qO.length oI] 30 (0,0)) (by(with_reducible repeat(first|refine bP ?_ _|refine bF ?_|refine bC ?_ _));refine blk_far ?_ vI.out _;(with_reducible repeat(first|refine bP ?_ _|refine bF ?_|refine bC ?_ _));refine blk_far ?_ vI.out _;(with_reducible repeat(first|refine bP ?_ _|refine bF ?_|refine bC ?_ _));refine blk_far ?_ vI.out _;(with_reducible repeat(first|refine bP ?_ _|refine bF ?_|refine bC ?_ _));refine blk_far ?_ vI.out _;(with_reducible repeat(first|refine bP ?_ _|refine bF ?_|refine bC ?_ _));refine blk_far ?_ vI.out _;(with_reducible repeat(first|refine bP ?_ _|refine bF ?_|refine bC ?_ _));refine blk_far ?_ vI.out _;(with_reducible repeat(first|refine bP ?_ _|refine bF ?_|refine bC ?_ _));exact dT.out) hb);have E4:=A_ (oG (g:=cL) (o:= .cells #[.slice jo iI.length co24,.int .i64 jT,.slice jW iV.length co27,.int .i64 kB,.int .i64 t1796,.slice Ao28 t1797.length kG] 30 (0,0)) (by(with_reducible repeat(first|refine bP ?_ _|refine bF ?_|refine bC ?_ _));refine di (cs:= #[.slice jo iI.length co24,.int .i64 jT,.slice jW iV.length co27,.int .i64 kB,.int .i64 t1796,.slice none 0 0]) ?_ 5 _ rfl;(with_reducible repeat(first|refine bP ?_ _|refine bF ?_|refine bC ?_ _));refine di (cs:= #[.slice jo iI.length co24,.int .i64 jT,.slice jW iV.length co27,.int .i64 kB,.int .i64 0,.slice none 0 0]) ?_ 4 _ rfl;(with_reducible repeat(first|refine bP ?_ _|refine bF ?_|refine bC ?_ _));refine di (cs:= #[.slice jo iI.length co24,.int .i64 jT,.slice jW iV.length co27,.int .i64 0,.int .i64 0,.slice none 0 0]) ?_ 3 _ rfl;(with_reducible repeat(first|refine bP ?_ _|refine bF ?_|refine bC ?_ _));refine di (cs:= #[.slice jo iI.length co24,.int .i64 jT,.slice none 0 0,.int .i64 0,.int .i64 0,.slice none 0 0]) ?_ 2 _ rfl;(with_reducible repeat(first|refine bP ?_ _|refine bF ?_|refine bC ?_ _));refine di (cs:= #[.slice jo iI.length co24,.int .i64 0,.slice none 0 0,.int .i64 0,.int .i64 0,.slice none 0 0]) ?_ 1 _ rfl;(with_reducible repeat(first|refine bP ?_ _|refine bF ?_|refine bC ?_ _));refine di (cs:= #[.slice none 0 0,.int .i64 0,.slice none 0 0,.int .i64 0,.int .i64 0,.slice none 0 0]) ?_ 0 _ rfl;(with_reducible repeat(first|refine bP ?_ _|refine bF ?_|refine bC ?_ _));exact dH.out) hb);have E5:=A_ (bz (oB HB) hb);clear jK;clear HO1760;clear jL;clear HO1768;clear oC;clear HO1778;clear HO1782;clear pc;clear vD;clear vE;clear vF;clear xj;clear dT;clear dH;clear HB;have jK:=ah;have HO1760:=ai;have jL:=ay;have HO1768:=aG;have oC:=bD;have HO1778:=n5_;have HO1782:=dm;have pc:=eh;have vD:=gl;have vE:=gT;have vF:=n10_;have xj:=jC;have Zl:=mN;have dT:=wz;have dH:=E4;have HB:=E5;clear ah ai ay aG bD n5_ dm eh gl gT n10_ jC mN wz E4 E5;clear hb qz))
  go_loopg [11,12] k (fun kq v11 v12 w'=>∃(u_:List ByteArray) (ow:Int),v12= .int .i64 ow∧aj (mL.l0 kq Bx zt Bz sk u_ ow iI jT iV kB t1796 t1797=some r)∧aj (kq≤k)∧aj (Kd.R Kd.string 9 w' w.heap.size (fun k_=>some k_≠(v11:Value).ownBlock) FX zt)∧aj (Kd.R (Kd.int .i64) 3 w' w.heap.size (fun k_=>some k_≠((.slice ke nJ.length co13):Value).ownBlock∧some k_≠((.slice jW iV.length co27):Value).ownBlock) OD sk)∧aj (Kd.R Kd.string 9 w' w.heap.size (fun k_=>some k_≠(FX:Value).ownBlock) v11 u_)∧aj (Kd.R bl 110 w' w.heap.size (fun k_=>some k_≠((.slice jo iI.length co24):Value).ownBlock) (.slice mq mX.length co11) mX)∧aj (Kd.R (Kd.int .i64) 3 w' w.heap.size (fun k_=>some k_≠(OD:Value).ownBlock∧some k_≠((.slice jW iV.length co27):Value).ownBlock) (.slice ke nJ.length co13) nJ)∧aj (Kd.R k64 64 w' w.heap.size (fun k_=>some k_≠((.slice Ao28 t1797.length kG):Value).ownBlock) (.slice sK qO.length oI) qO)∧aj (Kd.R bl 110 w' w.heap.size (fun k_=>some k_≠((.slice mq mX.length co11):Value).ownBlock) (.slice jo iI.length co24) iI)∧aj (Kd.R (Kd.int .i64) 3 w' w.heap.size (fun k_=>some k_≠(OD:Value).ownBlock∧some k_≠((.slice ke nJ.length co13):Value).ownBlock) (.slice jW iV.length co27) iV)∧aj (Kd.R k64 64 w' w.heap.size (fun k_=>some k_≠((.slice sK qO.length oI):Value).ownBlock) (.slice Ao28 t1797.length kG) t1797)∧aj (w'.heap[gg]? =some (.cells #[(.slice mq mX.length co11),.int .i64 pQ,(.slice ke nJ.length co13),.int .i64 sj,.int .i64 tA,(.slice sK qO.length oI)] 30 (0,0)))∧aj (w'.heap[cL]? =some (.cells #[(.slice jo iI.length co24),.int .i64 jT,(.slice jW iV.length co27),.int .i64 kB,.int .i64 t1796,(.slice Ao28 t1797.length kG)] 30 (0,0)))∧aj (Below w.heap.size w w'))
  case atStart=>exact⟨(XG),(0),eS,H',⟨Nat.le_refl _⟩,⟨by(with_reducible repeat(first|apply Kd.bY|apply Kd.R_drewN|apply Kd.R_drew));exact Kd.bN oC.out (fun _ hk=>hk.2)⟩,⟨by(with_reducible repeat(first|apply Kd.bY|apply Kd.R_drewN|apply Kd.R_drew));exact Kd.bN xj.out (fun _ hk=>⟨hk.1.2,hk.1.1⟩)⟩,⟨by(with_reducible repeat(first|apply Kd.bY|apply Kd.R_drewN|apply Kd.R_drew));exact Kd.bN Zl.out (fun _ hk=>hk.2)⟩,⟨by(with_reducible repeat(first|apply Kd.bY|apply Kd.R_drewN|apply Kd.R_drew));exact Kd.bN jK.out (fun _ hk=>hk.2)⟩,⟨by(with_reducible repeat(first|apply Kd.bY|apply Kd.R_drewN|apply Kd.R_drew));exact Kd.bN HO1760.out (fun _ hk=>⟨hk.2,hk.1.2⟩)⟩,⟨by(with_reducible repeat(first|apply Kd.bY|apply Kd.R_drewN|apply Kd.R_drew));exact Kd.bN jL.out (fun _ hk=>hk.2)⟩,⟨by(with_reducible repeat(first|apply Kd.bY|apply Kd.R_drewN|apply Kd.R_drew));exact Kd.bN vD.out (fun _ hk=>hk.1.2)⟩,⟨by(with_reducible repeat(first|apply Kd.bY|apply Kd.R_drewN|apply Kd.R_drew));exact Kd.bN vE.out (fun _ hk=>⟨hk.1.1,hk.1.2⟩)⟩,⟨by(with_reducible repeat(first|apply Kd.bY|apply Kd.R_drewN|apply Kd.R_drew));exact Kd.bN vF.out (fun _ hk=>hk.1.2)⟩,⟨oK dT⟩,⟨oK dH⟩,⟨oB HB⟩⟩
  case round=>
   clear H'
   try clear c1
   try clear c2
   try clear p2
   try clear c3
   try clear c4
   try clear c6
   try clear c7
   try clear c9
   try clear c15
   try clear c16
   try clear c17
   try clear rH
   try clear C3
   try clear C4
   try clear H4
   try clear H6
   try clear Tm
   try clear Tn
   try clear H7
   try clear H8
   try clear hcz26_2
   try clear H_
   try clear adC
   try clear adD
   try clear C_
   try clear Da
   try clear Ie
   try clear Ig
   try clear TM
   try clear TN
   try clear Ih
   try clear Ii
   try clear Ij
   try clear Ik
   try clear aeh
   try clear aei
   obtain⟨u_,ow,rfl,HA,dh,kE,nj,iw,pd,pg,pj,nQ,nR,nS,dT,dH,HB⟩:=hrel;cases gk with
   |zero=>exact absurd HA.out (by simp[mL.l0])
   |succ k1=>
    have H:=HA.out;clear HA;simp only[mL.l0]at H;by_cases c31:ow<(sk.length:Int)
    ·rw[if_pos c31]at H;have K8:decide (ow<(sk.length:Int))=true:=decide_eq_true c31;clear c31;by_cases Ho:0≤ow
     ·rw[if_pos Ho]at H;have al_:decide (0≤ow)=true:=decide_eq_true Ho;clear Ho;replace H:=Option.bind_eq_some_iff.mp H;obtain⟨BA,PI,H⟩:=H
      (try dsimp only at H)
      have XZ:=A_ PI;clear PI;by_cases oH:u_.length<8796093022208
      ·rw[if_pos oH]at H;have ZN:=A_ oH;clear oH;obtain⟨XH,Ey⟩:∃y_:List ByteArray,y_=(u_++[BA]):=⟨_,rfl⟩;replace H:(mL.l0 k1 Bx zt Bz sk XH (wrap64 (ow+1)) iI jT iV kB t1796 t1797)=some r:=by first|(rw[Ey];with_reducible exact H)|(have aI:=(Option.bind_some _ _).symm.trans H;rw[Ey];with_reducible exact aI)|(have aI:=(Option.bind_some _ _).symm.trans H;with_reducible exact aI)|with_reducible exact H|(rw[Ey];exact H)|exact H
       have aap:=A_ Ey;clear Ey;have H':=A_ H;clear H;obtain⟨PQ,co35,LF⟩:=Kd.dp nj.out;subst LF;have Nc:0≤(ow:Int):=oD;have q1807:ow<(sk.length:Int):=oD;obtain⟨alY,acz,aqO⟩:=Kd.jZ (Kd.ct nj.out).2.2 ow Nc q1807;cases acz;replace Nc:=eq_true Nc;replace q1807:=eq_true q1807
       go_wp2_with (first|((with_reducible refine bT (f:=18) rfl ?_);refine gL (some 48) Tryz.func18 #[.int .i64 (rd sk ow)] ?_;(with_reducible refine(impl_FormatInt.calls (rd sk ow) BA _ XZ.out ?sideT).mono ?_);(case sideT=>exact⟨mY ht_.out.1 (oB HB)⟩);rintro e OG ⟨rfl,hb⟩;refine⟨_,rfl,?_⟩;have ah:=A_ (Kd.bh (oR kE) hb);have ai:=A_ (Kd.bh (oR nj) hb);have ay:=A_ (Kd.bh (oR iw) hb);have aG:=A_ (Kd.bh (oR pd) hb);have bD:=A_ (Kd.bh (oR pg) hb);have n5_:=A_ (Kd.bh (oR pj) hb);have dm:=A_ (Kd.bh (oR nQ) hb);have eh:=A_ (Kd.bh (oR nR) hb);have gl:=A_ (Kd.bh (oR nS) hb);have gT:=A_ (bb dT hb);have n10_:=A_ (bb dH hb);have jC:=A_ (bz (oB HB) hb);clear kE;clear nj;clear iw;clear pd;clear pg;clear pj;clear nQ;clear nR;clear nS;clear dT;clear dH;clear HB;have kE:=ah;have nj:=ai;have iw:=ay;have pd:=aG;have pg:=bD;have pj:=n5_;have nQ:=dm;have nR:=eh;have nS:=gl;have dT:=gT;have dH:=n10_;have HB:=jC;clear ah ai ay aG bD n5_ dm eh gl gT n10_ jC;(try clear hb);(try clear hb2);(try clear hk);(try clear hi))|((with_reducible refine jz (b:= .append) (xs:= #[.tmp 43,.tmp 49]) rfl ?_);at_builtin;refine Kd.R_append Kd.string (w0:=w) w.heap.size rfl (.tmp 43) (.tmp 49) 38 9 (.string ⟨#[]⟩) 16 rfl Tryz.underlying38 ym rfl (by decide) (by omega) u11 u_ BA [.string BA] (fun k_=>some k_≠(FX:Value).ownBlock) (fun _=>False) rfl rfl ?aP (fun _ hk=>hk.elim) ?aF ?aO ?aB ?aS ?aL ?_;(case aP=>exact rfl);(case aB=>exact(oB HB));(case aF=>exact(fun k_ hk=>Kd.fresh' (Kd.gY (oR kE)) k_ hk));(case aO=>exact(oR iw));(case aS=>exact(bn (oB HB)));(case aL=>have:=ZN.out;omega);intro asA OH ho hb hg hat;rw[←aap.out]at ho;have ah:=A_ (Kd.Cl (ok:=(fun _=>True)) (by(with_reducible repeat(first|apply Kd.bY|apply Kd.R_drewN|apply Kd.R_drew));exact Kd.bN kE.out (fun _ hk=>⟨trivial,hk⟩)) hg hat);have ai:=A_ (Kd.iM (oR nj) (Kd.iN (oR iw)) (by decide) hg);have ay:=A_ (Kd.iM (oR pd) (Kd.iN (oR iw)) (by decide) hg);have aG:=A_ (Kd.iM (oR pg) (Kd.iN (oR iw)) (by decide) hg);have bD:=A_ (Kd.iM (oR pj) (Kd.iN (oR iw)) (by decide) hg);have n5_:=A_ (Kd.iM (oR nQ) (Kd.iN (oR iw)) (by decide) hg);have dm:=A_ (Kd.iM (oR nR) (Kd.iN (oR iw)) (by decide) hg);have eh:=A_ (Kd.iM (oR nS) (Kd.iN (oR iw)) (by decide) hg);have gl:=A_ (bg dT hg (Kd.nr iw.out dT.out (by decide)));have gT:=A_ (bg dH hg (Kd.nr iw.out dH.out (by decide)));have n10_:=A_ (hb);have jC:=A_ (ho);clear kE;clear nj;clear pd;clear pg;clear pj;clear nQ;clear nR;clear nS;clear dT;clear dH;clear HB;clear iw;have kE:=ah;have nj:=ai;have pd:=ay;have pg:=aG;have pj:=bD;have nQ:=n5_;have nR:=dm;have nS:=eh;have dT:=gl;have dH:=gT;have HB:=n10_;have Zm:=jC;clear ah ai ay aG bD n5_ dm eh gl gT n10_ jC;clear ho hb hg hat))
       go_roundg k1
       case measure=>have:=dh.out;omega
       case rel=>exact⟨(XH),(wrap64 (ow+1)),eS,H',⟨by have:=dh.out;omega⟩,⟨by(with_reducible repeat(first|apply Kd.bY|apply Kd.R_drewN|apply Kd.R_drew));exact Kd.bN kE.out (fun _ hk=>hk.2)⟩,⟨oR nj⟩,⟨oR Zm⟩,⟨oR pd⟩,⟨oR pg⟩,⟨oR pj⟩,⟨oR nQ⟩,⟨oR nR⟩,⟨oR nS⟩,⟨oK dT⟩,⟨oK dH⟩,⟨oB HB⟩⟩
      ·rw[if_neg oH]at H;exact absurd H (by simp)
     ·rw[if_neg Ho]at H;exact absurd H (by simp)
    ·rw[if_neg c31]at H;have K8:decide (ow<(sk.length:Int))=false:=decide_eq_false c31;clear c31;replace H:=Option.bind_eq_some_iff.mp H;obtain⟨uZ,PK,H⟩:=H
     (try dsimp only at H)
     have X1:=A_ PK;clear PK;by_cases sR:u_.length+uZ.length<8796093022208
     ·rw[if_pos sR]at H;have ZP:=A_ sR;clear sR;obtain⟨XI,Ez⟩:∃y_:List ByteArray,y_=(u_++uZ):=⟨_,rfl⟩;replace H:(if Bx=true then(if Bz=true then((mM.f k1 zt XI).bind fun Fy=>(some Fy))else(some false))else(some false))=some r:=by first|(rw[Ez];with_reducible exact H)|(have aI:=(Option.bind_some _ _).symm.trans H;rw[Ez];with_reducible exact aI)|(have aI:=(Option.bind_some _ _).symm.trans H;with_reducible exact aI)|with_reducible exact H|(rw[Ez];exact H)|exact H
      have aaq:=A_ Ez;clear Ez;by_cases c40:Bx=true
      ·subst c40;rw[if_pos rfl]at H;by_cases pz:Bz=true
       ·subst pz;rw[if_pos rfl]at H;replace H:=Option.bind_eq_some_iff.mp H;obtain⟨Fy,PL,H⟩:=H
        (try dsimp only at H)
        have X2:=A_ PL;clear PL;obtain rfl:=Option.some.inj H;obtain⟨PR,co43,LH⟩:=Kd.dp nj.out;subst LH;have aqm:=QH.out;have aqs:=vI.out;have anA:=cz dH 0;have anB:=cz dH 1;have anC:=cz dH 2;have anD:=cz dH 3;have anE:=cz dH 4;have anF:=cz dH 5;have apg:=aJ dH.out 0;have aph:=aJ dH.out 1;have api:=aJ dH.out 2;have apj:=aJ dH.out 3;have apk:=aJ dH.out 4;have apl:=aJ dH.out 5
        go_wp2_with (first|((with_reducible refine bT (f:=12) rfl ?_);refine gL (some 53) Tryz.func12 #[.agg #[.slice jo iI.length co24,.int .i64 jT,.slice jW iV.length co27,.int .i64 kB,.int .i64 t1796,.slice Ao28 t1797.length kG]] ?_;(with_reducible refine(gK.calls k1 _ _ iI jT _ _ iV kB t1796 _ _ t1797 uZ _ ?bG ?bH ?iF ?iG ?mS ?oo X1.out ?sideT).mono ?_);(case sideT=>exact⟨mY ht_.out.1 (oB HB)⟩);(case bG=>repeat(first|exact(Kd.ct nQ.out).2.2|(with_reducible refine Kd.gP ?_ _)|(with_reducible refine Kd.gX ?_ _)|(with_reducible refine Kd.gW ?_)));(case bH=>exact(Kd.ct nQ.out).2.1);(case iF=>repeat(first|exact(Kd.ct nR.out).2.2|(with_reducible refine Kd.gP ?_ _)|(with_reducible refine Kd.gX ?_ _)|(with_reducible refine Kd.gW ?_)));(case iG=>exact(Kd.ct nR.out).2.1);(case mS=>repeat(first|exact(Kd.ct nS.out).2.2|(with_reducible refine Kd.gP ?_ _)|(with_reducible refine Kd.gX ?_ _)|(with_reducible refine Kd.gW ?_)));(case oo=>exact(Kd.ct nS.out).2.1);rintro e w46 ⟨asB,rfl,ho0,hb⟩;refine⟨_,rfl,?_⟩;have ah:=A_ (Kd.iA (oR kE) (Kd.fT ho0) hb);have ai:=A_ (Kd.bh (oR nj) hb);have ay:=A_ (Kd.iA (oR iw) (Kd.fT ho0) hb);have aG:=A_ (Kd.bh (oR pd) hb);have bD:=A_ (Kd.bh (oR pg) hb);have n5_:=A_ (Kd.bh (oR pj) hb);have dm:=A_ (Kd.bh (oR nQ) hb);have eh:=A_ (Kd.bh (oR nR) hb);have gl:=A_ (Kd.bh (oR nS) hb);have gT:=A_ (Kd.dr (Kd.ki (Kd.ki ho0 (Kd.gY (oR kE))) (Kd.gY (oR iw))) (bn (oB HB)));have n10_:=A_ (bb dT hb);have jC:=A_ (bb dH hb);have mN:=A_ (bz (oB HB) hb);clear kE;clear nj;clear iw;clear pd;clear pg;clear pj;clear nQ;clear nR;clear nS;clear dT;clear dH;clear HB;have kE:=ah;have nj:=ai;have iw:=ay;have pd:=aG;have pg:=bD;have pj:=n5_;have nQ:=dm;have nR:=eh;have nS:=gl;have zU:=gT;have dT:=n10_;have dH:=jC;have HB:=mN;clear ah ai ay aG bD n5_ dm eh gl gT n10_ jC mN;(try clear hb);(try clear hb2);(try clear hk);(try clear hi);(try clear ho0);obtain⟨PT,R8,acT⟩:=Kd.dp zU.out;subst acT)|((with_reducible refine jz (b:= .append) (xs:= #[.tmp 51,.tmp 53]) rfl ?_);at_builtin;refine Kd.xq Kd.string (w0:=w) w.heap.size rfl (.tmp 51) (.tmp 53) 38 9 (.string ⟨#[]⟩) 16 rfl Tryz.underlying38 ym rfl (by decide) (by omega) u11 u_ uZ _ _ _ (fun k_=>some k_≠(FX:Value).ownBlock∧some k_≠(.slice PT uZ.length R8:Value).ownBlock) (fun _=>False) rfl rfl ?aO ?aR (fun _ _ h=>h) (fun _ h=>h.elim) ?aF ?aB ?aS ?aL ?_;(case aR=>repeat(first|exact(Kd.ct zU.out).2.2|(with_reducible refine Kd.gP ?_ _)|(with_reducible refine Kd.gX ?_ _)|(with_reducible refine Kd.gW ?_)));(case aB=>exact(oB HB));(case aF=>exact(fun k_ hk=>⟨Kd.fresh' (Kd.gY (oR kE)) k_ hk,Kd.fresh' (Kd.gY (oR zU)) k_ hk⟩));(case aO=>exact(oR iw));(case aS=>exact(bn (oB HB)));(case aL=>have:=ZP.out;omega);intro asC w47 ho hb hg hat;rw[←aaq.out]at ho;have ah:=A_ (Kd.Cl (ok:=(fun k_=>some k_≠(.slice PT uZ.length R8:Value).ownBlock)) (by(with_reducible repeat(first|apply Kd.bY|apply Kd.R_drewN|apply Kd.R_drew));exact Kd.bN kE.out (fun _ hk=>⟨hk.2,hk.1⟩)) hg hat);have ai:=A_ (Kd.iM (oR nj) (Kd.iN (oR iw)) (by decide) hg);have ay:=A_ (Kd.iM (oR pd) (Kd.iN (oR iw)) (by decide) hg);have aG:=A_ (Kd.iM (oR pg) (Kd.iN (oR iw)) (by decide) hg);have bD:=A_ (Kd.iM (oR pj) (Kd.iN (oR iw)) (by decide) hg);have n5_:=A_ (Kd.iM (oR nQ) (Kd.iN (oR iw)) (by decide) hg);have dm:=A_ (Kd.iM (oR nR) (Kd.iN (oR iw)) (by decide) hg);have eh:=A_ (Kd.iM (oR nS) (Kd.iN (oR iw)) (by decide) hg);have gl:=A_ (bg dT hg (Kd.nr iw.out dT.out (by decide)));have gT:=A_ (bg dH hg (Kd.nr iw.out dH.out (by decide)));have n10_:=A_ (Kd.Cl (ok:=(fun k_=>some k_≠(FX:Value).ownBlock)) (by(with_reducible repeat(first|apply Kd.bY|apply Kd.R_drewN|apply Kd.R_drew));exact Kd.bN zU.out (fun _ hk=>⟨hk.1.2,hk.2⟩)) hg hat);have jC:=A_ (hb);have mN:=A_ (ho);clear kE;clear nj;clear pd;clear pg;clear pj;clear nQ;clear nR;clear nS;clear dT;clear dH;clear zU;clear HB;clear iw;have kE:=ah;have nj:=ai;have pd:=ay;have pg:=aG;have pj:=bD;have nQ:=n5_;have nR:=dm;have nS:=eh;have dT:=gl;have dH:=gT;have zU:=n10_;have HB:=jC;have JZ:=mN;clear ah ai ay aG bD n5_ dm eh gl gT n10_ jC mN;clear ho hb hg hat;obtain⟨ak8,amw,acU⟩:=Kd.dp kE.out;subst acU;obtain⟨ak9,amx,acV⟩:=Kd.dp JZ.out;subst acV)|(go_at_call 11;(with_reducible refine(mM.calls k1 _ _ zt _ _ XI Fy _ ?bG ?bH ?iF ?iG X2.out).mono ?_);(case bG=>repeat(first|exact(Kd.ct kE.out).2.2|(with_reducible refine Kd.gP ?_ _)|(with_reducible refine Kd.gX ?_ _)|(with_reducible refine Kd.gW ?_)));(case bH=>exact(Kd.ct kE.out).2.1);(case iF=>repeat(first|exact(Kd.ct JZ.out).2.2|(with_reducible refine Kd.gP ?_ _)|(with_reducible refine Kd.gX ?_ _)|(with_reducible refine Kd.gW ?_)));(case iG=>exact(Kd.ct JZ.out).2.1);rintro e w' ⟨rfl,⟨nd,rfl⟩⟩))
        go_ret;exact⟨eR,oB HB⟩
       ·replace pz:=Bool.eq_false_iff.mpr pz;subst pz;rw[if_neg (show¬(false=true)by decide)]at H;exact absurd ((Option.some.inj H).trans Ud.out) (by decide)
      ·replace c40:=Bool.eq_false_iff.mpr c40;subst c40;rw[if_neg (show¬(false=true)by decide)]at H;exact absurd ((Option.some.inj H).trans Ud.out) (by decide)
     ·rw[if_neg sR]at H;exact absurd H (by simp)
end Go.Proofs.YtnjfiaekdcekgaaGreatDoor.P
namespace Go.Proofs.YtnjfiaekdcekgaaGreatDoor.Q
open Go.RowKit Go.Proofs.YtnjfiaekdcekgaaGreatDoor.P Go.Proofs.YtnjfiaekdcekgaaGreatDoorW.bS
theorem Sd (b:UInt8):Go.Lib.digitVal b=if 48≤b.toNat∧b.toNat≤57 then some (b.toNat-48)else none:=rfl
theorem Sc (b:UInt8):∀(l:List UInt8) (acc:Nat),Go.Lib.decFrom acc (l++[b])=(Go.Lib.decFrom acc l).bind fun n=>(Go.Lib.digitVal b).map fun d=>n*10+d
  |[],acc=>by
   simp only[List.nil_append,Go.Lib.decFrom,Option.bind_some];cases Go.Lib.digitVal b<;>rfl
  |a::r,acc=>by
   simp only[List.cons_append,Go.Lib.decFrom];cases Go.Lib.digitVal a with
   |none=>rfl
   |some d=>exact Sc b r _
theorem Hy (u:Nat) (h:u<10):(UInt8.ofNat (48+u)).toNat=48+u:=by
  rw[UInt8.toNat_ofNat'];omega
theorem decFrom_dec (u:Nat):Go.Lib.decFrom 0 (Go.Lib.decDigits u)=some u:=by
  induction u using Nat.strongRecOn with
  |_ u ih=>
   rw[Go.Lib.decDigits];by_cases h:u<10
   · rw[dif_pos h];simp only[Go.Lib.decFrom,Sd,Hy u h];rw[if_pos (by omega)];simp
   · rw[dif_neg h,Sc,ih (u/10) (by omega),Option.bind_some,Sd,Hy (u%10) (by omega),if_pos (by omega)];simp only[Option.map_some,Option.some.injEq];omega
theorem Le (u:Nat):∀b∈Go.Lib.decDigits u,48≤b.toNat∧b.toNat≤57:=by
  induction u using Nat.strongRecOn with
  |_ u ih=>
   intro b hb;rw[Go.Lib.decDigits]at hb;by_cases h:u<10
   · rw[dif_pos h]at hb;obtain rfl:=List.mem_singleton.mp hb;rw[Hy u h];omega
   · rw[dif_neg h]at hb;rcases List.mem_append.mp hb with h1|h1
     · exact ih (u/10) (by omega) b h1
     · obtain rfl:=List.mem_singleton.mp h1;rw[Hy (u%10) (by omega)];omega
theorem Hx (u:Nat):Go.Lib.decDigits u≠[]:=by
  rw[Go.Lib.decDigits]
  split<;>simp
theorem IV {v:Int} (h:0≤v):num v=Go.Lib.decDigits v.toNat:=by unfold num Go.Lib.itoa;rw[if_neg (by omega)]
theorem IU {v:Int} (h:v<0):num v=45::Go.Lib.decDigits v.natAbs:=by unfold num Go.Lib.itoa;rw[if_pos h]
theorem Hw (u:Nat) (h:u≤1000000000):(Go.Lib.decDigits u).length≤10:=by
  have key:∀(m u:Nat),u<10^(m+1)→(Go.Lib.decDigits u).length≤m+1:=by
    intro m
    induction m with
    |zero=>intro u h;rw[Go.Lib.decDigits,dif_pos (by omega)];simp
    |succ m ih=>
     intro u h;rw[Go.Lib.decDigits];by_cases h1:u<10
     · rw[dif_pos h1];simp
     · rw[dif_neg h1,List.length_append,List.length_singleton];have:=ih (u/10) (by rw[Nat.pow_succ]at h;omega);omega
  exact key 9 u (by have:(10:Nat)^(9+1)=10000000000:=by decide
                    omega)
theorem agE {v:Int} (h1: -1000000000≤v) (h2:v≤1000000000):ry (txt (num v))=some v:=by
  unfold ry;rw[wU];by_cases h:v<0
  · have hl:=Hw v.natAbs (by omega);rw[IU h,Go.Lib.atoiAll_short _ (by simp;omega)]
    have e:Go.Lib.decNat (Go.Lib.decDigits v.natAbs)=some v.natAbs:=by
      unfold Go.Lib.decNat;rw[if_neg (by simp[Hx]),decFrom_dec]
    simp only[Go.Lib.atoi,e];simp[Go.Lib.NumEnd.ofOption];omega
  · have hl:=Hw v.toNat (by omega);rw[IV (by omega),Go.Lib.atoiAll_short _ (by omega)]
    have e:Go.Lib.decNat (Go.Lib.decDigits v.toNat)=some v.toNat:=by
      unfold Go.Lib.decNat;rw[if_neg (by simp[Hx]),decFrom_dec]
    cases hd:Go.Lib.decDigits v.toNat with
    |nil=>exact absurd hd (Hx _)
    |cons b r=>
     have hb:=Le v.toNat b (by rw[hd];simp);have n1:(b==45)=false:=(by rw[beq_eq_false_iff_ne];intro e;rw[e]at hb;simp at hb);have n2:(b==43)=false:=(by rw[beq_eq_false_iff_ne];intro e;rw[e]at hb;simp at hb);rw[hd]at e;simp only[Go.Lib.atoi,n1,n2,e];simp[Go.Lib.NumEnd.ofOption];omega
def ahn (s:ByteArray):Option Nat→Int×Bool
  |none=>(0,false)
  |some v=>if v≤1000000000∧num (v:Int)=s.data.toList then((v:Int),true)else(0,false)
def VF (s:ByteArray):Int×Bool:=if s.size>10 then(0,false)else ahn s (Go.Lib.decFrom 0 s.data.toList)
def afX (s:ByteArray):Int:=if s.size>1∧s.data.toList.head? =some 45 then-(VF (s.extract 1 s.size)).1 else(VF s).1
def AP (w:List UInt8):Prop:=w≠[]∧∀b∈w,b≠32
theorem NS:∀(w cur rest:List UInt8),(∀b∈w,b≠32)→scanW cur (w++rest)=scanW (cur++w) rest
  |[],cur,rest,_=>by simp
  |b::w,cur,rest,h=>by
   rw[List.cons_append,scanW,if_neg (h b (by simp)),NS w (cur++[b]) rest (fun x hx=>h x (by simp[hx]))];simp
theorem V5:∀(r:List (List UInt8)) (x:List UInt8),AP x→(∀w∈r,AP w)→scanW [] (Go.Lib.join (x::r) [32])=x::r
  |[],x,hx,_=>by
   rw[Go.Lib.join_one,←List.append_nil x,NS x [] [] hx.2,scanW];simp[hx.1]
  |y::r,x,hx,hr=>by
   have ih:=V5 r y (hr y (by simp)) (fun w hw=>hr w (by simp[hw]));rw[Go.Lib.join_cons,show Go.Lib.joinTail [32] (y::r)=32::(y++Go.Lib.joinTail [32] r)by simp[Go.Lib.joinTail],NS x [] _ hx.2,List.nil_append,scanW,if_pos rfl,if_neg hx.1,←Go.Lib.join_cons,ih]
theorem I8:∀(l cur:List UInt8),∀w∈scanW cur l,w.length≤cur.length+l.length
  |[],cur,w,hw=>by
   rw[scanW]at hw
   split at hw
   · cases hw
   · obtain rfl:=List.mem_singleton.mp hw;simp
  |b::r,cur,w,hw=>by
   rw[scanW]at hw
   split at hw
   · split at hw
     · have:=I8 r [] w hw;simp at this ⊢;omega
     · rcases List.mem_cons.mp hw with rfl|hw
       · simp;try omega
       · have:=I8 r [] w hw;simp at this ⊢;omega
   · have:=I8 r (cur++[b]) w hw;simp at this ⊢;omega
theorem agF (v:Int):AP (num v):=by
  have hd:∀u,∀b∈Go.Lib.decDigits u,b≠32:=fun u b hb e=>by
    have:=Le u b hb;rw[e]at this;simp at this
  by_cases h:v<0
  · rw[IU h];refine⟨by simp,fun b hb=> ?_⟩;rcases List.mem_cons.mp hb with rfl|hb
    · decide
    · exact hd _ b hb
  · rw[IV (by omega)];exact⟨Hx _,hd _⟩
theorem agn (n:Int):AP (nY n):=by
  unfold nY AP
  repeat' split
  all_goals decide
theorem Rn {n a b c:Int} (h:gZ n a b c=true):lN n a b c=Go.Lib.join (nY n::(mB n a b c).map num) [32]:=by
  unfold lN;rw[if_pos h,Go.Lib.join_cons]
  congr 1
  generalize mB n a b c=l
  induction l with
  |nil=>rfl
  |cons v r ih=>
   rw[List.map_cons,show Go.Lib.joinTail [32] (num v::r.map num)=32::(num v++Go.Lib.joinTail [32] (r.map num))by simp[Go.Lib.joinTail],←ih];simp[lI]
theorem afP {n:Int} (h1:1≤n) (h7:n≤7):lT (nY n)=n:=by
  have:n=1∨n=2∨n=3∨n=4∨n=5∨n=6∨n=7:=by omega
  rcases this with rfl|rfl|rfl|rfl|rfl|rfl|rfl<;>decide
def nB:List Int→Int×Int×Int
  |[]=>(0,0,0)
  |[a]=>(a,0,0)
  |[a,b]=>(a,b,0)
  |a::b::c::_=>(a,b,c)
theorem Rp {n a b c:Int} (h:gZ n a b c=true):nB (mB n a b c)=(a,b,c)∧(mB n a b c).length≤3∧∀v∈mB n a b c,-1000000000≤v∧v≤1000000000:=by
  unfold gZ at h;unfold mB;by_cases h1:n=1∨n=5∨n=6
  · rw[if_pos h1]at h;obtain⟨rfl,rfl,rfl⟩:=of_decide_eq_true h;rw[if_neg (by omega),if_neg (by omega),if_neg (by omega)];simp[nB]
  rw[if_neg h1]at h;by_cases h2:n=2
  · rw[if_pos h2]at h;obtain⟨h3,rfl,rfl⟩:=of_decide_eq_true h;rw[if_pos (Or.inl h2)];simp[nB];omega
  rw[if_neg h2]at h;by_cases h3:n=3
  · rw[if_pos h3]at h;have h4:=of_decide_eq_true h;rw[if_neg (by omega),if_pos h3];simp[nB];omega
  rw[if_neg h3]at h;by_cases h4:n=4
  · rw[if_pos h4]at h;obtain⟨h5,h6,rfl⟩:=of_decide_eq_true h;rw[if_neg (by omega),if_neg (by omega),if_pos h4];simp[nB];omega
  rw[if_neg h4]at h;by_cases h7:n=7
  · rw[if_pos h7]at h;obtain⟨h5,rfl,rfl⟩:=of_decide_eq_true h;rw[if_pos (Or.inr h7)];simp[nB];omega
  rw[if_neg h7]at h;cases h
abbrev Zp:Int×Int×Int×Int×Bool:=(0,0,0,0,false)
def wA (r:List (List UInt8)):Option (Int×Int×Int):=fO.nz 0 (r.map txt) 0 0 0
def Bl:List (List UInt8)→Int×Int×Int×Int×Bool
  |[]=>Zp
  |x::r=>match wA r with
   |none=>Zp
   |some (A,B,C)=>if gZ (lT x) A B C=true∧lN (lT x) A B C=Go.Lib.join (x::r) [32]then(lT x,A,B,C,true)else Zp
theorem ahL {x:List UInt8} {r:List (List UInt8)} (h:wA r=none):Bl (x::r)=Zp:=by simp only[Bl,h]
theorem VX {x:List UInt8} {r:List (List UInt8)} {A B C:Int} (h:wA r=some (A,B,C)):Bl (x::r)=if gZ (lT x) A B C=true∧lN (lT x) A B C=Go.Lib.join (x::r) [32]then(lT x,A,B,C,true)else Zp:=by simp only[Bl,h]
theorem abn {s:ByteArray} {v:Int} (h:ry s=some v):in64 v:=by
  unfold ry at h
  split at h
  · next x e=>obtain rfl:=Option.some.inj h;exact Go.Lib.atoiAll_bounds e
  · cases h
theorem Vj:∀(r:List ByteArray) (i:Nat) (A B C:Int),in64 A→in64 B→in64 C→∀x y z,fO.nz i r A B C=some (x,y,z)→in64 x∧in64 y∧in64 z
  |[],i,A,B,C,hA,hB,hC,x,y,z,h=>by
   rw[fO.nz]at h;simp only[Option.some.injEq,Prod.mk.injEq]at h;obtain⟨rfl,rfl,rfl⟩:=h;exact⟨hA,hB,hC⟩
  |s::r,i,A,B,C,hA,hB,hC,x,y,z,h=>by
   rw[fO.nz]at h;obtain⟨n,hn,h⟩:=Option.bind_eq_some_iff.mp h;have hi:=abn hn;refine Vj r (i+1) _ _ _ ?_ ?_ ?_ x y z h
   · split<;>assumption
   · split<;>assumption
   · split<;>assumption
theorem agH {l:List Int} (hl:l.length≤3) (h:∀v∈l,-1000000000≤v∧v≤1000000000):wA (l.map num)=some (nB l):=by
  unfold wA;have e:∀v∈l,ry (txt (num v))=some v:=fun v hv=>agE (h v hv).1 (h v hv).2;rcases l with _|⟨a,_|⟨b,_|⟨c,_|⟨d,t⟩⟩⟩⟩
  · rfl
  · simp[fO.nz,e a (by simp),nB]
  · simp[fO.nz,e a (by simp),e b (by simp),nB]
  · simp[fO.nz,e a (by simp),e b (by simp),e c (by simp),nB]
  · simp at hl
theorem afg (s:ByteArray):Ev (fun k=>fO.f k s) (if(mf s).2=true then Bl (scanW [] s.data.toList)else Zp):=by
  unfold fO.f;refine Ev.bind (Sw s) ?_;have hl:s.data.toList.length=s.size:=Array.length_toList;by_cases h0:s.size≤600∧s.data.toList.all okB=true;rotate_left
  · have e:mf s=([],false):=(by unfold mf;rw[if_neg h0]);rw[e];exact aT (by decide) (Ev.now _)
  by_cases h1:((scanW [] s.data.toList).map txt).length>24
  · have e:mf s=([],false):=(by unfold mf;rw[if_pos h0,if_pos h1]);rw[e];exact aT (by decide) (Ev.now _)
  have e:mf s=((scanW [] s.data.toList).map txt,true):=by unfold mf;rw[if_pos h0,if_neg h1]
  rw[e];refine evp rfl (df rfl ?_);have hw:=I8 s.data.toList [];generalize scanW [] s.data.toList=W at*;cases W with
  |nil=>exact Ev.now _
  |cons x r=>
   simp only[List.map_cons]
   have hsz:∀y∈txt x::r.map txt,y.size≤1000:=by
     intro y hy;rw[←List.map_cons (f:=txt)]at hy;obtain⟨w,hm,rfl⟩:=List.mem_map.mp hy;have:=hw w hm;rw[u7];simp at this;omega
   simp only[fO.rest,if_pos hsz,wU];show Ev (fun k=>fO.last k (txt x::r.map txt) (lT x) (wA r)) _;cases hn:wA r with
   |none=>rw[ahL hn];exact Ev.now _
   |some q=>
    obtain⟨A,B,C⟩:=q;rw[VX hn];obtain⟨hA,hB,hC⟩:=Vj _ 0 0 0 0 (by unfold in64;omega) (by unfold in64;omega) (by unfold in64;omega) A B C hn;show Ev (fun k=>(pE.f k (lT x) A B C).bind _) _;refine Ev.bind (Sx (lT x) A B C hA hB hC) ?_;refine um (fun ho=> ?_) (fun ho=>cq (fun hh=>ho hh.1) (Ev.now _))
    have hj:strings_Join.f (txt x::r.map txt) ⟨#[32]⟩=some (txt (Go.Lib.join (x::r) [32])):=by
      have e1:(txt x::r.map txt).map (·.data.toList)=x::r:=by
        rw[←List.map_cons (f:=txt),List.map_map]
        conv=>rhs;rw[←List.map_id (x::r)]
        exact List.map_congr_left (fun w _=>wU w)
      unfold strings_Join.f;rw[e1]
      have hlen:∀(L:List (List UInt8)),(∀w∈L,w.length≤600)→Go.Lib.lens L≤600*L.length:=by
        intro L
        induction L with
        |nil=>intro _;simp[Go.Lib.lens]
        |cons a t ih=>
         intro h;have h2:=ih (fun w hw=>h w (by simp[hw]));have h3:=h a (by simp);simp[Go.Lib.lens]at h2 ⊢;omega
      have h2:=hlen (x::r) (fun w hm=>by have:=hw w hm;simp at this;omega);have h3:=Go.Lib.join_length x r [32];simp at h1 h2 h3;rw[if_pos]
      · rfl
      · refine⟨by simp;omega,?_⟩;show(Go.Lib.join (x::r) [32]).length≤_;rw[h3];simp[Go.Lib.lens]at h2 ⊢;omega
    refine bR hj ?_;by_cases he:lN (lT x) A B C=Go.Lib.join (x::r) [32]
    · refine df ⟨ho,he⟩ ?_;rw[if_pos (by rw[he])];exact Ev.now _
    · refine cq (fun hh=>he hh.2) ?_;rw[if_neg (fun hh=>he (aj3 hh))];exact Ev.now _
theorem agL (v:Int):(num v).all okB=true:=by
  have hd:∀u,∀b∈Go.Lib.decDigits u,okB b=true:=fun u b hb=>by
    have:=Le u b hb;exact Vm (by omega) (by omega)
  rw[List.all_eq_true];intro b hb;by_cases h:v<0
  · rw[IU h]at hb;rcases List.mem_cons.mp hb with rfl|hb
    · decide
    · exact hd _ b hb
  · rw[IV (by omega)]at hb;exact hd _ b hb
theorem agK (n:Int):(nY n).all okB=true:=by
  unfold nY
  repeat' split
  all_goals decide
theorem ago (n:Int):(nY n).length≤6:=by
  unfold nY
  repeat' split
  all_goals decide
theorem agM (l:List Int):(lI l).all okB=true:=by
  induction l with
  |nil=>rfl
  |cons v r ih=>
   have e:lI (v::r)=32::(num v++lI r):=(by simp[lI]);rw[e,List.all_cons,List.all_append,agL,ih];rfl
theorem agG {v:Int} (h1: -1000000000≤v) (h2:v≤1000000000):(num v).length≤11:=by
  by_cases h:v<0
  · have:=Hw v.natAbs (by omega);rw[IU h,List.length_cons];omega
  · have:=Hw v.toNat (by omega);rw[IV (by omega)];omega
theorem WA:∀(l:List Int),(∀v∈l,-1000000000≤v∧v≤1000000000)→(lI l).length≤12*l.length
  |[],_=>by simp[lI]
  |v::r,h=>by
   have ih:=WA r (fun w hw=>h w (by simp[hw]));have hv:=agG (h v (by simp)).1 (h v (by simp)).2;have e:lI (v::r)=32::(num v++lI r):=(by simp[lI]);rw[e];simp;omega
theorem Ro {n a b c:Int} (h:gZ n a b c=true):(lN n a b c).length≤42:=by
  obtain⟨_,h2,h3⟩:=Rp h;have:=WA _ h3;have:=ago n;unfold lN;rw[if_pos h,List.length_append];omega
def mi:List UInt8→List UInt8→List (List UInt8)
  |cur,[]=>[cur]
  |cur,b::r=>if b=10 then cur::mi [] r else mi (cur++[b]) r
theorem af2 (b:UInt8) (hb:b≠10) (k:Nat) (l:List UInt8):Go.Lib.splitK [10] 0 k (b::l)=lW [b] (Go.Lib.splitK [10] 0 k l):=by
  cases k with
  |zero=>rfl
  |succ k=>
   have h1:=Go.Lib.indexByte_ge l 10
   have e:Go.Lib.index (b::l) [10]=if(Go.Lib.index l [10]== -1)=true then-1 else Go.Lib.index l [10]+1:=by
     rw[sY,sY,Go.Lib.indexByte];have:(b==10)=false:=(by simpa using hb);rw[this];simp
   rw[←sY]at h1;unfold Go.Lib.splitK;rw[e];by_cases h:Go.Lib.index l [10]= -1
   · simp[h,lW]
   · obtain⟨i,hi⟩:∃i:Nat,Go.Lib.index l [10]=i:=⟨(Go.Lib.index l [10]).toNat,by omega⟩;have n1:((i:Int)== -1)=false:=(by rw[beq_eq_false_iff_ne];omega);have n2:((i:Int)+1== -1)=false:=(by rw[beq_eq_false_iff_ne];omega);rw[hi,n1];simp only[Bool.false_eq_true,if_false,n2,lW];have n3:((i:Int)+1).toNat=i+1:=(by omega);rw[n3];simp
theorem af1 (k:Nat) (l:List UInt8):Go.Lib.splitK [10] 0 (k+1) (10::l)=[]::Go.Lib.splitK [10] 0 k l:=by
  have e:Go.Lib.index (10::l) [10]=0:=by rw[sY,Go.Lib.indexByte];simp
  rw[Go.Lib.splitK,e];simp
theorem MS:∀(l cur:List UInt8),lW cur (Go.Lib.splitK [10] 0 (l.count 10) l)=mi cur l
  |[],cur=>by simp only[List.count_nil,Go.Lib.splitK,lW,mi,List.append_nil]
  |b::r,cur=>by
   rw[mi];by_cases hb:b=10
   · subst hb;rw[if_pos rfl,List.count_cons_self,af1];have ih:=MS r [];rw[I2]at ih;rw[←ih,lW,List.append_nil]
   · rw[if_neg hb,List.count_cons_of_ne hb,af2 b hb,VC];exact MS r (cur++[b])
theorem aiw (l:List UInt8):Go.Lib.split l [10]=mi [] l:=by
  rw[Go.Lib.split,Go.Lib.count_one,←MS l [],I2]
theorem MR:∀(l cur:List UInt8),(mi cur l).length≤l.length+1
  |[],cur=>by rw[mi];simp
  |b::r,cur=>by
   rw[mi]
   split
   · have:=MR r [];simp;omega
   · have:=MR r (cur++[b]);simp;omega
theorem UZ:∀(w cur rest:List UInt8),(∀b∈w,b≠10)→mi cur (w++rest)=mi (cur++w) rest
  |[],cur,rest,_=>by simp
  |b::w,cur,rest,h=>by
   rw[List.cons_append,mi,if_neg (h b (by simp)),UZ w _ rest (fun c hc=>h c (by simp[hc]))];simp
def nC (s:ByteArray):Int×Int×Int×Int×Bool:=if(mf s).2=true then Bl (scanW [] s.data.toList)else Zp
def Cw (s:ByteArray):Prop:=(mf s).2=true∧((mf s).1.length:Int)=0
instance (s:ByteArray):Decidable (Cw s):=inferInstanceAs (Decidable (_∧_))
def ru:List (List UInt8)→List cN→Option (List cN)
  |[],acc=>some acc
  |w::r,acc=>if Cw (txt w)then ru r acc else if(nC (txt w)).2.2.2.2=true then ru r (acc++[⟨(nC (txt w)).1,(nC (txt w)).2.1,(nC (txt w)).2.2.1,(nC (txt w)).2.2.2.1⟩])else none
theorem aa5 {x:cN} (h:uV x=true):¬Cw (txt (og x))∧nC (txt (og x))=(x.f0,x.f1,x.f2,x.f3,true)∧∀b∈og x,b≠10:=by
  have h':gZ x.f0 x.f1 x.f2 x.f3=true:=h;obtain⟨p1,p2,p3⟩:=Rp h';obtain⟨k1,k7⟩:=Rm h'
  have hg:∀w∈(mB x.f0 x.f1 x.f2 x.f3).map num,AP w:=fun w hw=>by
    obtain⟨v,_,rfl⟩:=List.mem_map.mp hw;exact agF v
  have hs:scanW [] (txt (og x)).data.toList=nY x.f0::(mB x.f0 x.f1 x.f2 x.f3).map num:=by
    rw[wU];unfold og;rw[Rn h'];exact V5 _ _ (agn x.f0) hg
  have ho:(og x).all okB=true:=by
    unfold og lN;rw[if_pos h',List.all_append,agK,agM];rfl
  have hl:=Ro h'
  have hf:mf (txt (og x))=((nY x.f0::(mB x.f0 x.f1 x.f2 x.f3).map num).map txt,true):=by
    unfold mf;rw[if_pos ⟨by rw[u7];unfold og;omega,by rw[wU];exact ho⟩,hs,if_neg (by simp;omega)]
  have hn:wA ((mB x.f0 x.f1 x.f2 x.f3).map num)=some (x.f1,x.f2,x.f3):=by rw[agH p2 p3,p1]
  refine⟨?_,?_,?_⟩
  · rintro⟨_,h2⟩;rw[hf]at h2;simp at h2;omega
  · unfold nC;rw[if_pos (by rw[hf]),hs,VX hn,afP k1 k7,if_pos ⟨h',Rn h'⟩]
  · intro b hb e;subst e;have:=List.all_eq_true.mp ho 10 hb
    revert this
    decide
theorem abx:Cw (txt []):=by decide
def pR:List cN→List UInt8
  |[]=>[]
  |x::r=>og x++(10::pR r)
theorem Rq:∀(xs acc:List cN),(∀x∈xs,uV x=true)→ru (mi [] (pR xs)) acc=some (acc++xs)
  |[],acc,_=>by rw[pR,mi,ru,if_pos abx,ru,List.append_nil]
  |x::r,acc,h=>by
   obtain⟨h1,h2,h3⟩:=aa5 (h x (by simp));rw[pR,UZ _ _ _ h3,List.nil_append,mi,if_pos rfl,ru,if_neg h1,h2,if_pos rfl,Rq r _ (fun y hy=>h y (by simp[hy]))];simp
theorem V6:∀(xs:List cN) (bs:List UInt8),(∀x∈xs,uV x=true)→zm xs bs=(txt (bs++pR xs),true)
  |[],bs,_=>by rw[zm,pR,List.append_nil]
  |x::r,bs,h=>by
   rw[zm,if_pos (h x (by simp)),V6 r _ (fun y hy=>h y (by simp[hy])),pR];simp
theorem WB:∀(xs:List cN),(∀x∈xs,uV x=true)→(pR xs).length≤43*xs.length
  |[],_=>by simp[pR]
  |x::r,h=>by
   have h1:gZ x.f0 x.f1 x.f2 x.f3=true:=h x (by simp);have h2:=Ro h1;have h3:=WB r (fun y hy=>h y (by simp[hy]));have h4:(og x).length≤42:=h2;rw[pR];simp;omega
def qN (w:List UInt8):Int:=afX (txt w)
def pk (x:List UInt8) (r:List (List UInt8)) (j:Int):Prop:=gZ j (nB (r.map qN)).1 (nB (r.map qN)).2.1 (nB (r.map qN)).2.2=true∧lN j (nB (r.map qN)).1 (nB (r.map qN)).2.1 (nB (r.map qN)).2.2=Go.Lib.join (x::r) [32]
instance (x r j):Decidable (pk x r j):=by unfold pk;infer_instance
end Go.Proofs.YtnjfiaekdcekgaaGreatDoor.Q
namespace Go.Proofs.YtnjfiaekdcekgaaGreatDoor.Q
open Go.RowKit Go.Proofs.YtnjfiaekdcekgaaGreatDoor.P Go.Proofs.YtnjfiaekdcekgaaGreatDoorW.bS Go.Proofs.YtnjfiaekdcekgaaGreatDoorW.dX
def IQ (n:Int):ByteArray:=txt (num n)
def ft (xs:List cN):=om f_.1 f_.2.1 f_.2.2.1 f_.2.2.2.1 f_.2.2.2.2.1 f_.2.2.2.2.2 xs
def outT (xs:List cN):List ByteArray:=(ft xs).2.2.2.2.2.2.map IQ++Bo (ft xs).1 (ft xs).2.1 (ft xs).2.2.1 (ft xs).2.2.2.1 (ft xs).2.2.2.2.1 (ft xs).2.2.2.2.2.1
def Fi (xs:List cN):List ByteArray×Bool:=if xs.length>40 then([],false)else(outT xs,true)
def NT (o:Option (List cN)):List ByteArray×Bool:=match o with
  |none=>([],false)
  |some xs=>Fi xs
def I_ (s:ByteArray):List ByteArray×Bool:=if s.size>20000 then([],false)else NT (ru (mi [] s.data.toList) [])
theorem ah6:p9 f_.2.1 f_.2.2.1 f_.2.2.2.1 f_.2.2.2.2.1 f_.2.2.2.2.2:=by
  have z:eQ 0:=JH;unfold f_ newShop ny;dsimp only
  split
  · split
    · refine⟨z,?_,by unfold eQ;dsimp only;omega,z,by simp⟩;intro n hn;dsimp only[begun]at hn;rcases List.mem_cons.1 hn with rfl|hn
      · unfold eQ;omega
      · rw[(List.mem_replicate.1 hn).2];exact z
    · exact⟨z,by simp,by unfold eQ;dsimp only;omega,z,by simp⟩
  · exact⟨z,by simp,z,z,by simp⟩
theorem V3 (xs:List cN):(ft xs).1.length≤11∧(ft xs).2.2.1.length≤12∧(ft xs).2.2.2.2.2.1.length≤40∧(ft xs).2.2.2.2.2.2.length≤40:=by
  obtain⟨h1,h2,h3⟩:=NR;obtain⟨g1,g2,g3,g4⟩:=ahV f_.1 f_.2.1 f_.2.2.1 f_.2.2.2.1 f_.2.2.2.2.1 f_.2.2.2.2.2 xs;unfold ft;exact⟨by rw[g1];exact h1,by omega,by omega,g4⟩
theorem V_ {p:List ar} {d:Int} {q:List Int} {a m:Int} {l:List S64}:(Bo p d q a m l).length≤l.length+4:=by
  unfold Bo
  split
  · simp[headText]<;>omega
  · simp
section
variable {p:List ar} {d:Int} {q:List Int} {a m:Int} {l:List S64} (hin:p9 d q a m l) (lq:q.length≤12) (ll:l.length≤40) (r:List Int) (hr:∀n∈r,eQ n) (lr:r.length≤40)
include hin lq ll hr lr
theorem ahS:∀i,i≤r.length→Ev (fun k=>fq.l1 k ((r.take i).map IQ) r (r.length:Int) (i:Int) p d q a m l) (r.map IQ++Bo p d q a m l,true):=by
  refine down (n:=r.length) ?_ ?_
  · have F:=SB p d q a m l hin.d hin.q hin.a hin.m hin.l (by omega) (by omega);have hT:=V_ (p:=p) (d:=d) (q:=q) (a:=a) (m:=m) (l:=l);refine Ev.step (fun k=>by rw[fq.l1]) (aT (by omega) (Ev.bind F (evp ?_ (evs ?_))))
    · simp;omega
    · rw[List.take_length]
  · intro i hi ih;have hn:=hr r[i] (List.getElem_mem hi);refine Ev.step (fun k=>by rw[fq.l1]) (evp (by omega) (evp (by omega) (evp (by omega) ?_)));rw[Ff r i hi,eH (by omega) (by omega)];refine bR (LK _ hn.1 hn.2) (evp (by simp;omega) ?_);rw[List.take_succ_eq_append_getElem hi,List.map_append]at ih;exact ih
end
theorem V2 (xs:List cN):p9 (ft xs).2.1 (ft xs).2.2.1 (ft xs).2.2.2.1 (ft xs).2.2.2.2.1 (ft xs).2.2.2.2.2.1∧∀n∈(ft xs).2.2.2.2.2.2,eQ n:=ahU ah6 xs
theorem ahT (xs:List cN) (L:List ByteArray):Ev (fun k=>fq.l0 k xs L (L.length:Int) (L.length:Int)) (Fi xs):=by
  refine Ev.step (fun k=>by rw[fq.l0]) (aT (by omega) ?_);unfold Fi;refine um (fun h=>df (by omega) (Ev.now _)) (fun h=>cq (by omega) ?_);obtain⟨h1,h2,h3⟩:=NR;have R:=V1 f_.1 f_.2.1 f_.2.2.1 f_.2.2.2.1 f_.2.2.2.2.1 f_.2.2.2.2.2 xs (by omega) (by omega) (by omega);obtain⟨g1,g2,g3,g4⟩:=V3 xs;obtain⟨i1,i2⟩:=V2 xs;have K:=ahS (p:=(ft xs).1) i1 g2 g3 _ i2 g4 0 (Nat.zero_le _);exact Ev.bind V4 (Ev.bind R K)
theorem ahR (Ls:List (List UInt8)) (hL:Ls.length≤20001):∀i,i≤Ls.length→∀acc:List cN,acc.length≤i→Ev (fun k=>fq.l0 k acc (Ls.map txt) ((Ls.map txt).length:Int) (i:Int)) (NT (ru (Ls.drop i) acc)):=by
  refine down (n:=Ls.length) ?_ ?_
  · intro acc ha;rw[List.drop_length,ru];have:=ahT acc (Ls.map txt);rw[List.length_map]at this ⊢;exact this
  · intro i hi ih acc ha;have e:eG ByteArray.empty (Ls.map txt) (i:Int)=txt Ls[i]:=(by simp[eG,List.getD_eq_getElem?_getD,hi]);refine Ev.step (fun k=>by rw[fq.l0]) (evp (by simp;omega) (evp (by omega) (evp (by simp;omega) ?_)));rw[e,List.drop_eq_getElem_cons hi,ru];have P:=afg (txt Ls[i]);have hP:nC (txt Ls[i])=nC (txt Ls[i]):=rfl
    have J:¬Cw (txt Ls[i])→Ev (fun k=>fq.j1 k acc (txt Ls[i]) (Ls.map txt) ((Ls.map txt).length:Int) (i:Int) false) (NT (if(nC (txt Ls[i])).2.2.2.2=true then ru (Ls.drop (i+1)) (acc++[⟨(nC (txt Ls[i])).1,(nC (txt Ls[i])).2.1,(nC (txt Ls[i])).2.2.1,(nC (txt Ls[i])).2.2.2.1⟩])else none)):=by
      intro hb;refine Ev.step (fun k=>by rw[fq.j1]) (aT (by decide) (Ev.bind P ?_));show Ev (fun k=>if(nC (txt Ls[i])).2.2.2.2=true then _ else _) _;by_cases h:(nC (txt Ls[i])).2.2.2.2=true
      · rw[if_pos h];refine evp h (evp (by omega) ?_);rw[eH (by omega) (by omega)];exact ih _ (by simp;omega)
      · rw[if_neg h];exact aT h (Ev.now _)
    refine Ev.bind (Sw (txt Ls[i])) ?_;by_cases hf:(mf (txt Ls[i])).2=true
    · refine evp hf ?_;by_cases hb:((mf (txt Ls[i])).1.length:Int)=0
      · rw[if_pos ⟨hf,hb⟩,show(((mf (txt Ls[i])).1.length:Int)==0)=true from beq_iff_eq.2 hb];refine Ev.step (fun k=>by rw[fq.j1]) (evp rfl ?_);rw[eH (by omega) (by omega)];exact ih _ (by omega)
      · rw[if_neg (fun hh=>hb hh.2),show(((mf (txt Ls[i])).1.length:Int)==0)=false from beq_eq_false_iff_ne.2 hb];exact J (fun hh=>hb hh.2)
    · rw[if_neg (fun hh=>hf hh.1)];exact aT hf (J (fun hh=>hf hh.1))
theorem ah_ (s:ByteArray):Ev (fun k=>fq.f k s) (I_ s):=by
  unfold fq.f I_;refine um (fun h=>df (by omega) (Ev.now _)) (fun h=>cq (by omega) ?_);have hsz:s.size≤20000:=by omega
  refine bR (a:=Go.Lib.splitB (⟨#[10]⟩:ByteArray) 0 (Go.Lib.countB s ⟨#[10]⟩) s) (by unfold strings_Split.f;rw[if_pos ⟨rfl,by omega⟩]) ?_
  have e:Go.Lib.splitB (⟨#[10]⟩:ByteArray) 0 (Go.Lib.countB s ⟨#[10]⟩) s=(mi [] s.data.toList).map txt:=by
    have e1:(Go.Lib.splitB (⟨#[10]⟩:ByteArray) 0 (Go.Lib.countB s ⟨#[10]⟩) s).map (·.data.toList)=Go.Lib.split s.data.toList [10]:=(by rw[Go.Lib.splitB_data];rfl);rw[←aiw,←e1,List.map_map]
    conv=>lhs;rw[←List.map_id (Go.Lib.splitB (⟨#[10]⟩:ByteArray) 0 (Go.Lib.countB s ⟨#[10]⟩) s)]
    exact List.map_congr_left (fun p _=>(WK p).symm)
  rw[e];have hl:s.data.toList.length=s.size:=Array.length_toList;have h1:=MR s.data.toList [];have:=ahR (mi [] s.data.toList) (by omega) 0 (Nat.zero_le _) [] (Nat.le_refl _);rw[List.drop_zero]at this;exact this
section
variable (s:ByteArray)
end
end Go.Proofs.YtnjfiaekdcekgaaGreatDoor.Q
namespace Go.Proofs.YtnjfiaekdcekgaaGreatDoor.Pure
open Go.RowKit Go.Proofs.YtnjfiaekdcekgaaGreatDoor.P Go.Proofs.YtnjfiaekdcekgaaGreatDoor.Q Go.Proofs.YtnjfiaekdcekgaaGreatDoorW.bS Go.Proofs.YtnjfiaekdcekgaaGreatDoorW.dU
theorem SE {x:cN} (g:zJ x):uV x=true∧Iw x:=by
  have h:gZ x.f0 x.f1 x.f2 x.f3=true:=g.ok;obtain⟨h1,h2,h3⟩:=g.small;exact⟨h,by unfold in64;omega,by unfold in64;omega,by unfold in64;omega⟩
theorem Yq (b:List Int) (h0:b.length≤9223372036854775807∧∀y∈b,SI y):∃k,mL.f k b=some true:=by
  refine Ev.rounds ?_;unfold mL.f;by_cases Tb:(b.length:Int)>1048576
  · exact bR (a:=true) (by unfold wy.f;rw[decide_eq_true Tb]) (evp rfl (Ev.now _))
  refine bR (a:=false) (by unfold wy.f;rw[decide_eq_false Tb]) (aT (by decide) ?_);have hb:b.length≤1048576:=by omega
  obtain⟨s0,xs,D,_,hx1,hx2⟩:=acq b hb;have ok:∀x∈xs,uV x=true:=fun x h=>(SE (hx2 x h)).1;have T:=ah9 xs (fun x h=>(SE (hx2 x h)).2);have tl:=WB xs ok
  have eT:I9 xs=(txt (pR xs),true):=by
    unfold I9;rw[if_neg (by omega),V6 xs [] ok,List.nil_append]
  rw[eT]at T;have R:=ah_ (txt (pR xs))
  have eR:I_ (txt (pR xs))=(outT xs,true):=by
    unfold I_;rw[if_neg (by rw[u7];omega),wU,Rq xs [] ok,List.nil_append];show Fi xs=_;unfold Fi;rw[if_neg (by omega)]
  rw[eR]at R;obtain⟨h1,h2,h3⟩:=NR;have X:=V1 f_.1 f_.2.1 f_.2.2.1 f_.2.2.2.1 f_.2.2.2.2.1 f_.2.2.2.2.2 xs (by omega) (by omega) (by omega);obtain⟨g1,g2,g3,g4⟩:=V3 xs;obtain⟨i1,i2⟩:=V2 xs;have F:=SB (ft xs).1 (ft xs).2.1 (ft xs).2.2.1 (ft xs).2.2.2.1 (ft xs).2.2.2.2.1 (ft xs).2.2.2.2.2.1 i1.d i1.q i1.a i1.m i1.l (by omega) (by omega);have hT:=V_ (p:=(ft xs).1) (d:=(ft xs).2.1) (q:=(ft xs).2.2.1) (a:=(ft xs).2.2.2.1) (m:=(ft xs).2.2.2.2.1) (l:=(ft xs).2.2.2.2.2.1);have S:=ah5 (outT xs) (by unfold outT;simp;omega)
  have key:∀i,i≤(ft xs).2.2.2.2.2.2.length→Ev (fun k=>mL.l0 k true (outT xs) true (ft xs).2.2.2.2.2.2 (((ft xs).2.2.2.2.2.2.take i).map IQ) (i:Int) (ft xs).1 (ft xs).2.1 (ft xs).2.2.1 (ft xs).2.2.2.1 (ft xs).2.2.2.2.1 (ft xs).2.2.2.2.2.1) true:=by
    refine down (n:=(ft xs).2.2.2.2.2.2.length) ?_ ?_
    · refine Ev.step (fun k=>by rw[mL.l0]) (aT (by omega) (Ev.bind F ?_));refine evp (by rw[List.length_map,List.length_take];omega) ?_;refine evp rfl (evp rfl ?_);rw[List.take_length];exact Ev.bind S (Ev.now _)
    · intro i hi ih;have hn:=i2 _ (List.getElem_mem hi);refine Ev.step (fun k=>by rw[mL.l0]) (evp (by omega) (evp (by omega) ?_));rw[Ff _ i hi,eH (by omega) (by omega)];refine bR (LK _ hn.1 hn.2) (evp (by simp;omega) ?_);rw[List.take_succ_eq_append_getElem hi,List.map_append]at ih;exact ih
  exact Ev.bind D (Ev.bind T (Ev.bind R (Ev.bind V4 (Ev.bind X (key 0 (Nat.zero_le _))))))
end Go.Proofs.YtnjfiaekdcekgaaGreatDoor.Pure
namespace Go.Proofs.YtnjfiaekdcekgaaGreatDoor.Sy
open Go.ChangeShapes Go.WideShapes Go.ChangeAt Go.RowKit Go.Proofs.YtnjfiaekdcekgaaGreatDoor.P Go.Proofs.YtnjfiaekdcekgaaGreatDoor.Q Go.Proofs.YtnjfiaekdcekgaaGreatDoorW.bS
open Go.ChangeMaps (open_string shut_string)
theorem own:ownKnob Tryz.prog.godebug=none:=by kernel_rfl
theorem laidOut:laidOutB Tryz.prog=true:=by kernel_rfl
noncomputable def Sj (os:Os):World:=let w0:=World.doorLaid Tryz.prog 400 os;{w0 with heap:=w0.heap.modify ((Tryz.prog.globalNamed "unicode/utf8.first").getD 0) fun
  | .cells _ t fz=> .cells (Go.Pinned.utf8FirstZ.map fun(z:Nat)=>Value.int .u8 z).toArray t fz
  |o=>o}
def E2:List (String×DataW Unit):=[("math/bits.deBruijn32tab",Rows.laid_math_bits_deBruijn32tab),("math/bits.deBruijn64tab",Rows.laid_math_bits_deBruijn64tab),("internal/strconv.uint64pow10",Rows.laid_internal_strconv_uint64pow10),("unicode/utf8.acceptRanges",Rows.laid_unicode_utf8_acceptRanges),("strconv.ErrRange",Rows.laid_strconv_ErrRange),("strconv.ErrSyntax",Rows.laid_strconv_ErrSyntax),("unicode/utf8.first",Rows.laid_unicode_utf8_first)]
theorem acp (os:Os) (args:Array Value):laidMetH Tryz.prog E2 ((Sj os).forCall (fun _ _=>0) ⟨#[],args,[]⟩).memory:=
  laidMetH_of_parts3 (fuel:=8) (laidMet_of_run' 8 (by kernel_rfl) (by kernel_rfl)) (by kernel_rfl) (by kernel_rfl)
theorem ajQ {W:World} (h:laidMetH Tryz.prog E2 W):TabE W:=by
  rw[MakeChecks.laidMetH_plain _ _ _ (by kernel_rfl)]at h;refine⟨?_,ac0 h.tail.tail.tail.tail.tail h.tail.tail.tail.tail⟩;exact Go.Lib.tabIs_of_head (g:=3) (by kernel_rfl) (by kernel_rfl) Tryz.underlying171 Tryz.underlying155 (by kernel_rfl) (by kernel_rfl) h.tail.tail
set_option maxRecDepth 100000 in
theorem lifted (os:Os) (started:os.Started) (H:Type) (enc:TypeId×Value→H):
    ReturnsInHanded {} Tryz.checked os 4 .any (fun w args=>(Rows.fnScriptsSpec.pre enc Tryz.prog Tryz.f4 [] false w args∧laidMetH Tryz.prog E2 w)∧sizedMet enc Tryz.prog Tryz.f4 (OpenSpec.ofChange Rows.fnScriptsSpec) false w args) (Rows.fnScriptsSpec.post enc Tryz.prog Tryz.f4 false true false false):=by
  refine returnsInHanded_of_change_and (C:=Tryz.checked) (X:=fun w _=>laidMetH Tryz.prog E2 w) (fun _ _ _ hh h=>h.of_heap hh) own started (by kernel_rfl) Tryz.func4
    (ChangeSpec.witness_shaped (enc:=enc) (C:=Tryz.checked) (os:=os) (X:=fun w _=>laidMetH Tryz.prog E2 w) false (Sj os) #[.slice none 0 0] 8 rfl (World.shaped_of_RefB (by kernel_rfl) (by kernel_rfl)) (by kernel_rfl) (by kernel_rfl) (by kernel_rfl) (acp os _)) ?_
  intro W base args ds gs before aeW hW hcnd aqA hL _;have htab:=ajQ hL;have hval:∀(j:Nat) t v,Tryz.f4.params[j]? =some t→args[j]? =some v→Value.okWide Tryz.prog W .any base t v:=aeW;have hW':=hW;obtain⟨p,q,hA0,hV,rfl,hfz,hnd⟩:=hW;have hA:DataW.TrodAll enc Tryz.prog W 0 (fun _=>true) true Tryz.f4.params.toList args.toList ds p:=hA0;rw[Tryz.params4]at hA hval;obtain⟨v0,vs0,d0,ds0,p0,q0,hargs,rfl,rfl,h0,r0⟩:=trodAll_cons hA;obtain⟨rfl,rfl,rfl⟩:=trodAll_nil r0;obtain rfl:args= #[v0]:=by cases args;simp_all
  obtain⟨rfl,rfl⟩:=trodVars_none hV;have k0:=h0;have lt0:∀x∈p0,x.block<W.heap.size:=by obtain⟨m,hm⟩:=k0;exact DataW.trod_lt m _ _ _ hm
  obtain⟨ac6,f0⟩:=h0;obtain⟨x0,K0,G0⟩:=(show np Tryz.prog W (Kd.slice 5 (Kd.int .u8)) 22 _ from np.slice 0 Tryz.underlying22 (by kernel_rfl) op5) H enc 0 _ _ ac6 _ _ f0;obtain⟨ara,amm,al0,rfl⟩:∃l c a,v0= .slice a l c:=by obtain⟨a,l,c,e⟩:=okWide_slice Tryz.underlying22 (hval 0 22 v0 rfl rfl);exact⟨l,c,a,e⟩
  obtain⟨A0,c0,e0,hc0,cd⟩:=K0;simp[Value.cells]at e0;obtain⟨rfl,rfl,rfl⟩:=e0;obtain⟨k,hP⟩:=Pure.Yq x0 G0;refine(P.mL.calls k _ _ x0 true W cd hc0 hP ⟨rfl⟩ ⟨htab⟩).mono fun e W' ⟨he,abr⟩=> ?_;have RD:Below W.heap.size W W':=abr;subst he;exact⟨_,rfl,_,_,_,[],_,[],hW',trodAll_mk1 (shut_bool Tryz.underlying4 _),(trodAll_cons_mk (Below.trod laidOut (by kernel_rfl) (of_decide_eq_true (by kernel_rfl)) k0 RD lt0) trodAll_mk0),rfl,RD.frame _,fun h=>by cases h⟩
theorem over:Rows.fnScriptsRow.holds Tryz.pinned (OpenSpec.ofChange Rows.fnScriptsSpec):=
  OpenClaim.holds_of_wide 4 Tryz.f4 rfl rfl rfl rfl rfl rfl rfl ⟨rfl,rfl,rfl,rfl,rfl⟩ rfl rfl rfl rfl rfl (by kernel_rfl) Tryz.func4 (by kernel_rfl)
    (of_decide_eq_true (by kernel_rfl)) (by unfold Func.isWrapper;first|(rw[if_pos (by decide+kernel)];kernel_rfl)|(rw[if_neg (by decide+kernel)];exact⟨rfl,rfl⟩))
    (fun os started H enc _=>lifted os started H enc)
theorem proved:Rows.FnScriptsCardSaid:=
  Claim7.holds_tied_plain_at .later [] [.data,.data,.data,.data,.sentinel,.sentinel,.pinned] true (true,"4050f4a83c7a486e796be1258334ad9bcb4c2ca5d9b2abe12ef7f224548e6b1f") true
    over (fun _ h=>by cases h) (by kernel_rfl) (fun _ h=>by cases h) fnScripts_row_tie rfl ⟨rfl,rfl⟩ (by kernel_rfl) rfl
    (fun f fn hf hfn=>by
      obtain rfl:f=4:=Option.some.inj ((show Tryz.prog.funcNamed "loop.example/g00989/laws.FnScripts" =some 4 by kernel_rfl).symm.trans hf) |>.symm;obtain rfl:fn=Tryz.f4:=(Option.some.inj (Tryz.func4.symm.trans hfn)).symm
      exact⟨by kernel_rfl,fun j t ht=>by
        rw[Tryz.params4]at ht;have hm:t∈([22]:List Nat):=(by simpa using Array.mem_of_getElem? ht);have hall:(([22]:List Nat).all fun u=> !Tryz.prog.wantsStandIn u)=true:=(by kernel_rfl);exact(show Tryz.prog.wantsStandIn t=false by simpa using List.all_eq_true.1 hall t hm)⟩)
    (by kernel_rfl)
#print axioms proved
end Go.Proofs.YtnjfiaekdcekgaaGreatDoor.Sy
namespace Go.Proofs.YtnjfiaekdcekgaaGreatDoor
theorem fnScripts_holds:Rows.FnScriptsCardSaid:=Sy.proved
end Go.Proofs.YtnjfiaekdcekgaaGreatDoor
