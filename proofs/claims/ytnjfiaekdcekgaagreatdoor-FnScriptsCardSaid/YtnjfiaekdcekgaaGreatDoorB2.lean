/- What functions of the program come to (f), that their calls come to just this (calls), and the plain laws over lists and numbers. No condition but those of the given row. -/
import Derived.Test.YtnjfiaekdcekgaaGreatDoorB1
import Derived.KernelRfl
import Derived.Maps.RangeWalk
import Derived.Maps.OwnSet
import Derived.Maps.OwnOps
import Derived.Maps.Ext
import Derived.DeepKeys5
import Derived.Deep.RegionHeld3
import Derived.Lib.AppendIntMem
import Derived.StringKeys
import Derived.WalkSmall
set_option linter.unusedVariables false
set_option linter.unusedSimpArgs false
namespace Go.Proofs.YtnjfiaekdcekgaaGreatDoor.P
set_option maxHeartbeats 8000000
set_option maxRecDepth 100000
open Go.RowKit Go.Proofs.YtnjfiaekdcekgaaGreatDoorW.bS Go.Proofs.YtnjfiaekdcekgaaGreatDoorW.dU Go.Proofs.YtnjfiaekdcekgaaGreatDoorW.dX
attribute [local go_sem] fE fI fH fL fG fK fF fJ
def AX.f (a0:Int) (a1:Int):Option (Int):=(fP.f a0).bind fun Fp=>(if Fp=true then((lz.f a1).bind fun Fq=>(if Fq=true then(some (wrap64 (Int.tdiv (wrap64 (a0*(wrap64 (1000+(wrap64 (2*(wrap64 (a1-15)))))))) 1000)))else(some 0)))else(some 0))
theorem AX.calls (a0:Int) (a1:Int) (r:Int) (w:World) (h:AX.f a0 a1=some r):
  Calls Tryz.prog 106 #[.int .i64 a0,.int .i64 a1] w fun e w'=>e= .returned (.int .i64 r)∧cV w w':=by
 have H:((fP.f a0).bind fun Fp=>(if Fp=true then((lz.f a1).bind fun Fq=>(if Fq=true then(some (wrap64 (Int.tdiv (wrap64 (a0*(wrap64 (1000+(wrap64 (2*(wrap64 (a1-15)))))))) 1000)))else(some 0)))else(some 0)))=some r:=h;clear h;replace H:=Option.bind_eq_some_iff.mp H;obtain⟨Fp,ng,H⟩:=H
 (try dsimp only at H)
 have A3:=A_ ng;clear ng;by_cases c4:Fp=true
 ·subst c4;rw[if_pos rfl]at H;replace H:=Option.bind_eq_some_iff.mp H;obtain⟨Fq,k9,H⟩:=H
  (try dsimp only at H)
  have A5:=A_ k9;clear k9;by_cases c6:Fq=true
  ·subst c6;rw[if_pos rfl]at H;obtain rfl:=Option.some.inj H;go_enter Tryz.func106,Tryz.ntmps106
   go_wp2_with (first|((with_reducible refine bT (f:=98) rfl ?_);refine gL (some 6) Tryz.func98 #[.int .i64 a0] ?_;(with_reducible refine(fP.calls a0 true _ A3.out).mono ?_);rintro e w' ⟨rfl,⟨nd,rfl⟩⟩;refine⟨_,rfl,?_⟩)|(go_at_call 57;(with_reducible refine(lz.calls a1 true _ A5.out).mono ?_);rintro e w' ⟨rfl,⟨nd,rfl⟩⟩))
   go_ret;exact⟨eS,by repeat(first|exact cV.refl _|apply cV.step)⟩
  ·replace c6:=Bool.eq_false_iff.mpr c6;subst c6;rw[if_neg (show¬(false=true)by decide)]at H;obtain rfl:=Option.some.inj H;go_enter Tryz.func106,Tryz.ntmps106
   go_wp2_with (first|((with_reducible refine bT (f:=98) rfl ?_);refine gL (some 6) Tryz.func98 #[.int .i64 a0] ?_;(with_reducible refine(fP.calls a0 true _ A3.out).mono ?_);rintro e w' ⟨rfl,⟨nd,rfl⟩⟩;refine⟨_,rfl,?_⟩)|(go_at_call 57;(with_reducible refine(lz.calls a1 false _ A5.out).mono ?_);rintro e w' ⟨rfl,⟨nd,rfl⟩⟩))
   go_ret;exact⟨eS,by repeat(first|exact cV.refl _|apply cV.step)⟩
 ·replace c4:=Bool.eq_false_iff.mpr c4;subst c4;rw[if_neg (show¬(false=true)by decide)]at H;obtain rfl:=Option.some.inj H;go_enter Tryz.func106,Tryz.ntmps106
  go_wp2_with (first|((with_reducible refine bT (f:=98) rfl ?_);refine gL (some 6) Tryz.func98 #[.int .i64 a0] ?_;(with_reducible refine(fP.calls a0 false _ A3.out).mono ?_);rintro e w' ⟨rfl,⟨nd,rfl⟩⟩;refine⟨_,rfl,?_⟩))
  go_ret;exact⟨eS,by repeat(first|exact cV.refl _|apply cV.step)⟩
def mM.l0:Nat→List ByteArray→List ByteArray→Int→Option (Bool)
 |0,_,_,_=>none
 |k+1,x0,x1,x5=>if x5<(x0.length:Int)then(if 0≤x5 then(if x5<(x1.length:Int)then(if(eG ByteArray.empty x0 x5).toList=(eG ByteArray.empty x1 x5).toList then(mM.l0 k x0 x1 (wrap64 (x5+1)))else(some false))else(none))else(none))else(some true)
def mM.f (k:Nat) (l0:List ByteArray) (l1:List ByteArray):Option (Bool):=if(l0.length:Int)=(l1.length:Int)then(mM.l0 k l0 l1 0)else(some false)
theorem mM.calls (k:Nat) (A0:Option Addr) (c0:Nat) (l0:List ByteArray) (A1:Option Addr) (c1:Nat) (l1:List ByteArray) (r:Bool) (w:World) (cd:Kd.C Kd.string w A0 l0.length l0) (hc0:l0.length≤c0) (hr1:Kd.C Kd.string w A1 l1.length l1) (hc1:l1.length≤c1) (h:mM.f k l0 l1=some r):
  Calls Tryz.prog 11 #[.slice A0 l0.length c0,.slice A1 l1.length c1] w fun e w'=>e= .returned (.bool r)∧cV w w':=by
 have dI:=A_ cd;have nh:=A_ hc0;clear cd hc0;have kg:=A_ hr1;have qZ:=A_ hc1;clear hr1 hc1;have H:(if(l0.length:Int)=(l1.length:Int)then(mM.l0 k l0 l1 0)else(some false))=some r:=h;clear h;by_cases c3:(l0.length:Int)=(l1.length:Int)
 ·rw[if_pos c3]at H;have c3b0:((l0.length:Int)==(l1.length:Int))=true:=beq_iff_eq.mpr c3;have Hp:((l0.length:Int) != (l1.length:Int))=false:=bne_eq_false_iff_eq.mpr c3;have K9:(l0.length==l1.length)=true:=by first|simpa using c3|(simp at c3 ⊢;omega)
  clear c3;have H':=A_ H;clear H;go_enter Tryz.func11,Tryz.ntmps11;go_wp2
  repeat(go_quiet (fail);try go_wp2)
  go_loopg [5] k (fun kq v5 w'=>∃(dy:Int),v5= .int .i64 dy∧aj (mM.l0 kq l0 l1 dy=some r)∧aj (kq≤k)∧cV w w')
  case atStart=>exact⟨(0),eS,H',⟨Nat.le_refl _⟩,by repeat(first|exact cV.refl _|apply cV.step)⟩
  case round=>
   clear H'
   try clear c1
   try clear p2
   try clear c3
   try clear c3b0
   try clear Hp
   try clear K9
   obtain⟨dy,rfl,HA,dh,⟨m1,rfl⟩⟩:=hrel;cases gk with
   |zero=>exact absurd HA.out (by simp[mM.l0])
   |succ k1=>
    have H:=HA.out;clear HA;simp only[mM.l0]at H;by_cases c4:dy<(l0.length:Int)
    ·rw[if_pos c4]at H;have kj:decide (dy<(l0.length:Int))=true:=decide_eq_true c4;clear c4;by_cases c5:0≤dy
     ·rw[if_pos c5]at H;have ug:decide (0≤dy)=true:=decide_eq_true c5;clear c5;by_cases c6:dy<(l1.length:Int)
      ·rw[if_pos c6]at H;have rI:decide (dy<(l1.length:Int))=true:=decide_eq_true c6;clear c6;by_cases c7:(eG ByteArray.empty l0 dy).toList=(eG ByteArray.empty l1 dy).toList
       ·rw[if_pos c7]at H;have AE:((eG ByteArray.empty l0 dy).toList==(eG ByteArray.empty l1 dy).toList)=true:=beq_iff_eq.mpr c7;have CM:((eG ByteArray.empty l0 dy).toList != (eG ByteArray.empty l1 dy).toList)=false:=bne_eq_false_iff_eq.mpr c7;clear c7;have H':=A_ H;clear H;have yJ:0≤(dy:Int):=oD;have y6:dy<(l0.length:Int):=oD;obtain⟨aa8,Lj,aeY⟩:=Kd.tW dI.out dy yJ y6;cases Lj;replace yJ:=eq_true yJ;replace y6:=eq_true y6;have yK:0≤(dy:Int):=oD;have y7:dy<(l1.length:Int):=oD;obtain⟨aa9,Lk,aeZ⟩:=Kd.tW kg.out dy yK y7;cases Lk;replace yK:=eq_true yK;replace y7:=eq_true y7;go_wp2
        repeat(go_quiet (fail);try go_wp2)
        go_roundg k1
        case measure=>have:=dh.out;omega
        case rel=>exact⟨(wrap64 (dy+1)),eS,H',⟨by have:=dh.out;omega⟩,by repeat(first|exact cV.refl _|apply cV.step)⟩
       ·rw[if_neg c7]at H;have AE:((eG ByteArray.empty l0 dy).toList==(eG ByteArray.empty l1 dy).toList)=false:=beq_eq_false_iff_ne.mpr c7;have CM:((eG ByteArray.empty l0 dy).toList != (eG ByteArray.empty l1 dy).toList)=true:=bne_iff_ne.mpr c7;obtain rfl:=Option.some.inj H;have yJ:0≤(dy:Int):=oD;have y6:dy<(l0.length:Int):=oD;obtain⟨aa8,Lj,aeY⟩:=Kd.tW dI.out dy yJ y6;cases Lj;replace yJ:=eq_true yJ;replace y6:=eq_true y6;have yK:0≤(dy:Int):=oD;have y7:dy<(l1.length:Int):=oD;obtain⟨aa9,Lk,aeZ⟩:=Kd.tW kg.out dy yK y7;cases Lk;replace yK:=eq_true yK;replace y7:=eq_true y7;go_wp2
        repeat(go_quiet (fail);try go_wp2)
        go_ret;exact⟨eS,by repeat(first|exact cV.refl _|apply cV.step)⟩
      ·rw[if_neg c6]at H;exact absurd H (by simp)
     ·rw[if_neg c5]at H;exact absurd H (by simp)
    ·rw[if_neg c4]at H;have kj:decide (dy<(l0.length:Int))=false:=decide_eq_false c4;clear c4;obtain rfl:=Option.some.inj H;go_wp2
     repeat(go_quiet (fail);try go_wp2)
     go_ret;exact⟨eS,by repeat(first|exact cV.refl _|apply cV.step)⟩
 ·rw[if_neg c3]at H;have c3b0:((l0.length:Int)==(l1.length:Int))=false:=beq_eq_false_iff_ne.mpr c3;have Hp:((l0.length:Int) != (l1.length:Int))=true:=bne_iff_ne.mpr c3;have K9:(l0.length==l1.length)=false:=by first|simpa using c3|(simp at c3 ⊢;omega)
  obtain rfl:=Option.some.inj H;go_enter Tryz.func11,Tryz.ntmps11;go_wp2
  repeat(go_quiet (fail);try go_wp2)
  go_ret;exact⟨eS,by repeat(first|exact cV.refl _|apply cV.step)⟩
def iQ.l0:Nat→Int→List (ar)→Int→Option ((List (ar)))
 |0,_,_,_=>none
 |k+1,x0,x3,x4=>if x4<11 then(if x4=0 then(if x3.length<4398046511104 then(iQ.l0 k x0 (x3++[(⟨x4,wrap64 (x4+1),1,x0⟩:ar)]) (wrap64 (x4+1)))else(none))else(if x4=2 then(if x3.length<4398046511104 then(iQ.l0 k x0 (x3++[(⟨x4,wrap64 (x4+1),1,x0⟩:ar)]) (wrap64 (x4+1)))else(none))else(if x4=4 then(if x3.length<4398046511104 then(iQ.l0 k x0 (x3++[(⟨x4,wrap64 (x4+1),1,x0⟩:ar)]) (wrap64 (x4+1)))else(none))else(if x4=7 then(if x3.length<4398046511104 then(iQ.l0 k x0 (x3++[(⟨x4,wrap64 (x4+1),1,x0⟩:ar)]) (wrap64 (x4+1)))else(none))else(if x4=9 then(if x3.length<4398046511104 then(iQ.l0 k x0 (x3++[(⟨x4,wrap64 (x4+1),1,x0⟩:ar)]) (wrap64 (x4+1)))else(none))else(if x3.length<4398046511104 then(iQ.l0 k x0 (x3++[(⟨x4,wrap64 (x4+1),2,x0⟩:ar)]) (wrap64 (x4+1)))else(none)))))))else(some x3)
def iQ.f (k:Nat) (a0:Int):Option ((List (ar))):=(eK.f a0 0 5000).bind fun Fw=>(if Fw=true then(iQ.l0 k a0 (([]:List (ar))) 0)else(some ([]:List (ar))))
theorem iQ.calls (k:Nat) (a0:Int) (r:List (ar)) (w:World) (h:iQ.f k a0=some r):
  Calls Tryz.prog 43 #[.int .i64 a0] w fun e w'=>∃v0_:Value,e= .returned (v0_)∧Kd.R bl 110 w' w.heap.size (fun _=>True) v0_ r∧Below w.heap.size w w':=by
 have yb:=Tryz.underlying110;have HB:=A_ (Below.refl w.heap.size w);have H:((eK.f a0 0 5000).bind fun Fw=>(if Fw=true then(iQ.l0 k a0 (([]:List (ar))) 0)else(some ([]:List (ar)))))=some r:=h;clear h;replace H:=Option.bind_eq_some_iff.mp H;obtain⟨Fw,fh,H⟩:=H
 (try dsimp only at H)
 have A2:=A_ fh;clear fh;by_cases c3:Fw=true
 ·subst c3;rw[if_pos rfl]at H;obtain⟨Xs,Eg⟩:∃y_:List (ar),y_=(([]:List (ar))):=⟨_,rfl⟩;replace H:(iQ.l0 k a0 Xs 0)=some r:=by first|(rw[Eg];with_reducible exact H)|(have aI:=(Option.bind_some _ _).symm.trans H;rw[Eg];with_reducible exact aI)|(have aI:=(Option.bind_some _ _).symm.trans H;with_reducible exact aI)|with_reducible exact H|(rw[Eg];exact H)|exact H
  have QY:=A_ Eg;clear Eg;have H':=A_ H;clear H;go_enter Tryz.func43,Tryz.ntmps43
  go_wp2_with (first|((with_reducible refine bT (f:=58) rfl ?_);refine gL (some 7) Tryz.func58 #[.int .i64 a0,.int .i64 0,.int .i64 5000] ?_;(with_reducible refine(eK.calls a0 0 5000 true _ A2.out).mono ?_);rintro e w' ⟨rfl,⟨nd,rfl⟩⟩;refine⟨_,rfl,?_⟩)|((with_reducible refine gate_dst (N:=9) rfl ?_);refine Kd.iB bl _ 110 ?hg (N:=9) ?hd (xs:=([]:List (ar))) (inner:=[]) (ok:=fun _=>True) (cU:=fun _=>True) ?hr ?hp (fun _ hk=>hk) trivial (Below.refl _ _) (Nat.le_refl _) (by simp) ?_;(case hd=>rfl);(case hg=>rfl);(case hr=>first|(go_simp;done)|(go_simp;rfl));(case hp=>exact(bf.none _ _));intro arY w4 rX hb cT dx;clear cT dx;(first|rw[←QY.out]at rX|(simp only[Int.reduceToNat]at rX;rw[←QY.out]at rX));have ah:=A_ (Kd.dr rX (bn (oB HB)));have ai:=A_ (bz (oB HB) hb);clear HB;have Y9:=ah;have HB:=ai;clear ah ai;clear hb rX))
  go_loopg [3,4] k (fun kq v3 v4 w'=>∃(bA:List (ar)) (aC:Int),v4= .int .i64 aC∧aj (iQ.l0 kq a0 bA aC=some r)∧aj (kq≤k)∧aj (Kd.R bl 110 w' w.heap.size (fun _=>True) v3 bA)∧aj (Below w.heap.size w w'))
  case atStart=>exact⟨(Xs),(0),eS,H',⟨Nat.le_refl _⟩,⟨oR Y9⟩,⟨oB HB⟩⟩
  case round=>
   clear H'
   try clear p2
   try clear c3
   try clear c4
   try clear c5
   obtain⟨bA,aC,rfl,HA,dh,bc,HB⟩:=hrel;cases gk with
   |zero=>exact absurd HA.out (by simp[iQ.l0])
   |succ k1=>
    have H:=HA.out;clear HA;simp only[iQ.l0]at H;by_cases c6:aC<11
    ·rw[if_pos c6]at H;have rI:decide (aC<11)=true:=decide_eq_true c6;clear c6;by_cases c7:aC=0
     ·rw[if_pos c7]at H;have AE:(aC==0)=true:=beq_iff_eq.mpr c7;have CM:(aC != 0)=false:=bne_eq_false_iff_eq.mpr c7;clear c7;by_cases c8:bA.length<4398046511104
      ·rw[if_pos c8]at H;have Cg:=A_ c8;clear c8;obtain⟨Xt,Eh⟩:∃y_:List (ar),y_=(bA++[(⟨aC,wrap64 (aC+1),1,a0⟩:ar)]):=⟨_,rfl⟩;replace H:(iQ.l0 k1 a0 Xt (wrap64 (aC+1)))=some r:=by first|(rw[Eh];with_reducible exact H)|(have aI:=(Option.bind_some _ _).symm.trans H;rw[Eh];with_reducible exact aI)|(have aI:=(Option.bind_some _ _).symm.trans H;with_reducible exact aI)|with_reducible exact H|(rw[Eh];exact H)|exact H
       have aae:=A_ Eh;clear Eh;have H':=A_ H;clear H
       go_wp2_with (first|((with_reducible refine jz (b:= .append) (xs:= #[.tmp 32,.tmp 39]) rfl ?_);at_builtin;refine Kd.R_append bl (w0:=w) w.heap.size rfl (.tmp 32) (.tmp 39) 24 110 (.agg #[(.int .i64 0),(.int .i64 0),(.int .i64 0),(.int .i64 0)]) 32 rfl Tryz.underlying24 info110 rfl (by decide) (by omega) u3 bA (⟨aC,wrap64 (aC+1),1,a0⟩:ar) [.int .i64 aC,.int .i64 (wrap64 (aC+1)),.int .i64 1,.int .i64 a0] (fun _=>True) (fun _=>False) rfl rfl ?aP (fun _ hk=>hk.elim) ?aF ?aO ?aB ?aS ?aL ?_;(case aP=>exact s6 _ _ _ (⟨aC,wrap64 (aC+1),1,a0⟩:ar));(case aB=>exact(oB HB));(case aF=>exact(fun _ _=>trivial));(case aO=>exact(oR bc));(case aS=>exact(bn (oB HB)));(case aL=>have:=Cg.out;omega);intro arZ w9 ho hb hg hat;rw[←aae.out]at ho;have ah:=A_ (hb);have ai:=A_ (ho);clear HB;clear bc;have HB:=ah;have Y_:=ai;clear ah ai;clear ho hb hg hat))
       go_roundg k1
       case measure=>have:=dh.out;omega
       case rel=>exact⟨(Xt),(wrap64 (aC+1)),eS,H',⟨by have:=dh.out;omega⟩,⟨oR Y_⟩,⟨oB HB⟩⟩
      ·rw[if_neg c8]at H;exact absurd H (by simp)
     ·rw[if_neg c7]at H;have AE:(aC==0)=false:=beq_eq_false_iff_ne.mpr c7;have CM:(aC != 0)=true:=bne_iff_ne.mpr c7;by_cases c10:aC=2
      ·rw[if_pos c10]at H;have t_:(aC==2)=true:=beq_iff_eq.mpr c10;have Az:(aC != 2)=false:=bne_eq_false_iff_eq.mpr c10;clear c10;by_cases c11:bA.length<4398046511104
       ·rw[if_pos c11]at H;have ZE:=A_ c11;clear c11;obtain⟨Xu,Ei⟩:∃y_:List (ar),y_=(bA++[(⟨aC,wrap64 (aC+1),1,a0⟩:ar)]):=⟨_,rfl⟩;replace H:(iQ.l0 k1 a0 Xu (wrap64 (aC+1)))=some r:=by first|(rw[Ei];with_reducible exact H)|(have aI:=(Option.bind_some _ _).symm.trans H;rw[Ei];with_reducible exact aI)|(have aI:=(Option.bind_some _ _).symm.trans H;with_reducible exact aI)|with_reducible exact H|(rw[Ei];exact H)|exact H
        have aaf:=A_ Ei;clear Ei;have H':=A_ H;clear H
        go_wp2_with (first|((with_reducible refine jz (b:= .append) (xs:= #[.tmp 32,.tmp 39]) rfl ?_);at_builtin;refine Kd.R_append bl (w0:=w) w.heap.size rfl (.tmp 32) (.tmp 39) 24 110 (.agg #[(.int .i64 0),(.int .i64 0),(.int .i64 0),(.int .i64 0)]) 32 rfl Tryz.underlying24 info110 rfl (by decide) (by omega) u3 bA (⟨aC,wrap64 (aC+1),1,a0⟩:ar) [.int .i64 aC,.int .i64 (wrap64 (aC+1)),.int .i64 1,.int .i64 a0] (fun _=>True) (fun _=>False) rfl rfl ?aP (fun _ hk=>hk.elim) ?aF ?aO ?aB ?aS ?aL ?_;(case aP=>exact s6 _ _ _ (⟨aC,wrap64 (aC+1),1,a0⟩:ar));(case aB=>exact(oB HB));(case aF=>exact(fun _ _=>trivial));(case aO=>exact(oR bc));(case aS=>exact(bn (oB HB)));(case aL=>have:=ZE.out;omega);intro ar0 w12 ho hb hg hat;rw[←aaf.out]at ho;have ah:=A_ (hb);have ai:=A_ (ho);clear HB;clear bc;have HB:=ah;have Y':=ai;clear ah ai;clear ho hb hg hat))
        go_roundg k1
        case measure=>have:=dh.out;omega
        case rel=>exact⟨(Xu),(wrap64 (aC+1)),eS,H',⟨by have:=dh.out;omega⟩,⟨oR Y'⟩,⟨oB HB⟩⟩
       ·rw[if_neg c11]at H;exact absurd H (by simp)
      ·rw[if_neg c10]at H;have t_:(aC==2)=false:=beq_eq_false_iff_ne.mpr c10;have Az:(aC != 2)=true:=bne_iff_ne.mpr c10;by_cases c13:aC=4
       ·rw[if_pos c13]at H;have ua:(aC==4)=true:=beq_iff_eq.mpr c13;have xO:(aC != 4)=false:=bne_eq_false_iff_eq.mpr c13;clear c13;by_cases c14:bA.length<4398046511104
        ·rw[if_pos c14]at H;have ZF:=A_ c14;clear c14;obtain⟨Xv,Ej⟩:∃y_:List (ar),y_=(bA++[(⟨aC,wrap64 (aC+1),1,a0⟩:ar)]):=⟨_,rfl⟩;replace H:(iQ.l0 k1 a0 Xv (wrap64 (aC+1)))=some r:=by first|(rw[Ej];with_reducible exact H)|(have aI:=(Option.bind_some _ _).symm.trans H;rw[Ej];with_reducible exact aI)|(have aI:=(Option.bind_some _ _).symm.trans H;with_reducible exact aI)|with_reducible exact H|(rw[Ej];exact H)|exact H
         have aag:=A_ Ej;clear Ej;have H':=A_ H;clear H
         go_wp2_with (first|((with_reducible refine jz (b:= .append) (xs:= #[.tmp 32,.tmp 39]) rfl ?_);at_builtin;refine Kd.R_append bl (w0:=w) w.heap.size rfl (.tmp 32) (.tmp 39) 24 110 (.agg #[(.int .i64 0),(.int .i64 0),(.int .i64 0),(.int .i64 0)]) 32 rfl Tryz.underlying24 info110 rfl (by decide) (by omega) u3 bA (⟨aC,wrap64 (aC+1),1,a0⟩:ar) [.int .i64 aC,.int .i64 (wrap64 (aC+1)),.int .i64 1,.int .i64 a0] (fun _=>True) (fun _=>False) rfl rfl ?aP (fun _ hk=>hk.elim) ?aF ?aO ?aB ?aS ?aL ?_;(case aP=>exact s6 _ _ _ (⟨aC,wrap64 (aC+1),1,a0⟩:ar));(case aB=>exact(oB HB));(case aF=>exact(fun _ _=>trivial));(case aO=>exact(oR bc));(case aS=>exact(bn (oB HB)));(case aL=>have:=ZF.out;omega);intro ar1 l4 ho hb hg hat;rw[←aag.out]at ho;have ah:=A_ (hb);have ai:=A_ (ho);clear HB;clear bc;have HB:=ah;have Za:=ai;clear ah ai;clear ho hb hg hat))
         go_roundg k1
         case measure=>have:=dh.out;omega
         case rel=>exact⟨(Xv),(wrap64 (aC+1)),eS,H',⟨by have:=dh.out;omega⟩,⟨oR Za⟩,⟨oB HB⟩⟩
        ·rw[if_neg c14]at H;exact absurd H (by simp)
       ·rw[if_neg c13]at H;have ua:(aC==4)=false:=beq_eq_false_iff_ne.mpr c13;have xO:(aC != 4)=true:=bne_iff_ne.mpr c13;by_cases c16:aC=7
        ·rw[if_pos c16]at H;have CI:(aC==7)=true:=beq_iff_eq.mpr c16;have K6:(aC != 7)=false:=bne_eq_false_iff_eq.mpr c16;clear c16;by_cases c17:bA.length<4398046511104
         ·rw[if_pos c17]at H;have ZG:=A_ c17;clear c17;obtain⟨Xw,Ek⟩:∃y_:List (ar),y_=(bA++[(⟨aC,wrap64 (aC+1),1,a0⟩:ar)]):=⟨_,rfl⟩;replace H:(iQ.l0 k1 a0 Xw (wrap64 (aC+1)))=some r:=by first|(rw[Ek];with_reducible exact H)|(have aI:=(Option.bind_some _ _).symm.trans H;rw[Ek];with_reducible exact aI)|(have aI:=(Option.bind_some _ _).symm.trans H;with_reducible exact aI)|with_reducible exact H|(rw[Ek];exact H)|exact H
          have aah:=A_ Ek;clear Ek;have H':=A_ H;clear H
          go_wp2_with (first|((with_reducible refine jz (b:= .append) (xs:= #[.tmp 32,.tmp 39]) rfl ?_);at_builtin;refine Kd.R_append bl (w0:=w) w.heap.size rfl (.tmp 32) (.tmp 39) 24 110 (.agg #[(.int .i64 0),(.int .i64 0),(.int .i64 0),(.int .i64 0)]) 32 rfl Tryz.underlying24 info110 rfl (by decide) (by omega) u3 bA (⟨aC,wrap64 (aC+1),1,a0⟩:ar) [.int .i64 aC,.int .i64 (wrap64 (aC+1)),.int .i64 1,.int .i64 a0] (fun _=>True) (fun _=>False) rfl rfl ?aP (fun _ hk=>hk.elim) ?aF ?aO ?aB ?aS ?aL ?_;(case aP=>exact s6 _ _ _ (⟨aC,wrap64 (aC+1),1,a0⟩:ar));(case aB=>exact(oB HB));(case aF=>exact(fun _ _=>trivial));(case aO=>exact(oR bc));(case aS=>exact(bn (oB HB)));(case aL=>have:=ZG.out;omega);intro ar2 FZ ho hb hg hat;rw[←aah.out]at ho;have ah:=A_ (hb);have ai:=A_ (ho);clear HB;clear bc;have HB:=ah;have Zb:=ai;clear ah ai;clear ho hb hg hat))
          go_roundg k1
          case measure=>have:=dh.out;omega
          case rel=>exact⟨(Xw),(wrap64 (aC+1)),eS,H',⟨by have:=dh.out;omega⟩,⟨oR Zb⟩,⟨oB HB⟩⟩
         ·rw[if_neg c17]at H;exact absurd H (by simp)
        ·rw[if_neg c16]at H;have CI:(aC==7)=false:=beq_eq_false_iff_ne.mpr c16;have K6:(aC != 7)=true:=bne_iff_ne.mpr c16;by_cases c19:aC=9
         ·rw[if_pos c19]at H;have vT:(aC==9)=true:=beq_iff_eq.mpr c19;have CJ:(aC != 9)=false:=bne_eq_false_iff_eq.mpr c19;clear c19;by_cases c20:bA.length<4398046511104
          ·rw[if_pos c20]at H;have ZJ:=A_ c20;clear c20;obtain⟨Xx,Em⟩:∃y_:List (ar),y_=(bA++[(⟨aC,wrap64 (aC+1),1,a0⟩:ar)]):=⟨_,rfl⟩;replace H:(iQ.l0 k1 a0 Xx (wrap64 (aC+1)))=some r:=by first|(rw[Em];with_reducible exact H)|(have aI:=(Option.bind_some _ _).symm.trans H;rw[Em];with_reducible exact aI)|(have aI:=(Option.bind_some _ _).symm.trans H;with_reducible exact aI)|with_reducible exact H|(rw[Em];exact H)|exact H
           have aai:=A_ Em;clear Em;have H':=A_ H;clear H
           go_wp2_with (first|((with_reducible refine jz (b:= .append) (xs:= #[.tmp 32,.tmp 39]) rfl ?_);at_builtin;refine Kd.R_append bl (w0:=w) w.heap.size rfl (.tmp 32) (.tmp 39) 24 110 (.agg #[(.int .i64 0),(.int .i64 0),(.int .i64 0),(.int .i64 0)]) 32 rfl Tryz.underlying24 info110 rfl (by decide) (by omega) u3 bA (⟨aC,wrap64 (aC+1),1,a0⟩:ar) [.int .i64 aC,.int .i64 (wrap64 (aC+1)),.int .i64 1,.int .i64 a0] (fun _=>True) (fun _=>False) rfl rfl ?aP (fun _ hk=>hk.elim) ?aF ?aO ?aB ?aS ?aL ?_;(case aP=>exact s6 _ _ _ (⟨aC,wrap64 (aC+1),1,a0⟩:ar));(case aB=>exact(oB HB));(case aF=>exact(fun _ _=>trivial));(case aO=>exact(oR bc));(case aS=>exact(bn (oB HB)));(case aL=>have:=ZJ.out;omega);intro ar3 wX ho hb hg hat;rw[←aai.out]at ho;have ah:=A_ (hb);have ai:=A_ (ho);clear HB;clear bc;have HB:=ah;have Zc:=ai;clear ah ai;clear ho hb hg hat))
           go_roundg k1
           case measure=>have:=dh.out;omega
           case rel=>exact⟨(Xx),(wrap64 (aC+1)),eS,H',⟨by have:=dh.out;omega⟩,⟨oR Zc⟩,⟨oB HB⟩⟩
          ·rw[if_neg c20]at H;exact absurd H (by simp)
         ·rw[if_neg c19]at H;have vT:(aC==9)=false:=beq_eq_false_iff_ne.mpr c19;have CJ:(aC != 9)=true:=bne_iff_ne.mpr c19;by_cases lv:bA.length<4398046511104
          ·rw[if_pos lv]at H;have ZK:=A_ lv;clear lv;obtain⟨Xy,En⟩:∃y_:List (ar),y_=(bA++[(⟨aC,wrap64 (aC+1),2,a0⟩:ar)]):=⟨_,rfl⟩;replace H:(iQ.l0 k1 a0 Xy (wrap64 (aC+1)))=some r:=by first|(rw[En];with_reducible exact H)|(have aI:=(Option.bind_some _ _).symm.trans H;rw[En];with_reducible exact aI)|(have aI:=(Option.bind_some _ _).symm.trans H;with_reducible exact aI)|with_reducible exact H|(rw[En];exact H)|exact H
           have aaj:=A_ En;clear En;have H':=A_ H;clear H
           go_wp2_with (first|((with_reducible refine jz (b:= .append) (xs:= #[.tmp 32,.tmp 39]) rfl ?_);at_builtin;refine Kd.R_append bl (w0:=w) w.heap.size rfl (.tmp 32) (.tmp 39) 24 110 (.agg #[(.int .i64 0),(.int .i64 0),(.int .i64 0),(.int .i64 0)]) 32 rfl Tryz.underlying24 info110 rfl (by decide) (by omega) u3 bA (⟨aC,wrap64 (aC+1),2,a0⟩:ar) [.int .i64 aC,.int .i64 (wrap64 (aC+1)),.int .i64 2,.int .i64 a0] (fun _=>True) (fun _=>False) rfl rfl ?aP (fun _ hk=>hk.elim) ?aF ?aO ?aB ?aS ?aL ?_;(case aP=>exact s6 _ _ _ (⟨aC,wrap64 (aC+1),2,a0⟩:ar));(case aB=>exact(oB HB));(case aF=>exact(fun _ _=>trivial));(case aO=>exact(oR bc));(case aS=>exact(bn (oB HB)));(case aL=>have:=ZK.out;omega);intro ar4 F0 ho hb hg hat;rw[←aaj.out]at ho;have ah:=A_ (hb);have ai:=A_ (ho);clear HB;clear bc;have HB:=ah;have Zd:=ai;clear ah ai;clear ho hb hg hat))
           go_roundg k1
           case measure=>have:=dh.out;omega
           case rel=>exact⟨(Xy),(wrap64 (aC+1)),eS,H',⟨by have:=dh.out;omega⟩,⟨oR Zd⟩,⟨oB HB⟩⟩
          ·rw[if_neg lv]at H;exact absurd H (by simp)
    ·rw[if_neg c6]at H;have rI:decide (aC<11)=false:=decide_eq_false c6;clear c6;obtain rfl:=Option.some.inj H;go_wp2;go_ret;exact⟨_,eR,oR bc,oB HB⟩
 ·replace c3:=Bool.eq_false_iff.mpr c3;subst c3;rw[if_neg (show¬(false=true)by decide)]at H;obtain rfl:=Option.some.inj H;go_enter Tryz.func43,Tryz.ntmps43
  go_wp2_with (first|((with_reducible refine bT (f:=58) rfl ?_);refine gL (some 7) Tryz.func58 #[.int .i64 a0,.int .i64 0,.int .i64 5000] ?_;(with_reducible refine(eK.calls a0 0 5000 false _ A2.out).mono ?_);rintro e w' ⟨rfl,⟨nd,rfl⟩⟩;refine⟨_,rfl,?_⟩))
  go_ret;exact⟨_,eR,by first|exact Kd.bM _ _ _ _ _|exact Kd.p_ _ _ _ _ _|exact Kd.qf _ _ _ _ _|exact Kd.Q_nil _ _ _ _ _|exact Kd.S_nil _ _ _ _ _,oB HB⟩
end Go.Proofs.YtnjfiaekdcekgaaGreatDoor.P
namespace Go.Proofs.YtnjfiaekdcekgaaGreatDoor.Q
open Go.RowKit Go.Proofs.YtnjfiaekdcekgaaGreatDoor.P Go.Proofs.YtnjfiaekdcekgaaGreatDoorW.bS Go.Proofs.YtnjfiaekdcekgaaGreatDoorW.dX
theorem rdA (l:List cN) (i:Nat) (h:i<l.length):qH l (i:Int)=l[i]:=by
  unfold qH;simp[List.getD_eq_getElem?_getD,h]
theorem se (l:List ar) (i:Nat) (h:i<l.length):au l (i:Int)=l[i]:=by
  unfold au;simp[List.getD_eq_getElem?_getD,h]
theorem CP (l:List S64) (hl:l.length≤4000000):oP.f l=some l:=by
  unfold oP.f;simp only[Option.bind_some];rw[if_pos (by simp;omega)];simp
theorem IC (l:List S64) (hl:l.length≤4000000):qM.f l=some l:=by
  unfold qM.f;simp only[Option.bind_some];rw[if_pos (by simp;omega)];simp
theorem abw (x y:Int):Go.bits .and .i64 x y=wrap64 (((BitVec.ofInt IntKind.i64.bits x&&& BitVec.ofInt IntKind.i64.bits y).toNat:Nat):Int):=by
  unfold Go.bits;rw[IntWalk.i64_left]
theorem bits255 (x:Int):0≤Go.bits .and .i64 x 255∧Go.bits .and .i64 x 255≤255:=by
  have h2:(BitVec.ofInt IntKind.i64.bits 255).toNat≤255:=by decide
  rw[abw];obtain⟨y,hy⟩:∃y,BitVec.ofInt IntKind.i64.bits 255=y:=⟨_,rfl⟩;rw[hy]at h2 ⊢
  have h:(BitVec.ofInt IntKind.i64.bits x&&& y).toNat≤255:=by
    rw[BitVec.toNat_and];exact Nat.le_trans Nat.and_le_right h2
  rw[eH (by omega) (by omega)];omega
section
variable (b:List Int) (hb:b.length≤1048576)
include hb
theorem CH (i h:Int) (hi:0≤i):∃v i' h',lX.f b i h=some (v,i',h')∧0≤v∧v≤255∧0≤i':=by
  unfold lX.f;by_cases h1:i<(b.length:Int)
  · rw[if_pos h1,if_pos hi];exact⟨_,_,_,rfl,(bits255 _).1,(bits255 _).2,by rw[eH (by omega) (by omega)];omega⟩
  · rw[if_neg h1];exact⟨_,_,_,rfl,(bits255 _).1,(bits255 _).2,hi⟩
theorem kZ (i h n:Int) (hi:0≤i):∃v i' h',eW.f b i h n=some (v,i',h')∧0≤v∧(0<n→v<n)∧(n≤0→v=0)∧0≤i':=by
  unfold eW.f;by_cases h1:n≤0
  · rw[if_pos h1];exact⟨_,_,_,rfl,by omega,by omega,fun _=>rfl,hi⟩
  rw[if_neg h1];have key:∀v:Int,0≤v→0≤Int.tmod v n∧(0<n→Int.tmod v n<n):=fun v hv=>⟨Int.tmod_nonneg n hv,fun h2=>by rw[Int.tmod_eq_emod_of_nonneg hv];exact Int.emod_lt_of_pos v h2⟩;by_cases h2:n≤256
  · rw[if_pos h2];obtain⟨v,i1,h1',e,v0,v1,i0⟩:=CH b hb i h hi;rw[e,Option.bind_some,if_neg (by omega)];exact⟨_,_,_,rfl,(key v v0).1,(key v v0).2,by omega,i0⟩
  rw[if_neg h2];obtain⟨x,i1,g1,e1,x0,x1,j1⟩:=CH b hb i h hi;obtain⟨y,i2,g2,e2,y0,y1,j2⟩:=CH b hb i1 g1 j1;obtain⟨z,i3,g3,e3,z0,z1,j3⟩:=CH b hb i2 g2 j2;obtain⟨u,i4,g4,e4,u0,u1,j4⟩:=CH b hb i3 g3 j3;rw[e1,Option.bind_some];dsimp only;rw[e2,Option.bind_some];dsimp only;rw[e3,Option.bind_some];dsimp only;rw[e4,Option.bind_some,if_neg (by omega)];dsimp only;rw[eH (n:=x*16777216) (by omega) (by omega),eH (n:=y*65536) (by omega) (by omega),eH (n:=z*256) (by omega) (by omega),eH (n:=x*16777216+y*65536) (by omega) (by omega),eH (n:=x*16777216+y*65536+z*256) (by omega) (by omega),eH (by omega) (by omega)];exact⟨_,_,_,rfl,(key _ (by omega)).1,(key _ (by omega)).2,by omega,j4⟩
omit hb in
theorem agx:∃h,Ev (fun k=>mU.f k b) (b,0,h):=by
  have key:∀i,i≤b.length→∀x:Int,∃h,Ev (fun k=>mU.l0 k b x (i:Int)) (b,0,h):=by
    refine down (n:=b.length) ?_ ?_
    · intro x;exact⟨x,Ev.step (fun k=>by rw[mU.l0]) (aT (by omega) (Ev.now _))⟩
    · intro i hi ih x;by_cases h4:(i:Int)<4000
      · obtain⟨h,he⟩:=ih (Go.bits .and .i64 (wrap64 ((wrap64 ((wrap64 (x*131))+(wrap64 (rd b (i:Int)))))+7)) 1073741823);refine⟨h,Ev.step (fun k=>by rw[mU.l0]) (evp (by omega) (evp h4 (evp (by omega) ?_)))⟩;rw[eH (n:=(i:Int)+1) (by omega) (by omega)];exact he
      · exact⟨x,Ev.step (fun k=>by rw[mU.l0]) (evp (by omega) (aT h4 (Ev.now _)))⟩
  unfold mU.f;exact key 0 (Nat.zero_le _) _
end
section
variable (b:List Int) (hb:b.length≤1048576)
include hb
theorem Vo (i h n:Int) (hi:0≤i):∃v i' h',tx.f b i h n=some (v,i',h')∧0≤i':=by
  unfold tx.f;obtain⟨v,i1,h1,e,_,_,_,j⟩:=kZ b hb i h n hi;rw[e,Option.bind_some];exact⟨_,_,_,rfl,j⟩
theorem Vs (i h:Int) (l:List Int) (hi:0≤i) (hl:0<l.length):∃v i' h',uY.f b i h l=some (v,i',h')∧v∈l∧0≤i':=by
  unfold uY.f;obtain⟨v,i1,h1,e,v0,v1,_,j⟩:=kZ b hb i h (l.length:Int) hi;rw[e,Option.bind_some,if_pos v0,if_pos (v1 (by omega))];obtain⟨m,rfl⟩:=Int.eq_ofNat_of_zero_le v0;have hm:m<l.length:=by have:=v1 (by omega);omega
  exact⟨_,_,_,rfl,by dsimp only;rw[Ff l m hm];exact List.getElem_mem hm,j⟩
end
end Go.Proofs.YtnjfiaekdcekgaaGreatDoor.Q
namespace Go.Proofs.YtnjfiaekdcekgaaGreatDoor.P
open Go.RowKit Go.Proofs.YtnjfiaekdcekgaaGreatDoorW.bS Go.Proofs.YtnjfiaekdcekgaaGreatDoorW.dU Go.Proofs.YtnjfiaekdcekgaaGreatDoorW.dX
attribute [local go_sem] fE fI fH fL fG fK fF fJ
theorem acZ (d:Nat) (w:World) (x0 y0:Int) (x1 y1:Int) (x2 y2:Int) (x3 y3:Int):
  (Op.equalIn (d+2) 57 (.agg #[.int .i64 x0,.int .i64 x1,.int .i64 x2,.int .i64 x3]) (.agg #[.int .i64 y0,.int .i64 y1,.int .i64 y2,.int .i64 y3])).run Tryz.prog w= .ok (x0==y0&&(x1==y1&&(x2==y2&&(x3==y3)))) w:=by
 refine Sr Tryz.underlying57 (by kernel_rfl) ?_;refine eqf_cons (by rfl) (by go_simp;rfl) (by go_simp;rfl) (by go_simp) ?_;refine eqf_cons (by rfl) (by go_simp;rfl) (by go_simp;rfl) (by go_simp) ?_;refine eqf_cons (by rfl) (by go_simp;rfl) (by go_simp;rfl) (by go_simp) ?_;exact Ss (by rfl) (by go_simp;rfl) (by go_simp;rfl) (by go_simp)
theorem amR (d:Nat) (w:World) (x0 y0:Int) (x1 y1:Int):
  (Op.equalIn (d+2) 62 (.agg #[.int .i64 x0,.int .i64 x1]) (.agg #[.int .i64 y0,.int .i64 y1])).run Tryz.prog w= .ok (x0==y0&&(x1==y1)) w:=by
 refine Sr Tryz.underlying62 (by kernel_rfl) ?_;refine eqf_cons (by rfl) (by go_simp;rfl) (by go_simp;rfl) (by go_simp) ?_;exact Ss (by rfl) (by go_simp;rfl) (by go_simp;rfl) (by go_simp)
end Go.Proofs.YtnjfiaekdcekgaaGreatDoor.P
namespace Go.Proofs.YtnjfiaekdcekgaaGreatDoor.Q
open Go.RowKit Go.Proofs.YtnjfiaekdcekgaaGreatDoor.P Go.Proofs.YtnjfiaekdcekgaaGreatDoorW.bS
theorem oZ (a b c:Int):eK.f a b c=some (decide (b≤a∧a≤c)):=by
  unfold eK.f;by_cases h:b≤a<;>simp[h]
theorem yA (a b c:Int):im.f a b c=some (decide (b≤a∧a≤c)):=by
  unfold im.f;by_cases h:a≥b
  · rw[if_pos h];simp[show b≤a from h]
  · rw[if_neg h];simp[show¬b≤a from h]
def SI (x:Int):Prop:=(Lit.int .u8 x).wf=true
theorem op5 {w:World}:np Tryz.prog w (Kd.int .u8) 5 SI:=(np.int Tryz.underlying5)
end Go.Proofs.YtnjfiaekdcekgaaGreatDoor.Q
namespace Go.Proofs.YtnjfiaekdcekgaaGreatDoor.Q
open Go.RowKit Go.Proofs.YtnjfiaekdcekgaaGreatDoor.P Go.Proofs.YtnjfiaekdcekgaaGreatDoorW.bS Go.Proofs.YtnjfiaekdcekgaaGreatDoorW.dX
def fine (n:Int):Bool:=decide (1≤n∧n≤10000000)
theorem wD (n:Int):spec_l18Pitch.f n=some (fine n):=by unfold spec_l18Pitch.f;rw[yA];rfl
theorem wj (n:Int):fP.f n=some (fine n):=by unfold fP.f;rw[oZ];rfl
def nA (n:Int):Int:=if fine n=true then n else 0
def kS (a k b:Int):Int:=
  if fine a=true then
    if 0≤b∧b≤100000 then
      if k=1 then nA (wrap64 (Int.tdiv (mx (wrap64 ((wrap64 (3*a))-b)) 0) 2))
      else if k=2 then nA (wrap64 (Int.tdiv (mx (wrap64 ((wrap64 (3*a))-b)) 0) 4))
      else if k=3 then if b=0 then nA (wrap64 (2*a))else 0
      else if k=4 then if b=0 then nA (wrap64 (Int.tdiv a 2))else 0
      else 0
    else 0
  else 0
theorem U9 (a b:Int):mx a b=mx b a:=by unfold mx;split<;>split<;>omega
theorem uo {n:Int} {x:Option Bool} (h:x=some (fine n)):Ev (fun _=>x.bind fun t=>if t=true then some n else some 0) (nA n):=by
  subst h;simp only[Option.bind_some];unfold nA;by_cases h:fine n=true
  · rw[if_pos h,if_pos h];exact Ev.now _
  · rw[if_neg h,if_neg h];exact Ev.now _
theorem WG (a k b:Int):Ev (fun n=>iP.f n a k b) (kS a k b):=by
  have jt:Ev (fun n=>iP.j0 n a k b true) 0:=Ev.step (fun n=>by rw[iP.j0]) (evp rfl (Ev.now _));unfold iP.f;refine bR (wj a) ?_;unfold kS;by_cases ha:fine a=true;rotate_left
  · exact cq ha<|aT ha jt
  refine df ha<|evp ha (bR (oZ _ _ _) ?_);by_cases hb:0≤b∧b≤100000;rotate_left
  · exact cq hb<|aT (by simpa using hb) jt
  refine df hb<|evp (by simpa using hb) ?_
  have jf:(k=3∨k=4→b=0)→Ev (fun n=>iP.j0 n a k b false) (if k=1 then nA (wrap64 (Int.tdiv (mx (wrap64 ((wrap64 (3*a))-b)) 0) 2))
      else if k=2 then nA (wrap64 (Int.tdiv (mx (wrap64 ((wrap64 (3*a))-b)) 0) 4))
      else if k=3 then if b=0 then nA (wrap64 (2*a))else 0
      else if k=4 then if b=0 then nA (wrap64 (Int.tdiv a 2))else 0
      else 0):=by
    intro h0;refine Ev.step (fun n=>by rw[iP.j0]) (aT (by decide) ?_);by_cases h1:k=1
    · exact df h1<|evp h1 (uo (wj _))
    refine cq h1<|aT h1 ?_;by_cases h2:k=2
    · exact df h2<|evp h2 (uo (wj _))
    refine cq h2<|aT h2 ?_;by_cases h3:k=3
    · exact df h3<|df (h0 (.inl h3))<|evp h3 (uo (wj _))
    refine cq h3<|aT h3 ?_;by_cases h4:k=4
    · exact df h4<|df (h0 (.inr h4))<|evp h4 (uo (wj _))
    refine cq h4<|aT h4 ?_;refine bR (wj _) (aT (by decide) (Ev.now _))
  by_cases b0:b=0
  · exact evp b0 (jf fun _=>b0)
  refine aT b0 ?_;by_cases h3:k=3
  · refine evp h3 ?_;exact cq (by omega)<|cq (by omega)<|df h3<|cq b0 jt
  refine aT h3 ?_;by_cases h4:k=4
  · rw[show(k==4)=true by simp[h4]];exact cq (by omega)<|cq (by omega)<|cq (by omega)<|df h4<|cq b0 jt
  · rw[show(k==4)=false by simp[h4]];exact jf (by omega)
theorem Jh (a k b:Int):Ev (fun n=>eZ.f n a k b) (kS a k b):=by
  have jt:Ev (fun n=>eZ.j0 n a k b true) 0:=Ev.step (fun n=>by rw[eZ.j0]) (evp rfl (Ev.now _));unfold eZ.f;refine bR (wD a) ?_;unfold kS;by_cases ha:fine a=true;rotate_left
  · exact cq ha<|aT ha jt
  refine df ha<|evp ha (bR (yA _ _ _) ?_);by_cases hb:0≤b∧b≤100000;rotate_left
  · rw[show(!decide (0≤b∧b≤100000))=true by rw[decide_eq_false hb];rfl];exact cq hb jt
  rw[show(!decide (0≤b∧b≤100000))=false by rw[decide_eq_true hb];rfl];refine df hb ?_;have j2t:Ev (fun n=>eZ.j2 n a 0 true) (nA (wrap64 (Int.tdiv a 2))):=Ev.step (fun n=>by rw[eZ.j2]) (evp rfl (uo (wD _)));have UI:Ev (fun n=>eZ.j2 n a 0 false) 0:=Ev.step (fun n=>by rw[eZ.j2]) (aT (by decide) (uo (wD 0)));refine Ev.step (fun n=>by rw[eZ.j0]) (aT (by decide) ?_);by_cases h1:k=1
  · rw[U9 0];exact df h1<|evp h1 (uo (wD _))
  refine cq h1<|aT h1 ?_;by_cases h2:k=2
  · rw[U9 0];exact df h2<|evp h2 (uo (wD _))
  refine cq h2<|aT h2 ?_
  have ME:Ev (fun n=>eZ.j1 n a k b 0 false) (if k=4 then if b=0 then nA (wrap64 (Int.tdiv a 2))else 0 else 0):=by
    refine Ev.step (fun n=>by rw[eZ.j1]) (aT (by decide) ?_);by_cases h4:k=4
    · refine df h4<|evp h4 ?_;by_cases b0:b=0
      · rw[show(b==0)=true by simp[b0]];exact df b0 j2t
      · rw[show(b==0)=false by simp[b0]];exact cq b0 UI
    · exact cq h4<|aT h4 UI
  by_cases h3:k=3
  · refine df h3<|evp h3 ?_;by_cases b0:b=0
    · rw[show(b==0)=true by simp[b0]];exact df b0<|Ev.step (fun n=>by rw[eZ.j1]) (evp rfl (uo (wD _)))
    · rw[show(b==0)=false by simp[b0]];rw[if_neg (by omega)]at ME;exact cq b0 ME
  exact cq h3<|aT h3 ME
def m_ (i:Nat):Int:=if i=0∨i=2∨i=4∨i=7∨i=9 then 1 else 2
def nK (b:Int):List ar:=if 0≤b∧b≤5000 then(List.range 11).map (fun(i:Nat)=>⟨(i:Int),(i:Int)+1,m_ i,b⟩)else[]
theorem aj8:∀i:Nat,i<11→rd [1,2,1,2,1,2,2,1,2,1,2] (i:Int)=m_ i:=by decide
theorem WN (b:Int):Ev (fun k=>kz.f k b) (nK b):=by
  unfold kz.f nK;by_cases hb:0≤b∧b≤5000;rotate_left
  · refine cq hb (Ev.step (fun k=>by rw[kz.l0]) (evp (by decide) (bR (yA _ _ _) (aT (Cs hb) (Ev.now _)))))
  refine df hb ?_
  have key:∀i:Nat,i≤11→Ev (fun k=>kz.l0 k b ((List.range i).map (fun(i:Nat)=>(⟨(i:Int),(i:Int)+1,m_ i,b⟩:ar))) (i:Int)) ((List.range 11).map (fun(i:Nat)=>⟨(i:Int),(i:Int)+1,m_ i,b⟩)):=by
    refine down (n:=11) ?_ ?_
    · exact Ev.step (fun k=>by rw[kz.l0]) (aT (by decide) (Ev.now _))
    · intro i hi ih;refine Ev.step (fun k=>by rw[kz.l0]) ?_;refine evp (by omega) (bR (yA _ _ _) ?_);refine evp (CG hb) (bR rfl ?_);refine evp (by omega) ?_;refine evp (by simp;omega) ?_;refine evp (by simp;omega) ?_;rw[aj8 i hi,eH (n:=(i:Int)+1) (by omega) (by omega)];rw[List.range_succ,List.map_append]at ih;exact ih
  exact key 0 (by omega)
def LM (i:Nat) (x:ar):Prop:=x.f0=i∧x.f1=(i:Int)+1∧(x.f2=2∨x.f2=m_ i)∧0≤x.f3∧x.f3<1500
def gPlan (p:List ar):Prop:=p.length≤11∧∀i (h:i<p.length),LM i p[i]
theorem SD (b:Int) (h:0≤b∧b<1500):gPlan (nK b)∧(nK b).length=11:=by
  unfold nK;rw[if_pos (by omega)];refine⟨⟨by simp,fun i hi=> ?_⟩,by simp⟩;simp only[List.getElem_map,List.getElem_range];exact⟨rfl,rfl,.inr rfl,h.1,h.2⟩
theorem ac8 {p:List ar} (h:gPlan p) (n:Nat):gPlan (p.take n):=by
  refine⟨by have:=h.1;simp;omega,fun i hi=> ?_⟩;rw[List.getElem_take];exact h.2 i _
end Go.Proofs.YtnjfiaekdcekgaaGreatDoor.Q
namespace Go.Proofs.YtnjfiaekdcekgaaGreatDoor.Q
open Go.RowKit Go.Proofs.YtnjfiaekdcekgaaGreatDoor.P
def xU (e:S64):Bool:=decide (0≤e.f0.f0∧e.f0.f0≤3)&&(decide (0≤e.f0.f1∧e.f0.f1≤39)&&(decide (0≤e.f1∧e.f1≤2)&&decide (0≤e.f2∧e.f2≤100000)))
def kK:Int→List S64→Bool
  |_,[]=>true
  |p,e::r=>xU e&&(decide (p≤e.f2)&&kK e.f2 r)
def gA (l:List S64):Bool:=kK 0 l&&decide (l.length≤30)
def jP (l:List S64) (i:Nat):Int:=if i=0 then 0 else(l.getD (i-1) z64).f2
theorem ahm (l:List S64) (i:Nat) (h:i<l.length):jP l (i+1)=l[i].f2:=by simp[jP,List.getD_eq_getElem?_getD,h]
theorem VD (l:List S64) (i:Nat) (h0:0<i) (h:i<l.length):jP l i=l[i-1].f2:=by
  simp[jP,List.getD_eq_getElem?_getD,show i≠0 by omega,show i-1<l.length by omega]
theorem U0 (l:List S64) (i:Nat) (h:i<l.length):kK (jP l i) (l.drop i)=(xU l[i]&&(decide (jP l i≤l[i].f2)&&kK (jP l (i+1)) (l.drop (i+1)))):=by
  rw[List.drop_eq_getElem_cons h,ahm l i h];rfl
end Go.Proofs.YtnjfiaekdcekgaaGreatDoor.Q
namespace Go.Proofs.YtnjfiaekdcekgaaGreatDoor.P
open Go.RowKit Go.Proofs.YtnjfiaekdcekgaaGreatDoorW.bS
def pK (x:ar) (t:List Bool):Bool:=
  (decide (x.f2=1)||decide (x.f2=2))&&(decide (0≤x.f3∧x.f3≤5000)&&(decide (0≤x.f0∧x.f0≤11)&&(decide (0≤x.f1∧x.f1≤11)&&(decide (x.f1=(x.f0+1)%12)&&(t.getD x.f0.toNat false&& !t.getD x.f1.toNat false)))))
def planGo:List ar→List Bool→Bool
  |[],_=>true
  |x::r,t=>pK x t&&planGo r (t.set x.f1.toNat true)
def mZ:List Bool:=true::List.replicate 11 false
def jD (l:List ar):Bool:=decide (l.length≤11)&&planGo l mZ
def lZ (l:List ar) (t:List Bool):List Bool:=l.foldl (fun t x=>t.set x.f1.toNat true) t
def od:List Bool→List Int→Bool
  |b::t,p::q=>(if b then decide (1≤p∧p≤10000000)else decide (p=0))&&od t q
  |_,_=>true
def eX (p:List ar) (d:Int) (q:List Int):Bool:=
  jD p&&(decide (0≤d∧d≤p.length)&&(decide (q.length=12)&&od (lZ (p.take d.toNat) mZ) q))
theorem Vz:∀(l:List ar) (t:List Bool),planGo l t=true→∀x∈l,0≤x.f1∧x.f1≤11
  |[],_,_,x,hx=>by simp at hx
  |y::r,t,h,x,hx=>by
   simp only[planGo,Bool.and_eq_true]at h;rcases List.mem_cons.1 hx with rfl|hx
   · have h1:=h.1;simp[pK]at h1;exact h1.2.2.2.1
   · exact Vz r _ h.2 x hx
theorem Ow (l:List ar):∀t:List Bool,(lZ l t).length=t.length:=by
  induction l with
  |nil=>intro t;rfl
  |cons x r ih=>intro t;show(lZ r _).length=_;rw[ih,List.length_set]
theorem WC (l:List ar) (x:ar) (t:List Bool):lZ (l++[x]) t=(lZ l t).set x.f1.toNat true:=by simp[lZ,List.foldl_append]
end Go.Proofs.YtnjfiaekdcekgaaGreatDoor.P
namespace Go.Proofs.YtnjfiaekdcekgaaGreatDoor.P
set_option maxHeartbeats 8000000
set_option maxRecDepth 100000
open Go.RowKit Go.Proofs.YtnjfiaekdcekgaaGreatDoorW.bS Go.Proofs.YtnjfiaekdcekgaaGreatDoorW.dU Go.Proofs.YtnjfiaekdcekgaaGreatDoorW.dX
attribute [local go_sem] fE fI fH fL fG fK fF fJ
def uN.f (l0:List (ar)):Option (Bool):=some (jD l0)
theorem uN.calls (A0:Option Addr) (c0:Nat) (l0:List (ar)) (r:Bool) (w:World) (cd:Kd.C bl w A0 l0.length l0) (hc0:l0.length≤c0) (h:uN.f l0=some r):
    Calls Tryz.prog 97 #[.slice A0 l0.length c0] w fun e w'=>e= .returned (.bool r)∧Below w.heap.size w w':=by
  have H:=Option.some.inj h;clear h;by_cases h11:l0.length≤11;rotate_left
  · have hb:decide (11<(l0.length:Int))=true:=decide_eq_true (by omega);have hb2:decide (11<l0.length)=true:=decide_eq_true (by omega);obtain rfl:false=r:=(by rw[←H];simp[jD,h11]);go_enter Tryz.func97,Tryz.ntmps97;go_wp2;go_ret;exact⟨rfl,Below.refl _ _⟩
  · have hb:decide (11<(l0.length:Int))=false:=decide_eq_false (by omega);have hb2:decide (11<l0.length)=false:=decide_eq_false (by omega);go_enter Tryz.func97,Tryz.ntmps97;go_wp2
    go_loopg [12] (l0.length+1) (fun kq v12 w'=>∃(i:Nat) (tn:List Bool),v12= .int .i64 (i:Int)∧aj (i+kq=l0.length+1)∧aj (i≤l0.length)∧aj (tn.length=12)∧aj (w'.heap[w.heap.size]? =some (.cells (tn.map Value.bool).toArray 118 (0,0)))∧aj (planGo (l0.drop i) tn=r)∧aj (Below w.heap.size w w'))
    case atStart=>
      exact⟨0,mZ,rfl,⟨by omega⟩,⟨by omega⟩,⟨rfl⟩,⟨by rw[heap_alloc_new];rfl⟩,⟨by rw[←H];simp[jD,h11]⟩,⟨dB (Below.refl _ _) _⟩⟩
    case round=>
      obtain⟨i,tn,rfl,HK,HI,HT,HA,HP,HB⟩:=hrel;by_cases hlt:i<l0.length;rotate_left
      · have hb3:decide ((i:Int)<(l0.length:Int))=false:=decide_eq_false (by omega);have hb4:decide (i<l0.length)=false:=decide_eq_false (by omega)
        obtain rfl:true=r:=by
          have h1:=HP.out;rw[List.drop_eq_nil_of_le (by omega)]at h1;exact h1
        go_wp2;go_ret;exact⟨rfl,HB.out⟩
      · have hb3:decide ((i:Int)<(l0.length:Int))=true:=decide_eq_true (by omega);have hb4:decide (i<l0.length)=true:=decide_eq_true (by omega);obtain⟨ad,e,hx0,hx1,hx2,hx3⟩:=iC cd (i:Int) (by omega) (by omega);cases e;replace hx0:=hW HB hx0;replace hx1:=hW HB hx1;replace hx2:=hW HB hx2;replace hx3:=hW HB hx3;obtain⟨x,hx⟩:∃x,au l0 (i:Int)=x:=⟨_,rfl⟩;rw[hx]at hx0 hx1 hx2 hx3;simp only[Int.toNat_natCast]at hx0 hx1 hx2 hx3
        have hd:planGo (l0.drop i) tn=(pK x tn&&planGo (l0.drop (i+1)) (tn.set x.f1.toNat true)):=by
          rw[List.drop_eq_getElem_cons hlt];have e0:l0[i]=x:=(by rw[←hx];simp[au,List.getD_eq_getElem?_getD,hlt]);rw[e0];rfl
        have HX:=A_ hx;clear hx;have HD:=A_ hd;clear hd
        have win:∀(a b c:Int) (d:Bool) (W:World),decide (b≤a∧a≤c)=d→Calls Tryz.prog 58 #[.int .i64 a,.int .i64 b,.int .i64 c] W fun e w'=>e= .returned (.bool d)∧cV W w':=fun a b c d W hd=>
          eK.calls a b c d W (by rw[←hd];unfold eK.f;by_cases hh:b≤a<;>simp[hh])
        have tc:∀k,k<12→∀o:Obj,(wr.alloc o).cell? ⟨w.heap.size,k,none⟩=some (.bool (tn.getD k false)):=fun k hk o=>(fQ (bC HA.out o) k).trans (by have:=HT.out;simp[List.getD_eq_getElem?_getD,show k<tn.length by omega]);by_cases q1:0≤x.f3∧x.f3≤5000;rotate_left
        · have W1:=A_ fun W=>win x.f3 0 5000 false W (decide_eq_false q1);have Q1:=A_ q1;clear q1 win tc
          go_wp2_with (first|(go_at_call 58;(with_reducible refine(W1.out _).mono ?_);rintro e w' ⟨rfl,⟨nd,rfl⟩⟩))
          all_goals
            obtain rfl:false=r:=by
              rw[←HP.out,HD.out];simp[pK,Q1.out]
            go_ret;exact⟨rfl,by repeat(first|exact HB.out|apply dB|apply pw_below_drewN|apply fC)⟩
        have W1:=A_ fun W=>win x.f3 0 5000 true W (decide_eq_true q1);by_cases q2:0≤x.f0∧x.f0≤11;rotate_left
        · have W2:=A_ fun W=>win x.f0 0 11 false W (decide_eq_false q2);have Q1:=A_ q2;clear q1 q2 win tc
          go_wp2_with (first|(go_at_call 58;(with_reducible refine(W1.out _).mono ?_);rintro e w' ⟨rfl,⟨nd,rfl⟩⟩)|(go_at_call 58;(with_reducible refine(W2.out _).mono ?_);rintro e w' ⟨rfl,⟨nd,rfl⟩⟩))
          all_goals
            obtain rfl:false=r:=by
              rw[←HP.out,HD.out];simp[pK,Q1.out]
            go_ret;exact⟨rfl,by repeat(first|exact HB.out|apply dB|apply pw_below_drewN|apply fC)⟩
        have W2:=A_ fun W=>win x.f0 0 11 true W (decide_eq_true q2);by_cases q3:0≤x.f1∧x.f1≤11;rotate_left
        · have W3:=A_ fun W=>win x.f1 0 11 false W (decide_eq_false q3);have Q1:=A_ q3;clear q1 q2 q3 win tc
          go_wp2_with (first|(go_at_call 58;(with_reducible refine(W1.out _).mono ?_);rintro e w' ⟨rfl,⟨nd,rfl⟩⟩)|(go_at_call 58;(with_reducible refine(W2.out _).mono ?_);rintro e w' ⟨rfl,⟨nd,rfl⟩⟩)|(go_at_call 58;(with_reducible refine(W3.out _).mono ?_);rintro e w' ⟨rfl,⟨nd,rfl⟩⟩))
          all_goals
            obtain rfl:false=r:=by
              rw[←HP.out,HD.out];simp[pK,Q1.out]
            go_ret;exact⟨rfl,by repeat(first|exact HB.out|apply dB|apply pw_below_drewN|apply fC)⟩
        have W3:=A_ fun W=>win x.f1 0 11 true W (decide_eq_true q3);clear win;obtain⟨VJ,q2b⟩:=q2;obtain⟨VK,q3b⟩:=q3;have Kg:=A_ q1;clear q1;have hc0:=tc x.f0.toNat (by omega);have hc1:=tc x.f1.toNat (by omega);have hfz:=fun o:Obj=>aJ (bC HA.out o) x.f1.toNat;clear tc;by_cases q4:x.f1=(x.f0+1)%12;rotate_left
        · have NB:(x.f1==(x.f0+1)%12)=false:=beq_eq_false_iff_ne.mpr q4;have NC:(x.f1 != (x.f0+1)%12)=true:=bne_iff_ne.mpr q4;have Q4:=A_ q4;clear q4 hc0 hc1 hfz
          go_wp2_with (first|(go_at_call 58;(with_reducible refine(W1.out _).mono ?_);rintro e w' ⟨rfl,⟨nd,rfl⟩⟩)|(go_at_call 58;(with_reducible refine(W2.out _).mono ?_);rintro e w' ⟨rfl,⟨nd,rfl⟩⟩)|(go_at_call 58;(with_reducible refine(W3.out _).mono ?_);rintro e w' ⟨rfl,⟨nd,rfl⟩⟩))
          all_goals
            obtain rfl:false=r:=by
              rw[←HP.out,HD.out];simp[pK,Q4.out]
            go_ret;exact⟨rfl,by repeat(first|exact HB.out|apply dB|apply pw_below_drewN|apply fC)⟩
        have NB:(x.f1==(x.f0+1)%12)=true:=beq_iff_eq.mpr q4;have NC:(x.f1 != (x.f0+1)%12)=false:=bne_eq_false_iff_eq.mpr q4;have Q4:=A_ q4;clear q4;obtain⟨b0,hb0⟩:∃b,tn.getD x.f0.toNat false=b:=⟨_,rfl⟩;obtain⟨b1,hb1⟩:∃b,tn.getD x.f1.toNat false=b:=⟨_,rfl⟩;rw[hb0]at hc0;rw[hb1]at hc1;have B0:=A_ hb0;have B1:=A_ hb1;clear hb0 hb1
        go_wp2_with (first|(go_at_call 58;(with_reducible refine(W1.out _).mono ?_);rintro e w' ⟨rfl,⟨nd,rfl⟩⟩)|(go_at_call 58;(with_reducible refine(W2.out _).mono ?_);rintro e w' ⟨rfl,⟨nd,rfl⟩⟩)|(go_at_call 58;(with_reducible refine(W3.out _).mono ?_);rintro e w' ⟨rfl,⟨nd,rfl⟩⟩))
        all_goals first
          |(go_ret
            have e:false=r:=by
              have h3:=B0.out;have h4:=B1.out;rw[←HP.out,HD.out];unfold pK;rw[h3,h4];simp[*]
            subst e;exact⟨rfl,by repeat(first|exact HB.out|apply dB|apply pw_below_drewN|apply fC)⟩)
          |(go_roundg (gk-1)
            case measure=>have:=HK.out;omega
            case rel=>
              refine⟨i+1,tn.set x.f1.toNat true,by go_num,⟨by have:=HK.out;omega⟩,⟨by omega⟩,⟨by rw[List.length_set];exact HT.out⟩,⟨?_⟩,⟨?_⟩,⟨?_⟩⟩
              · refine di (cs:=(tn.map Value.bool).toArray) ?_ x.f1.toNat (.bool true) ?_
                · repeat(first|exact HA.out|refine bP ?_ _|refine bF ?_|refine bC ?_ _)
                · simp[List.map_set]
              · rw[←HP.out,HD.out]
                have e:pK x tn=true:=by
                  have h1:=Q4.out;have h2:=Kg.out;have h3:=B0.out;have h4:=B1.out;unfold pK;rw[h3,h4];simp[*];omega
                rw[e,Bool.true_and]
              · refine nZ ?_ (Nat.le_refl _)
                repeat(first|exact HB.out|apply dB|apply pw_below_drewN|apply fC))
def lS.f (ak:List (ar)) (ax:Int) (aq:List Int):Option (Bool):=some (eX ak ax aq)
theorem lS.calls (aU:Option Addr) (c0_0:Nat) (ak:List (ar)) (ax:Int) (a6:Option Addr) (aW:Nat) (aq:List Int) (r:Bool) (w:World) (cp:Kd.C bl w aU ak.length ak) (cx:ak.length≤c0_0) (cv:Kd.C (Kd.int .i64) w a6 aq.length aq) (cA:aq.length≤aW) (h:lS.f ak ax aq=some r):
  Calls Tryz.prog 55 #[.agg #[.slice aU ak.length c0_0,.int .i64 ax,.slice a6 aq.length aW]] w fun e w'=>e= .returned (.bool r)∧Below w.heap.size w w':=by
 have HH:=A_ (Option.some.inj h);clear h
 have win:∀(a b c:Int) (d:Bool) (W:World),decide (b≤a∧a≤c)=d→Calls Tryz.prog 58 #[.int .i64 a,.int .i64 b,.int .i64 c] W fun e w'=>e= .returned (.bool d)∧cV W w':=fun a b c d W hd=>
  eK.calls a b c d W (by rw[←hd];unfold eK.f;by_cases hh:b≤a<;>simp[hh])
 have hpl:∀(b:Bool) (o:Obj),jD ak=b→Calls Tryz.prog 97 #[.slice aU ak.length c0_0] (w.alloc o) fun e w'=>e= .returned (.bool b)∧Below (w.alloc o).heap.size (w.alloc o) w':=fun b o hb=>
  uN.calls aU c0_0 ak b (w.alloc o) (Kd.gP cp o) cx (by unfold uN.f;rw[hb])
 have rU:∀(w1:World) (o:Obj),Below (w.alloc o).heap.size (w.alloc o) w1→w1.heap[w.heap.size]? =some o∧Below w.heap.size w w1∧w.heap.size+1≤w1.heap.size:=fun w1 o hb=>
  ⟨oG (mC w o) hb,bz (dB (Below.refl _ _) o) hb,by have:=hb.size;simpa using this⟩
 by_cases p1:jD ak=true;rotate_left
 ·have P1:=A_ fun o=>hpl false o (Bool.eq_false_iff.2 p1);obtain rfl:false=r:=by rw[←HH.out];simp[eX,p1]
  clear hpl win p1;go_enter Tryz.func55,Tryz.ntmps55
  go_wp2_with (first|(go_at_call 97;(with_reducible refine(P1.out _).mono ?_);rintro e w1 ⟨rfl,hb⟩;obtain⟨gw,rR,uu⟩:=rU w1 _ hb;have HB:=A_ rR;clear hb gw rR uu))
  go_ret;exact⟨rfl,by repeat(first|exact HB.out|apply dB|apply pw_below_drewN|apply fC)⟩
 have P1:=A_ fun o=>hpl true o p1;by_cases p2:0≤ax∧ax≤(ak.length:Int);rotate_left
 ·have W1:=A_ fun W=>win ax 0 ak.length false W (decide_eq_false p2);obtain rfl:false=r:=by rw[←HH.out];simp[eX,p2]
  clear hpl win p1 p2;go_enter Tryz.func55,Tryz.ntmps55
  go_wp2_with (first|(go_at_call 97;(with_reducible refine(P1.out _).mono ?_);rintro e w1 ⟨rfl,hb⟩;obtain⟨gw,rR,uu⟩:=rU w1 _ hb;have HB:=A_ rR;have uv:=fQ gw 0;have uw:=fQ gw 1;have C8:=fQ gw 2;clear hb gw rR uu)|(go_at_call 58;(with_reducible refine(W1.out _).mono ?_);rintro e w' ⟨rfl,⟨nd,rfl⟩⟩))
  go_ret;exact⟨rfl,by repeat(first|exact HB.out|apply dB|apply pw_below_drewN|apply fC)⟩
 have W1:=A_ fun W=>win ax 0 ak.length true W (decide_eq_true p2);by_cases p3:aq.length=12;rotate_left
 ·have p3a:((aq.length:Int) != 12)=true:=bne_iff_ne.mpr (by omega);have p3b:((aq.length:Int)==12)=false:=beq_eq_false_iff_ne.mpr (by omega);obtain rfl:false=r:=by rw[←HH.out];simp[eX,p3]
  have P3:=A_ p3;clear hpl win p1 p2 p3;go_enter Tryz.func55,Tryz.ntmps55
  go_wp2_with (first|(go_at_call 97;(with_reducible refine(P1.out _).mono ?_);rintro e w1 ⟨rfl,hb⟩;obtain⟨gw,rR,uu⟩:=rU w1 _ hb;have HB:=A_ rR;have HX:=A_ gw;have HS:=A_ uu;have uv:=fQ gw 0;have uw:=fQ gw 1;clear hb gw rR uu)|(go_at_call 58;(with_reducible refine(W1.out _).mono ?_);rintro e w2 ⟨rfl,hdr⟩;have n1:=A_ (bz HB.out hdr.below);have gw:=oG HX.out hdr.below;have n3:=A_ (Nat.le_trans HS.out hdr.below.size);clear HB HX HS uv uw hdr;have HB:=n1;have HX:=A_ gw;have HS:=n3;clear n1 n3;have uv:=fQ gw 0;have uw:=fQ gw 1;have C8:=fQ gw 2;have Tc:=fun o:Obj=>fQ (bC gw o) 0;have Td:=fun o:Obj=>fQ (bC gw o) 1;have Te:=fun o:Obj=>fQ (bC gw o) 2;clear gw))
  go_ret;exact⟨rfl,by repeat(first|exact HB.out|apply dB|apply pw_below_drewN|apply fC)⟩
 have p3a:((aq.length:Int) != 12)=false:=bne_eq_false_iff_eq.mpr (by omega);have p3b:((aq.length:Int)==12)=true:=beq_iff_eq.mpr (by omega);obtain⟨d,rfl⟩:∃d:Nat,ax=(d:Int):=⟨ax.toNat,by omega⟩;have hd1:d≤ak.length:=by omega
 have hd2:d≤c0_0:=by omega
 have hm:ak.length≤9223372036854775807:=Kd.xa cp;have HK:=A_ (Vz ak mZ (by have:=p1;simp[jD]at this;exact this.2));have HQ:aj (od (lZ (ak.take d) mZ) aq=r):=⟨by rw[←HH.out];simp[eX,p1,p3,hd1]⟩;have P3:=A_ p3;have dI:=A_ cp;have Zy:=A_ cv;clear hpl p1 p2 p3 HH cp cv;go_enter Tryz.func55,Tryz.ntmps55
 go_wp2_with (first|(go_at_call 97;(with_reducible refine(P1.out _).mono ?_);rintro e w1 ⟨rfl,hb⟩;obtain⟨gw,rR,uu⟩:=rU w1 _ hb;have HB:=A_ rR;have HX:=A_ gw;have HS:=A_ uu;have uv:=fQ gw 0;have uw:=fQ gw 1;clear hb gw rR uu)|(go_at_call 58;(with_reducible refine(W1.out _).mono ?_);rintro e w2 ⟨rfl,hdr⟩;have n1:=A_ (bz HB.out hdr.below);have gw:=oG HX.out hdr.below;have n3:=A_ (Nat.le_trans HS.out hdr.below.size);clear HB HX HS uv uw hdr;have HB:=n1;have HX:=A_ gw;have HS:=n3;clear n1 n3;have uv:=fQ gw 0;have uw:=fQ gw 1;have C8:=fQ gw 2;have Tc:=fun o:Obj=>fQ (bC gw o) 0;have Td:=fun o:Obj=>fQ (bC gw o) 1;have Te:=fun o:Obj=>fQ (bC gw o) 2;clear gw))
 have BX:=A_ (rfl: #[Value.slice aU ak.length c0_0,.int .i64 (d:Int),.slice a6 aq.length aW]= #[Value.slice aU ak.length c0_0,.int .i64 (d:Int),.slice a6 aq.length aW])
 go_loopg [34] (d+1) (fun kq v34 w'=>∃(i:Nat),v34= .int .i64 (i:Int)∧aj (i+kq=d+1)∧aj (i≤d)∧aj (w'.heap[w2.heap.size]? =some (.cells ((lZ (ak.take i) mZ).map Value.bool).toArray 118 (0,0)))∧aj (w'.heap[w.heap.size]? =some (.cells #[.slice aU ak.length c0_0,.int .i64 (d:Int),.slice a6 aq.length aW] 27 (0,0)))∧aj (Below w.heap.size w w'))
 case atStart=>
  exact⟨0,rfl,⟨by omega⟩,⟨by omega⟩,⟨by rw[heap_alloc_new];rfl⟩,⟨bC HX.out _⟩,⟨dB HB.out _⟩⟩
 case round=>
  clear uv uw C8 Tc Td Te HB HX;obtain⟨i,rfl,kU,HI2,HA,HX,HB⟩:=hrel;have CZ:(lZ (ak.take i) mZ).length=12:=Ow _ _;by_cases hlt:i<d
  ·have hb3:decide ((i:Int)<(d:Int))=true:=decide_eq_true (by omega);have hb4:decide (i<d)=true:=decide_eq_true (by omega);obtain⟨ad,e,hx0,hx1,hx2,hx3⟩:=iC dI.out (i:Int) (by omega) (by omega);cases e;replace hx0:=hW HB hx0;replace hx1:=hW HB hx1;replace hx2:=hW HB hx2;replace hx3:=hW HB hx3;obtain⟨x,hx⟩:∃x,au ak (i:Int)=x:=⟨_,rfl⟩;rw[hx]at hx0 hx1 hx2 hx3;simp only[Int.toNat_natCast]at hx0 hx1 hx2 hx3;have hil:i<ak.length:=(by omega);have e0:ak[i]=x:=(by rw[←hx];simp[au,List.getD_eq_getElem?_getD,hil]);obtain⟨q1,q2⟩:=HK.out x (by rw[←e0];exact List.getElem_mem hil);have HT:aj (lZ (ak.take (i+1)) mZ=(lZ (ak.take i) mZ).set x.f1.toNat true):=⟨by rw[List.take_succ_eq_append_getElem hil,e0,WC]⟩;obtain⟨tn,v_⟩:∃tn,lZ (ak.take i) mZ=tn:=⟨_,rfl⟩;have zK:=A_ (show wr.heap[w2.heap.size]? =some (.cells (tn.map Value.bool).toArray 118 (0,0))by rw[←v_];exact HA.out);rw[v_]at CZ HT;have hc1:∀o:Obj,(wr.alloc o).cell? ⟨w2.heap.size,x.f1.toNat,none⟩=some (.bool (tn.getD x.f1.toNat false)):=fun o=>(fQ (bC zK.out o) _).trans (by simp[List.getD_eq_getElem?_getD,show x.f1.toNat<tn.length by omega]);have hfz:=fun o:Obj=>aJ (bC zK.out o) x.f1.toNat;clear hx e0 v_ HA CZ;go_wp2
   go_roundg (d-i)
   case measure=>have:=kU.out;omega
   case rel=>
    refine⟨i+1,by go_num,⟨by omega⟩,⟨by omega⟩,⟨?_⟩,⟨?_⟩,⟨?_⟩⟩
    ·rw[HT.out];refine di (cs:=(tn.map Value.bool).toArray) (bC zK.out _) x.f1.toNat (.bool true) ?_;simp[List.map_set]
    ·refine blk_far ?_ (by have:=HS.out;show w.heap.size≠w2.heap.size;omega) _;exact bC HX.out _
    ·refine nZ (dB HB.out _) (by have:=HS.out;omega)
  ·have hb3:decide ((i:Int)<(d:Int))=false:=decide_eq_false (by omega);have hb4:decide (i<d)=false:=decide_eq_false (by omega);obtain rfl:i=d:=(by have:=HI2.out;omega);obtain⟨tn,v_⟩:∃tn,lZ (ak.take i) mZ=tn:=⟨_,rfl⟩;have zK:=A_ (show wr.heap[w2.heap.size]? =some (.cells (tn.map Value.bool).toArray 118 (0,0))by rw[←v_];exact HA.out);have HT:=A_ (show tn.length=12 by rw[←v_];exact CZ);have Qu:=A_ (show od tn aq=r by rw[←v_];exact HQ.out);have uv:=fQ HX.out 0;have uw:=fQ HX.out 1;have C8:=fQ HX.out 2;clear HA HQ v_ CZ;go_wp2;have P4:=P3.out
   go_loopg [45] 13 (fun kq v45 w'=>∃(j:Nat),v45= .int .i64 (j:Int)∧aj (j+kq=13)∧aj (j≤12)∧aj (od (tn.drop j) (aq.drop j)=r)∧aj (w'.heap[w2.heap.size]? =some (.cells (tn.map Value.bool).toArray 118 (0,0)))∧aj (Below w.heap.size w w'))
   case atStart=>exact⟨0,rfl,⟨by omega⟩,⟨by omega⟩,⟨Qu.out⟩,⟨zK.out⟩,⟨HB.out⟩⟩
   case round=>
    clear uv uw C8 HB HX zK Qu;obtain⟨j,rfl,q9,zO,HQ,HA,HB⟩:=hrel;by_cases hlt2:j<12;rotate_left
    ·have pD:decide ((j:Int)<(aq.length:Int))=false:=decide_eq_false (by omega);have LY:decide (j<aq.length)=false:=decide_eq_false (by omega)
     obtain rfl:true=r:=by
      have h1:=HQ.out;rw[List.drop_eq_nil_of_le (by have:=HT.out;omega)]at h1;simpa[od]using h1
     clear P4;go_wp2;go_ret;exact⟨rfl,HB.out⟩
    ·have pD:decide ((j:Int)<(aq.length:Int))=true:=decide_eq_true (by omega);have LY:decide (j<aq.length)=true:=decide_eq_true (by omega);have hj:j<aq.length:=(by omega);obtain⟨ad,e,hy⟩:=Kd.jZ Zy.out (j:Int) (by omega) (by omega);cases e;replace hy:=hW HB hy;obtain⟨y,MC⟩:∃y,rd aq (j:Int)=y:=⟨_,rfl⟩;obtain⟨b,L0⟩:∃b,tn.getD j false=b:=⟨_,rfl⟩;rw[MC]at hy;simp only[Int.toNat_natCast]at hy;have adl:=HT.out;have hct:wr.cell? ⟨w2.heap.size,j,none⟩=some (.bool b):=(fQ HA.out j).trans (by rw[←L0];simp[List.getD_eq_getElem?_getD,show j<tn.length by omega])
     have HD:aj (od (tn.drop j) (aq.drop j)=((if b then decide (1≤y∧y≤10000000)else decide (y=0))&&od (tn.drop (j+1)) (aq.drop (j+1)))):=⟨by
      rw[List.drop_eq_getElem_cons (show j<tn.length by omega),List.drop_eq_getElem_cons (show j<aq.length by omega)];have e1:tn[j]=b:=(by rw[←L0];simp[List.getD_eq_getElem?_getD,show j<tn.length by omega]);have e2:aq[j]=y:=(by rw[←MC];simp[rd,List.getD_eq_getElem?_getD,show j<aq.length by omega]);rw[e1,e2];rfl⟩
     have fine:∀(d:Bool) (W:World),decide (1≤y∧y≤10000000)=d→Calls Tryz.prog 98 #[.int .i64 y] W fun e w'=>e= .returned (.bool d)∧cV W w':=fun d W hd=>
      fP.calls y d W (by rw[←hd];unfold fP.f eK.f;by_cases hh:1≤y<;>simp[hh])
     clear MC L0 adl P4;cases b with
     |true=>
      by_cases q:1≤y∧y≤10000000
      ·have F1:=A_ fun W=>fine true W (decide_eq_true q);have Q:=A_ q;clear q fine
       go_wp2_with (first|(go_at_call 98;(with_reducible refine(F1.out _).mono ?_);rintro e w' ⟨rfl,⟨nd,rfl⟩⟩))
       go_roundg (12-j)
       case measure=>have:=q9.out;omega
       case rel=>
        refine⟨j+1,by go_num,⟨by omega⟩,⟨by omega⟩,⟨?_⟩,⟨?_⟩,⟨?_⟩⟩
        ·rw[←HQ.out,HD.out];simp[Q.out]
        ·repeat(first|exact HA.out|refine bP ?_ _|refine bF ?_)
        ·repeat(first|exact HB.out|apply dB|apply pw_below_drewN|apply fC)
      ·have F1:=A_ fun W=>fine false W (decide_eq_false q);have Q:=A_ q;clear q fine;obtain rfl:false=r:=by rw[←HQ.out,HD.out];simp[Q.out]
       go_wp2_with (first|(go_at_call 98;(with_reducible refine(F1.out _).mono ?_);rintro e w' ⟨rfl,⟨nd,rfl⟩⟩))
       go_ret;exact⟨rfl,by repeat(first|exact HB.out|apply dB|apply pw_below_drewN|apply fC)⟩
     |false=>
      by_cases q:y=0
      ·have q1:(y != 0)=false:=bne_eq_false_iff_eq.mpr q;have q2:(y==0)=true:=beq_iff_eq.mpr q;have Q:=A_ q;clear q fine;go_wp2
       go_roundg (12-j)
       case measure=>have:=q9.out;omega
       case rel=>
        refine⟨j+1,by go_num,⟨by omega⟩,⟨by omega⟩,⟨?_⟩,⟨?_⟩,⟨?_⟩⟩
        ·rw[←HQ.out,HD.out];simp[Q.out]
        ·repeat(first|exact HA.out|refine bP ?_ _|refine bF ?_)
        ·repeat(first|exact HB.out|apply dB|apply pw_below_drewN|apply fC)
      ·have q1:(y != 0)=true:=bne_iff_ne.mpr q;have q2:(y==0)=false:=beq_eq_false_iff_ne.mpr q;have Q:=A_ q;clear q fine;obtain rfl:false=r:=(by rw[←HQ.out,HD.out];simp[Q.out]);go_wp2;go_ret;exact⟨rfl,by repeat(first|exact HB.out|apply dB|apply pw_below_drewN|apply fC)⟩
def fY.l0:Nat→List Int→List (ar)→Int→Int→List (ar)→Int→List Int→Option (List Int)
 |0,_,_,_,_,_,_,_=>none
 |k+1,x3,BQ,Ge,o0,Pa,Pb,Gs=>if o0<Ge then(if 0≤o0 then(if o0<(BQ.length:Int)then(if 0≤((au BQ o0).f1)then(if((au BQ o0).f1)<(Gs.length:Int)then((lA.f k Pa Pb Gs o0).bind fun t801=>(if(rd Gs ((au BQ o0).f1))=t801 then(fY.l0 k x3 BQ Ge (wrap64 (o0+1)) Pa Pb Gs)else(if x3.length<17592186044416 then(fY.l0 k (x3++[o0]) BQ Ge (wrap64 (o0+1)) Pa Pb Gs)else(none))))else(none))else(none))else(none))else(none))else(some x3)
def fY.f (k:Nat) (ak:List (ar)) (ax:Int) (aq:List Int):Option (List Int):=(lS.f ak ax aq).bind fun FM=>(if FM=true then(if 0≤ax then(if ax≤(ak.length:Int)then((some (ak.take (ax:Int).toNat:List (ar))).bind fun bL=>(fY.l0 k (([]:List Int)) bL (bL.length:Int) 0 ak ax aq))else(none))else(none))else(some ([]:List Int)))
def fY.T7:Bool×List (List Nat×List Nat):=(true,[([],[]),([0],[0]),([],[]),([2],[2]),([1,3],[1,3]),([4],[4]),([],[]),([],[]),([6,7],[6,7]),([5,8],[5,8])])
def fY.B7:List Nat:=[0,1,0,4,15,31,0,0,192,511]
theorem fY.Je:rtab .any (opsOf Tryz.f100 7)=fY.T7:=by kernel_rfl
theorem fY.bits7:eN fY.T7.2 fY.B7=true:=by kernel_rfl
theorem fY.calls (k:Nat) (aU:Option Addr) (c0_0:Nat) (ak:List (ar)) (ax:Int) (a6:Option Addr) (aW:Nat) (aq:List Int) (r:List Int) (w:World) (cp:Kd.C bl w aU ak.length ak) (cx:ak.length≤c0_0) (cv:Kd.C (Kd.int .i64) w a6 aq.length aq) (cA:aq.length≤aW) (h:fY.f k ak ax aq=some r):
  Calls Tryz.prog 100 #[.agg #[.slice aU ak.length c0_0,.int .i64 ax,.slice a6 aq.length aW]] w fun e w'=>∃v0_:Value,e= .returned (v0_)∧Kd.R (Kd.int .i64) 3 w' w.heap.size (fun _=>True) v0_ r∧Below w.heap.size w w':=by
 have lR:=Tryz.underlying27;have yb:=Tryz.underlying110;have ix:=A_ cp;have iK:=A_ cx;clear cp cx;have iY:=A_ cv;have nM:=A_ cA;clear cv cA;have HB:=A_ (Below.refl w.heap.size w);have H:((lS.f ak ax aq).bind fun FM=>(if FM=true then(if 0≤ax then(if ax≤(ak.length:Int)then((some (ak.take (ax:Int).toNat:List (ar))).bind fun bL=>(fY.l0 k (([]:List Int)) bL (bL.length:Int) 0 ak ax aq))else(none))else(none))else(some ([]:List Int))))=some r:=h;clear h;replace H:=Option.bind_eq_some_iff.mp H;obtain⟨FM,fh,H⟩:=H
 (try dsimp only at H)
 have A2:=A_ fh;clear fh;by_cases c3:FM=true
 ·subst c3;rw[if_pos rfl]at H;obtain⟨Ps,ER⟩:∃y_:List Int,y_=(([]:List Int)):=⟨_,rfl⟩;replace H:(if 0≤ax then(if ax≤(ak.length:Int)then((some (ak.take (ax:Int).toNat:List (ar))).bind fun bL=>(fY.l0 k Ps bL (bL.length:Int) 0 ak ax aq))else(none))else(none))=some r:=by first|(rw[ER];with_reducible exact H)|(have aI:=(Option.bind_some _ _).symm.trans H;rw[ER];with_reducible exact aI)|(have aI:=(Option.bind_some _ _).symm.trans H;with_reducible exact aI)|with_reducible exact H|(rw[ER];exact H)|exact H
  have Rb:=A_ ER;clear ER;by_cases c4:0≤ax
  ·rw[if_pos c4]at H;have kj:=eq_true c4;have K_:decide (0≤ax)=true:=decide_eq_true c4;clear c4;by_cases c5:ax≤(ak.length:Int)
   ·rw[if_pos c5]at H;have ug:=eq_true c5;have CL:decide (ax≤(ak.length:Int))=true:=decide_eq_true c5;clear c5;obtain⟨bL,ES⟩:∃y_:List (ar),y_=(ak.take (ax:Int).toNat):=⟨_,rfl⟩;replace H:(fY.l0 k Ps bL (bL.length:Int) 0 ak ax aq)=some r:=by first|(rw[ES];with_reducible exact H)|(have aI:=(Option.bind_some _ _).symm.trans H;rw[ES];with_reducible exact aI)|(have aI:=(Option.bind_some _ _).symm.trans H;with_reducible exact aI)|with_reducible exact H|(rw[ES];exact H)|exact H
    have Rc:=A_ ES;clear ES;have H':=A_ H;clear H;go_enter Tryz.func100,Tryz.ntmps100
    go_wp2_with (first|((with_reducible refine gate_dst (N:=1) rfl ?_);refine bX (N:=1) (cs:= #[.slice aU ak.length c0_0,.int .i64 ax,.slice a6 aq.length aW]) (t:=27) ?_;intro oM hg w6 cj hb;have ah:=A_ (bz (oB HB) hb);have ai:=A_ (cj);have ay:=A_ ((by rw[hg];exact(bn (oB HB)):w.heap.size≤oM));have aG:=A_ ((by rw[hg];exact(bn (oB HB)):w.heap.size≤oM));clear HB;have HB:=ah;have cP:=ai;have YM:=ay;have YD:=aG;clear ah ai ay aG;clear hb cj hg;have TA:=cz cP 0;have TB:=cz cP 1;have hcz7_2:=cz cP 2;have hfz7_0:=aJ cP.out 0;have hfz7_1:=aJ cP.out 1;have aeG:=aJ cP.out 2)|((with_reducible refine bT (f:=55) rfl ?_);refine gL (some 7) Tryz.func55 #[.agg #[.slice aU ak.length c0_0,.int .i64 ax,.slice a6 aq.length aW]] ?_;(with_reducible refine(lS.calls _ _ ak ax _ _ aq true _ ?bG ?bH ?iF ?iG A2.out).mono ?_);(case bG=>exact eM ix.out);(case bH=>exact iK.out);(case iF=>exact eM iY.out);(case iG=>exact nM.out);rintro e w8 ⟨rfl,hb⟩;refine⟨_,rfl,?_⟩;have ah:=A_ (bb cP hb);have ai:=A_ (bz (oB HB) hb);clear cP;clear HB;have cP:=ah;have HB:=ai;clear ah ai;(try clear hb);(try clear hb2);(try clear hk);(try clear hi))|((with_reducible refine gate_dst (N:=9) rfl ?_);refine Kd.iB (Kd.int .i64) _ 3 ?hg (N:=9) ?hd (xs:=([]:List Int)) (inner:=[]) (ok:=fun _=>True) (cU:=fun _=>True) ?hr ?hp (fun _ hk=>hk) trivial (Below.refl _ _) (Nat.le_refl _) (by simp) ?_;(case hd=>rfl);(case hg=>rfl);(case hr=>first|(go_simp;done)|(go_simp;rfl));(case hp=>exact(bf.none _ _));intro asJ w9 De hb cT dx;clear cT dx;(first|rw[←Rb.out]at De|(simp only[Int.reduceToNat]at De;rw[←Rb.out]at De));have ah:=A_ (Kd.dr De (bn (oB HB)));have ai:=A_ (bb cP hb);have ay:=A_ (bz (oB HB) hb);clear cP;clear HB;have Zu:=ah;have cP:=ai;have HB:=ay;clear ah ai ay;clear hb De;have HY:=cz cP 0;have hcz11_1:=cz cP 1;have H3:=cz cP 2;have Ia:=aJ cP.out 0;have Ib:=aJ cP.out 1;have Ic:=aJ cP.out 2;have r9:(ax:Int)≤((ak.length:Int):Int):=oD;obtain⟨aqT,hi012,_,aeS,_⟩:=info_parts info110;have Uc:ak.length≤c0_0:=iK.out;have SQ:Kd.C bl _ aU ak.length ak:=ix.out;have adv:=Sa (P:=Tryz.prog) 24 110 .i64 Tryz.underlying24 hi012 aU ak.length c0_0 ax (oD) r9 Uc;have Mr:=Kd.Yh (m:=(ax:Int).toNat) SQ (by omega);have MB:bL.length=(ax:Int).toNat:=(by rw[Rc.out,List.length_take];omega);rw[←Rc.out]at Mr;rw[←MB]at adv;have Qx:=A_ Mr;have alD:=A_ (show bL.length≤c0_0 from by omega);clear Mr SQ Uc hi012 aeS;have alL:=A_ MB;clear MB;replace r9:=eq_true r9))
    go_loopg [3,16] k (fun kq v3 v16 w'=>∃(bA:List Int) (bJ:Int),v16= .int .i64 bJ∧aj (fY.l0 kq bA bL (bL.length:Int) bJ ak ax aq=some r)∧aj (kq≤k)∧aj (Kd.R (Kd.int .i64) 3 w' w.heap.size (fun _=>True) v3 bA)∧aj (w'.heap[oM]? =some (.cells #[(.slice aU ak.length c0_0),.int .i64 ax,(.slice a6 aq.length aW)] 27 (0,0)))∧aj (Below w.heap.size w w'))
    case atStart=>exact⟨(Ps),(0),eS,H',⟨Nat.le_refl _⟩,⟨oR Zu⟩,⟨oK cP⟩,⟨oB HB⟩⟩
    case round=>
     clear H'
     try clear c1
     try clear q1
     try clear p2
     try clear c3
     try clear c4
     try clear kj
     try clear K_
     try clear c5
     try clear ug
     try clear CL
     try clear c10
     try clear r9
     try clear HY
     try clear hcz11_1
     try clear H3
     try clear TA
     try clear TB
     try clear hcz7_2
     try clear Ia
     try clear Ib
     try clear Ic
     try clear hfz7_0
     try clear hfz7_1
     try clear aeG
     try clear r9
     obtain⟨bA,bJ,rfl,HA,dh,bc,cP,HB⟩:=hrel;cases gk with
     |zero=>exact absurd HA.out (by simp[fY.l0])
     |succ k1=>
      have H:=HA.out;clear HA;simp only[fY.l0]at H;by_cases c13:bJ<(bL.length:Int)
      ·rw[if_pos c13]at H;have ua:decide (bJ<(bL.length:Int))=true:=decide_eq_true c13;clear c13;by_cases c14:0≤bJ
       ·rw[if_pos c14]at H;have RQ:decide (0≤bJ)=true:=decide_eq_true c14;clear c14;by_cases c15:bJ<(bL.length:Int)
        ·rw[if_pos c15]at H;have abG:decide (bJ<(bL.length:Int))=true:=decide_eq_true c15;clear c15;by_cases c16:0≤((au bL bJ).f1)
         ·rw[if_pos c16]at H;have CI:decide (0≤((au bL bJ).f1))=true:=decide_eq_true c16;clear c16;by_cases c17:((au bL bJ).f1)<(aq.length:Int)
          ·rw[if_pos c17]at H;have AA:decide (((au bL bJ).f1)<(aq.length:Int))=true:=decide_eq_true c17;clear c17;replace H:=Option.bind_eq_some_iff.mp H;obtain⟨t801,vt,H⟩:=H
           (try dsimp only at H)
           have ox:=A_ vt;clear vt;by_cases c19:(rd aq ((au bL bJ).f1))=t801
           ·rw[if_pos c19]at H;have vT:((rd aq ((au bL bJ).f1))==t801)=true:=beq_iff_eq.mpr c19;have CJ:((rd aq ((au bL bJ).f1)) != t801)=false:=bne_eq_false_iff_eq.mpr c19;clear c19;have H':=A_ H;clear H;have yV:0≤(bJ:Int):=oD;have zi:bJ<(bL.length:Int):=oD;obtain⟨xy,Lu,DM,DN,DO,DR⟩:=iC Qx.out bJ yV zi;cases Lu;replace DM:=hW HB DM;replace DN:=hW HB DN;replace DO:=hW HB DO;replace DR:=hW HB DR;replace yV:=eq_true yV;replace zi:=eq_true zi
            try go_wp2_with (first|((with_reducible refine gate_dst (N:=5) rfl ?_);refine bX (N:=5) (cs:= #[.int .i64 0,.int .i64 0,.int .i64 0,.int .i64 0]) (t:=110) ?_;intro dw hg BJ cj hb;have ah:=A_ (Kd.bh (oR bc) hb);have ai:=A_ (bb cP hb);have ay:=A_ (bz (oB HB) hb);have aG:=A_ (cj);have bD:=A_ ((by rw[hg];exact(bn (oB HB)):w.heap.size≤dw));have n5_:=A_ ((by rw[hg];exact(bn (oB HB)):w.heap.size≤dw));have dm:=A_ (nL cP hg);have eh:=A_ (nG cP hg);clear bc;clear cP;clear HB;have bc:=ah;have cP:=ai;have HB:=ay;have dA:=aG;have YN:=bD;have YE:=n5_;have rj:=dm;have NB799_789:=eh;clear ah ai ay aG bD n5_ dm eh;clear hb cj hg;have aqi:=NB799_789.out;have aqo:=rj.out;have Tt:=cz dA 0;have Tu:=cz dA 1;have Tv:=cz dA 2;have Tw:=cz dA 3;have TT:=aJ dA.out 0;have TU:=aJ dA.out 1;have TV:=aJ dA.out 2;have TW:=aJ dA.out 3))
            have ah:aj (Kd.R (Kd.int .i64) 3 ((((BJ.setCell ⟨dw,0,none⟩ (.int .i64 ((au bL bJ).f0))).setCell ⟨dw,1,none⟩ (.int .i64 ((au bL bJ).f1))).setCell ⟨dw,2,none⟩ (.int .i64 ((au bL bJ).f2))).setCell ⟨dw,3,none⟩ (.int .i64 ((au bL bJ).f3))) w.heap.size (fun _=>True) u3 bA):=⟨by(with_reducible repeat(first|apply Kd.bY|apply Kd.R_drewN|apply Kd.R_drew));exact Kd.bN (Kd.aM (p:=⟨dw,3,none⟩) (Kd.aM (p:=⟨dw,2,none⟩) (Kd.aM (p:=⟨dw,1,none⟩) (Kd.aM (p:=⟨dw,0,none⟩) (Kd.fN bc.out dA.out (by decide)) (fun _ hk=>hk.2) (.int .i64 ((au bL bJ).f0))) (fun _ hk=>hk.2) (.int .i64 ((au bL bJ).f1))) (fun _ hk=>hk.2) (.int .i64 ((au bL bJ).f2))) (fun _ hk=>hk.2) (.int .i64 ((au bL bJ).f3))) (fun _ hk=>trivial)⟩;have ai:aj (((((BJ.setCell ⟨dw,0,none⟩ (.int .i64 ((au bL bJ).f0))).setCell ⟨dw,1,none⟩ (.int .i64 ((au bL bJ).f1))).setCell ⟨dw,2,none⟩ (.int .i64 ((au bL bJ).f2))).setCell ⟨dw,3,none⟩ (.int .i64 ((au bL bJ).f3))).heap[oM]? =some (.cells #[.slice (some xy) ak.length c0_0,.int .i64 ax,.slice a6 aq.length aW] 27 (0,0))):=⟨by(with_reducible repeat(first|refine bP ?_ _|refine bF ?_|refine bC ?_ _));refine blk_far ?_ rj.out _;(with_reducible repeat(first|refine bP ?_ _|refine bF ?_|refine bC ?_ _));refine blk_far ?_ rj.out _;(with_reducible repeat(first|refine bP ?_ _|refine bF ?_|refine bC ?_ _));refine blk_far ?_ rj.out _;(with_reducible repeat(first|refine bP ?_ _|refine bF ?_|refine bC ?_ _));refine blk_far ?_ rj.out _;(with_reducible repeat(first|refine bP ?_ _|refine bF ?_|refine bC ?_ _));exact cP.out⟩;have ay:aj (((((BJ.setCell ⟨dw,0,none⟩ (.int .i64 ((au bL bJ).f0))).setCell ⟨dw,1,none⟩ (.int .i64 ((au bL bJ).f1))).setCell ⟨dw,2,none⟩ (.int .i64 ((au bL bJ).f2))).setCell ⟨dw,3,none⟩ (.int .i64 ((au bL bJ).f3))).heap[dw]? =some (.cells #[.int .i64 ((au bL bJ).f0),.int .i64 ((au bL bJ).f1),.int .i64 ((au bL bJ).f2),.int .i64 ((au bL bJ).f3)] 110 (0,0))):=⟨by(with_reducible repeat(first|refine bP ?_ _|refine bF ?_|refine bC ?_ _));refine di (cs:= #[.int .i64 ((au bL bJ).f0),.int .i64 ((au bL bJ).f1),.int .i64 ((au bL bJ).f2),.int .i64 0]) ?_ 3 _ rfl;(with_reducible repeat(first|refine bP ?_ _|refine bF ?_|refine bC ?_ _));refine di (cs:= #[.int .i64 ((au bL bJ).f0),.int .i64 ((au bL bJ).f1),.int .i64 0,.int .i64 0]) ?_ 2 _ rfl;(with_reducible repeat(first|refine bP ?_ _|refine bF ?_|refine bC ?_ _));refine di (cs:= #[.int .i64 ((au bL bJ).f0),.int .i64 0,.int .i64 0,.int .i64 0]) ?_ 1 _ rfl;(with_reducible repeat(first|refine bP ?_ _|refine bF ?_|refine bC ?_ _));refine di (cs:= #[.int .i64 0,.int .i64 0,.int .i64 0,.int .i64 0]) ?_ 0 _ rfl;(with_reducible repeat(first|refine bP ?_ _|refine bF ?_|refine bC ?_ _));exact dA.out⟩;have aG:aj (Below w.heap.size w ((((BJ.setCell ⟨dw,0,none⟩ (.int .i64 ((au bL bJ).f0))).setCell ⟨dw,1,none⟩ (.int .i64 ((au bL bJ).f1))).setCell ⟨dw,2,none⟩ (.int .i64 ((au bL bJ).f2))).setCell ⟨dw,3,none⟩ (.int .i64 ((au bL bJ).f3)))):=⟨oB HB⟩
            (try clear bc)
            (try clear cP)
            (try clear dA)
            (try clear HB)
            generalize ((((BJ.setCell ⟨dw,0,none⟩ (.int .i64 ((au bL bJ).f0))).setCell ⟨dw,1,none⟩ (.int .i64 ((au bL bJ).f1))).setCell ⟨dw,2,none⟩ (.int .i64 ((au bL bJ).f2))).setCell ⟨dw,3,none⟩ (.int .i64 ((au bL bJ).f3)))=F0 at ah ai ay aG ⊢;have bc:=ah;have cP:=ai;have dA:=ay;have HB:=aG;clear ah ai ay aG;have ah:=A_ (Kd.R_drew bc.out);have ai:=A_ (bF cP.out);have ay:=A_ (bF dA.out);have aG:=A_ (fC HB.out);clear bc;clear cP;clear dA;clear HB;have bc:=ah;have cP:=ai;have dA:=ay;have HB:=aG;clear ah ai ay aG;have yX:0≤(((au bL bJ).f1):Int):=oD;have zj:((au bL bJ).f1)<(aq.length:Int):=oD;obtain⟨xA,Lv,uM⟩:=Kd.jZ iY.out ((au bL bJ).f1) yX zj;have DB:=uM;cases Lv;replace uM:=hW HB uM;replace yX:=eq_true yX;replace zj:=eq_true zj;refine pJ (n:=10) (S:=fun w'=>w'.cell? ⟨oM,0,none⟩=some (.slice (some xy) ak.length c0_0)∧w'.cell? ⟨oM,1,none⟩=some (.int .i64 ax)∧w'.cell? ⟨oM,2,none⟩=some (.slice (some xA) aq.length aW)∧w'.cell? ⟨dw,0,none⟩=some (.int .i64 ((au bL bJ).f0))∧w'.cell? ⟨dw,1,none⟩=some (.int .i64 ((au bL bJ).f1))∧w'.cell? ⟨dw,2,none⟩=some (.int .i64 ((au bL bJ).f2))∧w'.cell? ⟨dw,3,none⟩=some (.int .i64 ((au bL bJ).f3))∧w'.cell? (xA.add (((au bL bJ).f1)).toNat)=some (.int .i64 (rd aq ((au bL bJ).f1)))) (ds:=[]) #[false,false,false,false,false,false,false,false,false,false] (by kernel_rfl) rfl rfl ⟨cz cP 0,cz cP 1,cz cP 2,cz dA 0,cz dA 1,cz dA 2,cz dA 3,(hW HB DB)⟩ (fun hHeld=> ?_);refine su fY.Je fY.bits7 (fun ag HW_=> ?_);generalize F0.drew=w24 at bc cP dA HB uM hHeld ⊢;refine pA 0 (some 21) ag.out ?_;refine pA 2 (some 23) ag.out ?_;refine pA 7 (some 28) ag.out ?_;refine pT 1 (some 22) ag.out HW_.out hHeld ?_;refine pT 3 (some 24) ag.out HW_.out hHeld ?_;refine pA 4 (some 25) ag.out ?_;refine pT 5 (some 26) ag.out HW_.out hHeld ?_;refine pT 6 (some 27) ag.out HW_.out hHeld ?_;refine one_ (i:=8) (N:=some 29) #[true,true,true,true,true,true,true,true,true,false] rfl rfl (ji ag.out (by kernel_rfl)) (by decide) (fun K hK=> ?_);refine gH Tryz.func131 (by kernel_rfl) rfl #[.agg #[.slice (some xy) ak.length c0_0,.int .i64 ax,.slice (some xA) aq.length aW],.int .i64 bJ] (by rfl) rfl rfl (by(try simp only[List.map_toArray,List.map_cons,List.map_nil]);first|done|rfl|(simp only[List.length_drop,List.length_take];rfl)) ?_
            with_reducible refine(lA.calls k1 _ _ ak ax _ _ aq bJ t801 _ ?bG ?bH ?iF ?iG ox.out).mono ?_
            (case bG=>exact eM ix.out)
            (case bH=>exact iK.out)
            (case iF=>exact eM iY.out)
            (case iG=>exact nM.out)
            rintro e F2 ⟨rfl,hb⟩;refine⟨_,rfl,?_⟩;have ah:=A_ (Kd.bh (oR bc) hb);have ai:=A_ (bb cP hb);have ay:=A_ (bb dA hb);have aG:=A_ (bz (oB HB) hb);clear bc;clear cP;clear dA;clear HB;have bc:=ah;have cP:=ai;have dA:=ay;have HB:=aG;clear ah ai ay aG
            (try clear hb)
            (try clear hb2)
            (try clear hk)
            (try clear hi)
            refine hK.out _ _ ⟨cz cP 0,cz cP 1,cz cP 2,cz dA 0,cz dA 1,cz dA 2,cz dA 3,(hW HB DB)⟩ (fun hHeld=> ?_);clear hK K;refine kM (a':= ?_) ?_ ?_;rotate_left
            ·show Act.put _ (some 29) _=_;simp only[Act.put,List.setIfInBounds_toArray,List.set_cons_zero,List.set_cons_succ,eJ,gj];rfl
            refine pA 9 (some 30) ag.out ?_;refine done_ (done_of ag.out (by kernel_rfl)) ?_
            try go_wp2
            go_roundg k1
            case measure=>have:=dh.out;omega
            case rel=>exact⟨(bA),(wrap64 (bJ+1)),eS,H',⟨by have:=dh.out;omega⟩,⟨oR bc⟩,⟨oK cP⟩,⟨oB HB⟩⟩
           ·rw[if_neg c19]at H;have vT:((rd aq ((au bL bJ).f1))==t801)=false:=beq_eq_false_iff_ne.mpr c19;have CJ:((rd aq ((au bL bJ).f1)) != t801)=true:=bne_iff_ne.mpr c19;by_cases kF:bA.length<17592186044416
            ·rw[if_pos kF]at H;have ZL:=A_ kF;clear kF;obtain⟨XR,ET⟩:∃y_:List Int,y_=(bA++[bJ]):=⟨_,rfl⟩;replace H:(fY.l0 k1 XR bL (bL.length:Int) (wrap64 (bJ+1)) ak ax aq)=some r:=by first|(rw[ET];with_reducible exact H)|(have aI:=(Option.bind_some _ _).symm.trans H;rw[ET];with_reducible exact aI)|(have aI:=(Option.bind_some _ _).symm.trans H;with_reducible exact aI)|with_reducible exact H|(rw[ET];exact H)|exact H
             have aay:=A_ ET;clear ET;have H':=A_ H;clear H;have yV:0≤(bJ:Int):=oD;have zi:bJ<(bL.length:Int):=oD;obtain⟨xy,Lu,DM,DN,DO,DR⟩:=iC Qx.out bJ yV zi;cases Lu;replace DM:=hW HB DM;replace DN:=hW HB DN;replace DO:=hW HB DO;replace DR:=hW HB DR;replace yV:=eq_true yV;replace zi:=eq_true zi
             try go_wp2_with (first|((with_reducible refine gate_dst (N:=5) rfl ?_);refine bX (N:=5) (cs:= #[.int .i64 0,.int .i64 0,.int .i64 0,.int .i64 0]) (t:=110) ?_;intro dw hg zz cj hb;have ah:=A_ (Kd.bh (oR bc) hb);have ai:=A_ (bb cP hb);have ay:=A_ (bz (oB HB) hb);have aG:=A_ (cj);have bD:=A_ ((by rw[hg];exact(bn (oB HB)):w.heap.size≤dw));have n5_:=A_ ((by rw[hg];exact(bn (oB HB)):w.heap.size≤dw));have dm:=A_ (nL cP hg);have eh:=A_ (nG cP hg);clear bc;clear cP;clear HB;have bc:=ah;have cP:=ai;have HB:=ay;have dA:=aG;have YN:=bD;have YE:=n5_;have rj:=dm;have NB799_789:=eh;clear ah ai ay aG bD n5_ dm eh;clear hb cj hg;have aqk:=NB799_789.out;have aqq:=rj.out;have adE:=cz dA 0;have adF:=cz dA 1;have adG:=cz dA 2;have adH:=cz dA 3;have aej:=aJ dA.out 0;have aek:=aJ dA.out 1;have ael:=aJ dA.out 2;have aem:=aJ dA.out 3))
             have ah:aj (Kd.R (Kd.int .i64) 3 ((((zz.setCell ⟨dw,0,none⟩ (.int .i64 ((au bL bJ).f0))).setCell ⟨dw,1,none⟩ (.int .i64 ((au bL bJ).f1))).setCell ⟨dw,2,none⟩ (.int .i64 ((au bL bJ).f2))).setCell ⟨dw,3,none⟩ (.int .i64 ((au bL bJ).f3))) w.heap.size (fun _=>True) u3 bA):=⟨by(with_reducible repeat(first|apply Kd.bY|apply Kd.R_drewN|apply Kd.R_drew));exact Kd.bN (Kd.aM (p:=⟨dw,3,none⟩) (Kd.aM (p:=⟨dw,2,none⟩) (Kd.aM (p:=⟨dw,1,none⟩) (Kd.aM (p:=⟨dw,0,none⟩) (Kd.fN bc.out dA.out (by decide)) (fun _ hk=>hk.2) (.int .i64 ((au bL bJ).f0))) (fun _ hk=>hk.2) (.int .i64 ((au bL bJ).f1))) (fun _ hk=>hk.2) (.int .i64 ((au bL bJ).f2))) (fun _ hk=>hk.2) (.int .i64 ((au bL bJ).f3))) (fun _ hk=>trivial)⟩;have ai:aj (((((zz.setCell ⟨dw,0,none⟩ (.int .i64 ((au bL bJ).f0))).setCell ⟨dw,1,none⟩ (.int .i64 ((au bL bJ).f1))).setCell ⟨dw,2,none⟩ (.int .i64 ((au bL bJ).f2))).setCell ⟨dw,3,none⟩ (.int .i64 ((au bL bJ).f3))).heap[oM]? =some (.cells #[.slice (some xy) ak.length c0_0,.int .i64 ax,.slice a6 aq.length aW] 27 (0,0))):=⟨by(with_reducible repeat(first|refine bP ?_ _|refine bF ?_|refine bC ?_ _));refine blk_far ?_ rj.out _;(with_reducible repeat(first|refine bP ?_ _|refine bF ?_|refine bC ?_ _));refine blk_far ?_ rj.out _;(with_reducible repeat(first|refine bP ?_ _|refine bF ?_|refine bC ?_ _));refine blk_far ?_ rj.out _;(with_reducible repeat(first|refine bP ?_ _|refine bF ?_|refine bC ?_ _));refine blk_far ?_ rj.out _;(with_reducible repeat(first|refine bP ?_ _|refine bF ?_|refine bC ?_ _));exact cP.out⟩;have ay:aj (((((zz.setCell ⟨dw,0,none⟩ (.int .i64 ((au bL bJ).f0))).setCell ⟨dw,1,none⟩ (.int .i64 ((au bL bJ).f1))).setCell ⟨dw,2,none⟩ (.int .i64 ((au bL bJ).f2))).setCell ⟨dw,3,none⟩ (.int .i64 ((au bL bJ).f3))).heap[dw]? =some (.cells #[.int .i64 ((au bL bJ).f0),.int .i64 ((au bL bJ).f1),.int .i64 ((au bL bJ).f2),.int .i64 ((au bL bJ).f3)] 110 (0,0))):=⟨by(with_reducible repeat(first|refine bP ?_ _|refine bF ?_|refine bC ?_ _));refine di (cs:= #[.int .i64 ((au bL bJ).f0),.int .i64 ((au bL bJ).f1),.int .i64 ((au bL bJ).f2),.int .i64 0]) ?_ 3 _ rfl;(with_reducible repeat(first|refine bP ?_ _|refine bF ?_|refine bC ?_ _));refine di (cs:= #[.int .i64 ((au bL bJ).f0),.int .i64 ((au bL bJ).f1),.int .i64 0,.int .i64 0]) ?_ 2 _ rfl;(with_reducible repeat(first|refine bP ?_ _|refine bF ?_|refine bC ?_ _));refine di (cs:= #[.int .i64 ((au bL bJ).f0),.int .i64 0,.int .i64 0,.int .i64 0]) ?_ 1 _ rfl;(with_reducible repeat(first|refine bP ?_ _|refine bF ?_|refine bC ?_ _));refine di (cs:= #[.int .i64 0,.int .i64 0,.int .i64 0,.int .i64 0]) ?_ 0 _ rfl;(with_reducible repeat(first|refine bP ?_ _|refine bF ?_|refine bC ?_ _));exact dA.out⟩;have aG:aj (Below w.heap.size w ((((zz.setCell ⟨dw,0,none⟩ (.int .i64 ((au bL bJ).f0))).setCell ⟨dw,1,none⟩ (.int .i64 ((au bL bJ).f1))).setCell ⟨dw,2,none⟩ (.int .i64 ((au bL bJ).f2))).setCell ⟨dw,3,none⟩ (.int .i64 ((au bL bJ).f3)))):=⟨oB HB⟩
             (try clear bc)
             (try clear cP)
             (try clear dA)
             (try clear HB)
             generalize ((((zz.setCell ⟨dw,0,none⟩ (.int .i64 ((au bL bJ).f0))).setCell ⟨dw,1,none⟩ (.int .i64 ((au bL bJ).f1))).setCell ⟨dw,2,none⟩ (.int .i64 ((au bL bJ).f2))).setCell ⟨dw,3,none⟩ (.int .i64 ((au bL bJ).f3)))=F4 at ah ai ay aG ⊢;have bc:=ah;have cP:=ai;have dA:=ay;have HB:=aG;clear ah ai ay aG;have ah:=A_ (Kd.R_drew bc.out);have ai:=A_ (bF cP.out);have ay:=A_ (bF dA.out);have aG:=A_ (fC HB.out);clear bc;clear cP;clear dA;clear HB;have bc:=ah;have cP:=ai;have dA:=ay;have HB:=aG;clear ah ai ay aG;have yX:0≤(((au bL bJ).f1):Int):=oD;have zj:((au bL bJ).f1)<(aq.length:Int):=oD;obtain⟨xA,Lv,uM⟩:=Kd.jZ iY.out ((au bL bJ).f1) yX zj;have DB:=uM;cases Lv;replace uM:=hW HB uM;replace yX:=eq_true yX;replace zj:=eq_true zj;refine pJ (n:=10) (S:=fun w'=>w'.cell? ⟨oM,0,none⟩=some (.slice (some xy) ak.length c0_0)∧w'.cell? ⟨oM,1,none⟩=some (.int .i64 ax)∧w'.cell? ⟨oM,2,none⟩=some (.slice (some xA) aq.length aW)∧w'.cell? ⟨dw,0,none⟩=some (.int .i64 ((au bL bJ).f0))∧w'.cell? ⟨dw,1,none⟩=some (.int .i64 ((au bL bJ).f1))∧w'.cell? ⟨dw,2,none⟩=some (.int .i64 ((au bL bJ).f2))∧w'.cell? ⟨dw,3,none⟩=some (.int .i64 ((au bL bJ).f3))∧w'.cell? (xA.add (((au bL bJ).f1)).toNat)=some (.int .i64 (rd aq ((au bL bJ).f1)))) (ds:=[]) #[false,false,false,false,false,false,false,false,false,false] (by kernel_rfl) rfl rfl ⟨cz cP 0,cz cP 1,cz cP 2,cz dA 0,cz dA 1,cz dA 2,cz dA 3,(hW HB DB)⟩ (fun hHeld=> ?_);refine su fY.Je fY.bits7 (fun ag HW_=> ?_);generalize F4.drew=WS at bc cP dA HB uM hHeld ⊢;refine pA 0 (some 21) ag.out ?_;refine pA 2 (some 23) ag.out ?_;refine pA 7 (some 28) ag.out ?_;refine pT 1 (some 22) ag.out HW_.out hHeld ?_;refine pT 3 (some 24) ag.out HW_.out hHeld ?_;refine pA 4 (some 25) ag.out ?_;refine pT 5 (some 26) ag.out HW_.out hHeld ?_;refine pT 6 (some 27) ag.out HW_.out hHeld ?_;refine one_ (i:=8) (N:=some 29) #[true,true,true,true,true,true,true,true,true,false] rfl rfl (ji ag.out (by kernel_rfl)) (by decide) (fun K hK=> ?_);refine gH Tryz.func131 (by kernel_rfl) rfl #[.agg #[.slice (some xy) ak.length c0_0,.int .i64 ax,.slice (some xA) aq.length aW],.int .i64 bJ] (by rfl) rfl rfl (by(try simp only[List.map_toArray,List.map_cons,List.map_nil]);first|done|rfl|(simp only[List.length_drop,List.length_take];rfl)) ?_
             with_reducible refine(lA.calls k1 _ _ ak ax _ _ aq bJ t801 _ ?bG ?bH ?iF ?iG ox.out).mono ?_
             (case bG=>exact eM ix.out)
             (case bH=>exact iK.out)
             (case iF=>exact eM iY.out)
             (case iG=>exact nM.out)
             rintro e F5 ⟨rfl,hb⟩;refine⟨_,rfl,?_⟩;have ah:=A_ (Kd.bh (oR bc) hb);have ai:=A_ (bb cP hb);have ay:=A_ (bb dA hb);have aG:=A_ (bz (oB HB) hb);clear bc;clear cP;clear dA;clear HB;have bc:=ah;have cP:=ai;have dA:=ay;have HB:=aG;clear ah ai ay aG
             (try clear hb)
             (try clear hb2)
             (try clear hk)
             (try clear hi)
             refine hK.out _ _ ⟨cz cP 0,cz cP 1,cz cP 2,cz dA 0,cz dA 1,cz dA 2,cz dA 3,(hW HB DB)⟩ (fun hHeld=> ?_);clear hK K;refine kM (a':= ?_) ?_ ?_;rotate_left
             ·show Act.put _ (some 29) _=_;simp only[Act.put,List.setIfInBounds_toArray,List.set_cons_zero,List.set_cons_succ,eJ,gj];rfl
             refine pA 9 (some 30) ag.out ?_;refine done_ (done_of ag.out (by kernel_rfl)) ?_
             try go_wp2_with (first|((with_reducible refine jz (b:= .append) (xs:= #[.tmp 31,.tmp 33]) rfl ?_);at_builtin;refine Kd.R_append (Kd.int .i64) (w0:=w) w.heap.size rfl (.tmp 31) (.tmp 33) 25 3 (.int .i64 0) 8 rfl Tryz.underlying25 info3 rfl (by decide) (by omega) u3 bA bJ [.int .i64 bJ] (fun _=>True) (fun _=>False) rfl rfl ?aP (fun _ hk=>hk.elim) ?aF ?aO ?aB ?aS ?aL ?_;(case aP=>exact rfl);(case aB=>exact(oB HB));(case aF=>exact(fun _ _=>trivial));(case aO=>exact(oR bc));(case aS=>exact(bn (oB HB)));(case aL=>have:=ZL.out;omega);intro asK OE ho hb hg hat;rw[←aay.out]at ho;have ah:=A_ (bg cP hg (Kd.nr bc.out cP.out (by decide)));have ai:=A_ (bg dA hg (Kd.nr bc.out dA.out (by decide)));have ay:=A_ (hb);have aG:=A_ (ho);clear cP;clear dA;clear HB;clear bc;have cP:=ah;have dA:=ai;have HB:=ay;have Zv:=aG;clear ah ai ay aG;clear ho hb hg hat))
             go_roundg k1
             case measure=>have:=dh.out;omega
             case rel=>exact⟨(XR),(wrap64 (bJ+1)),eS,H',⟨by have:=dh.out;omega⟩,⟨oR Zv⟩,⟨oK cP⟩,⟨oB HB⟩⟩
            ·rw[if_neg kF]at H;exact absurd H (by simp)
          ·rw[if_neg c17]at H;exact absurd H (by simp)
         ·rw[if_neg c16]at H;exact absurd H (by simp)
        ·rw[if_neg c15]at H;exact absurd H (by simp)
       ·rw[if_neg c14]at H;exact absurd H (by simp)
      ·rw[if_neg c13]at H;have ua:decide (bJ<(bL.length:Int))=false:=decide_eq_false c13;clear c13;obtain rfl:=Option.some.inj H;go_wp2;go_ret;exact⟨_,eR,oR bc,oB HB⟩
   ·rw[if_neg c5]at H;exact absurd H (by simp)
  ·rw[if_neg c4]at H;exact absurd H (by simp)
 ·replace c3:=Bool.eq_false_iff.mpr c3;subst c3;rw[if_neg (show¬(false=true)by decide)]at H;obtain rfl:=Option.some.inj H;go_enter Tryz.func100,Tryz.ntmps100
  go_wp2_with (first|((with_reducible refine gate_dst (N:=1) rfl ?_);refine bX (N:=1) (cs:= #[.slice aU ak.length c0_0,.int .i64 ax,.slice a6 aq.length aW]) (t:=27) ?_;intro oM hg w34 cj hb;have ah:=A_ (bz (oB HB) hb);have ai:=A_ (cj);have ay:=A_ ((by rw[hg];exact(bn (oB HB)):w.heap.size≤oM));have aG:=A_ ((by rw[hg];exact(bn (oB HB)):w.heap.size≤oM));clear HB;have HB:=ah;have cP:=ai;have YM:=ay;have YD:=aG;clear ah ai ay aG;clear hb cj hg;have adL:=cz cP 0;have adM:=cz cP 1;have adN:=cz cP 2;have aeq:=aJ cP.out 0;have aer:=aJ cP.out 1;have aes:=aJ cP.out 2)|((with_reducible refine bT (f:=55) rfl ?_);refine gL (some 7) Tryz.func55 #[.agg #[.slice aU ak.length c0_0,.int .i64 ax,.slice a6 aq.length aW]] ?_;(with_reducible refine(lS.calls _ _ ak ax _ _ aq false _ ?bG ?bH ?iF ?iG A2.out).mono ?_);(case bG=>exact eM ix.out);(case bH=>exact iK.out);(case iF=>exact eM iY.out);(case iG=>exact nM.out);rintro e OG ⟨rfl,hb⟩;refine⟨_,rfl,?_⟩;have ah:=A_ (bb cP hb);have ai:=A_ (bz (oB HB) hb);clear cP;clear HB;have cP:=ah;have HB:=ai;clear ah ai;(try clear hb);(try clear hb2);(try clear hk);(try clear hi)))
  go_ret;exact⟨_,eR,by first|exact Kd.bM _ _ _ _ _|exact Kd.p_ _ _ _ _ _|exact Kd.qf _ _ _ _ _|exact Kd.Q_nil _ _ _ _ _|exact Kd.S_nil _ _ _ _ _,oB HB⟩
mutual
def fu.j0:Nat→Int→List (ar)→Bool→Option (List Int×Bool)
 |0,_,_,_=>none
 |k+1,x0,x1,o0=>if o0=true then(some (([]:List Int),false))else(if 12≤35184372088832 then((some (List.replicate 12 0:List Int)).bind fun pW=>(if 0<(pW.length:Int)then(fu.l0 k (pW.set (0:Int).toNat x0) x1 (x1.length:Int) 0)else(none)))else(none))
def fu.l0:Nat→List Int→List (ar)→Int→Int→Option (List Int×Bool)
 |0,_,_,_,_=>none
 |k+1,x6,x21,x22,x23=>if x23<x22 then(if 0≤x23 then(if x23<(x21.length:Int)then(if 0≤((au x21 x23).f0)then(if((au x21 x23).f0)<(x6.length:Int)then((iP.f k (rd x6 ((au x21 x23).f0)) ((au x21 x23).f2) ((au x21 x23).f3)).bind fun lF=>(if 0≤((au x21 x23).f1)then(if((au x21 x23).f1)<(x6.length:Int)then(if lF=0 then(some (([]:List Int),false))else(fu.l0 k (x6.set (((au x21 x23).f1):Int).toNat lF) x21 x22 (wrap64 (x23+1))))else(none))else(none)))else(none))else(none))else(none))else(none))else(some (x6,true))
end
def fu.f (k:Nat) (a0:Int) (l1:List (ar)):Option (List Int×Bool):=(uN.f l1).bind fun Fv=>(if Fv=true then((fP.f a0).bind fun Bu=>(fu.j0 k a0 l1 (!Bu)))else(fu.j0 k a0 l1 true))
def fu.T8:Bool×List (List Nat×List Nat):=(true,[([],[]),([],[]),([1],[1]),([],[]),([],[]),([4],[4]),([3,5],[3,5]),([6],[6]),([],[]),([8],[8]),([],[]),([10],[10]),([7,9,11],[7,9,11]),([0,2,0,1,2,3,4,5,6,7,8,9,10,11,12],[0,2]),([13,12,12,0,1,2,3,4,5,6,7,8,9,10,11,12],[12,13])])
def fu.B8:List Nat:=[0,0,2,0,0,16,56,120,0,256,0,1024,4088,8191,16383]
theorem fu.tD:rtab .any (opsOf Tryz.f127 8)=fu.T8:=by kernel_rfl
theorem fu.sN:eN fu.T8.2 fu.B8=true:=by kernel_rfl
theorem fu.calls (k:Nat) (a0:Int) (A1:Option Addr) (c1:Nat) (l1:List (ar)) (r1:List Int) (r2:Bool) (w:World) (hr1:Kd.C bl w A1 l1.length l1) (hc1:l1.length≤c1) (h:fu.f k a0 l1=some (r1,r2)):
  Calls Tryz.prog 127 #[.int .i64 a0,.slice A1 l1.length c1] w fun e w'=>∃v0_:Value,e= .returned (.tuple #[v0_,.bool r2])∧Kd.R (Kd.int .i64) 3 w' w.heap.size (fun _=>True) v0_ r1∧Below w.heap.size w w':=by
 have yb:=Tryz.underlying110;have kg:=A_ hr1;have qZ:=A_ hc1;clear hr1 hc1;have HB:=A_ (Below.refl w.heap.size w);have H:((uN.f l1).bind fun Fv=>(if Fv=true then((fP.f a0).bind fun Bu=>(fu.j0 k a0 l1 (!Bu)))else(fu.j0 k a0 l1 true)))=some (r1,r2):=h;clear h;have xf:=A_ H;clear H;go_enter Tryz.func127,Tryz.ntmps127
 go_upto_region 1 with (fail)
 go_cut [16] (fun v16 wc=>∃(kq:Nat) (x16_2:Bool),v16= .bool x16_2∧aj (fu.j0 kq a0 l1 x16_2=some (r1,r2))∧aj (kq≤k)∧aj (Below w.heap.size w wc))
 case first=>
  have H:=xf.out;clear xf;replace H:=Option.bind_eq_some_iff.mp H;obtain⟨Fv,mn,H⟩:=H
  (try dsimp only at H)
  have A4:=A_ mn;clear mn;by_cases c5:Fv=true
  ·subst c5;rw[if_pos rfl]at H;replace H:=Option.bind_eq_some_iff.mp H;obtain⟨Bu,oy,H⟩:=H
   (try dsimp only at H)
   have A6:=A_ oy;clear oy;have H':=A_ H;clear H
   go_wp2_with (first|((with_reducible refine bT (f:=97) rfl ?_);refine gL (some 10) Tryz.func97 #[.slice A1 l1.length c1] ?_;(with_reducible refine(uN.calls _ _ l1 true _ ?bG ?bH A4.out).mono ?_);(case bG=>exact eM kg.out);(case bH=>exact qZ.out);rintro e w7 ⟨rfl,hb⟩;refine⟨_,rfl,?_⟩;have ah:=A_ (bz (oB HB) hb);clear HB;have HB:=ah;clear ah;(try clear hb);(try clear hb2);(try clear hk);(try clear hi))|(go_at_call 98;(with_reducible refine(fP.calls a0 Bu _ A6.out).mono ?_);rintro e w' ⟨rfl,⟨nd,rfl⟩⟩))
   go_meet
   case rel=>exact⟨_,(!Bu),eS,H',⟨by first|omega|exact Nat.le_refl _⟩,⟨oB HB⟩⟩
  ·replace c5:=Bool.eq_false_iff.mpr c5;subst c5;rw[if_neg (show¬(false=true)by decide)]at H;have H':=A_ H;clear H
   go_wp2_with (first|((with_reducible refine bT (f:=97) rfl ?_);refine gL (some 10) Tryz.func97 #[.slice A1 l1.length c1] ?_;(with_reducible refine(uN.calls _ _ l1 false _ ?bG ?bH A4.out).mono ?_);(case bG=>exact eM kg.out);(case bH=>exact qZ.out);rintro e w8 ⟨rfl,hb⟩;refine⟨_,rfl,?_⟩;have ah:=A_ (bz (oB HB) hb);clear HB;have HB:=ah;clear ah;(try clear hb);(try clear hb2);(try clear hk);(try clear hi)))
   go_meet
   case rel=>exact⟨_,(true),eS,H',⟨by first|omega|exact Nat.le_refl _⟩,⟨oB HB⟩⟩
 case rest=>
  clear xf
  try clear c1
  try clear p2
  try clear c5
  obtain⟨kq,x16_2,rfl,HA,zO,HB⟩:=hcut;cases kq with
  |zero=>exact absurd HA.out (by simp[fu.j0])
  |succ uU=>
   have H:=HA.out;clear HA;simp only[fu.j0]at H;by_cases c9:x16_2=true
   ·subst c9;rw[if_pos rfl]at H;simp only[Option.some.injEq,Prod.mk.injEq]at H;obtain⟨rfl,rfl⟩:=H;go_wp2;go_ret2;exact⟨_,eR,by first|exact Kd.bM _ _ _ _ _|exact Kd.p_ _ _ _ _ _|exact Kd.qf _ _ _ _ _|exact Kd.Q_nil _ _ _ _ _|exact Kd.S_nil _ _ _ _ _,oB HB⟩
   ·replace c9:=Bool.eq_false_iff.mpr c9;subst c9;rw[if_neg (show¬(false=true)by decide)]at H;by_cases c10:12≤35184372088832
    ·rw[if_pos c10]at H;have t_:=eq_true c10;have Az:decide (12≤35184372088832)=true:=decide_eq_true c10;clear c10;obtain⟨pW,Ec⟩:∃y_:List Int,y_=(List.replicate 12 0):=⟨_,rfl⟩;replace H:(if 0<(pW.length:Int)then(fu.l0 uU (pW.set (0:Int).toNat a0) l1 (l1.length:Int) 0)else(none))=some (r1,r2):=by first|(rw[Ec];with_reducible exact H)|(have aI:=(Option.bind_some _ _).symm.trans H;rw[Ec];with_reducible exact aI)|(have aI:=(Option.bind_some _ _).symm.trans H;with_reducible exact aI)|with_reducible exact H|(rw[Ec];exact H)|exact H
     have QW:=A_ Ec;clear Ec;by_cases c11:0<(pW.length:Int)
     ·rw[if_pos c11]at H;have Hh:decide (0<(pW.length:Int))=true:=decide_eq_true c11;have Hi:decide (0<pW.length)=true:=decide_eq_true (by omega);clear c11;obtain⟨Pp,Ed⟩:∃y_:List Int,y_=(pW.set (0:Int).toNat a0):=⟨_,rfl⟩;replace H:(fu.l0 uU Pp l1 (l1.length:Int) 0)=some (r1,r2):=by first|(rw[Ed];with_reducible exact H)|(have aI:=(Option.bind_some _ _).symm.trans H;rw[Ed];with_reducible exact aI)|(have aI:=(Option.bind_some _ _).symm.trans H;with_reducible exact aI)|with_reducible exact H|(rw[Ed];exact H)|exact H
      have aad:=A_ Ed;clear Ed;have H':=A_ H;clear H
      go_wp2_with (first|((with_reducible refine gate_dst (N:=17) rfl ?_);refine Kd.Km (Kd.int .i64) _ 3 rfl (N:=17) rfl 25 _ _ rfl 12 rfl rfl Tryz.underlying25 (.int .i64 0) 8 info3 rfl (by decide) (by omega) 0 (ok:=fun _=>True) (cU:=fun _=>True) rfl (fun _ hk=>hk) trivial (by omega) (by omega) (Below.refl _ _) (Nat.le_refl _) ?_;intro arW tE Df hb cT dx;clear cT dx;(first|rw[←QW.out]at Df|(simp only[Int.reduceToNat]at Df;rw[←QW.out]at Df));have ah:=A_ (Kd.dr Df (bn (oB HB)));have ai:=A_ (bz (oB HB) hb);clear HB;have xi:=ah;have HB:=ai;clear ah ai;clear hb Df;have E7:0≤(0:Int):=(by omega);have r9:(0:Int)<((pW.length:Int):Int):=oD;have ahy:(0<pW.length)=True:=eq_true (by omega);obtain⟨qw,rJ,uk,SF,ac',ams,P_⟩:=Kd.xr xi.out (by omega);(first|cases uk|(injection uk with lQ xT xS;(first|subst lQ|(injection lQ with lQ;subst lQ));subst xS;clear xT));have Yy:=A_ SF;have alr:=A_ P_;clear SF ac' P_;obtain⟨Mt,TC⟩:=Kd.nW 0 xi.out (0:Int) E7 r9;(try rw[show((0:Int)).toNat=0 from rfl]at Mt);(try simp only[Nat.reduceMul,Nat.zero_mul,Nat.zero_add,Nat.reduceAdd]at Mt);(try rw[show((0:Int)).toNat=0 from rfl]at TC);(try simp only[Nat.reduceMul,Nat.zero_mul,Nat.zero_add,Nat.reduceAdd]at TC);replace E7:=eq_true E7;replace r9:=eq_true r9;obtain⟨Uz,UC⟩:=Kd.nW 0 xi.out (0:Int) (by omega) (oD);(try simp only[Int.reduceToNat,Int.toNat_zero,Int.toNat_ofNat,Nat.reduceMul,Nat.zero_mul,Nat.zero_add]at Uz UC);(try rw[show((0:Int)).toNat=0 from rfl]at Uz);(try rw[show((0:Int)).toNat=0 from rfl]at UC);have J1:=Kd.xu xi.out (0:Int) a0)|((with_reducible refine AL (t:=3) (p:=20) rfl ?_);refine Br (t:=3) (p:=20) (v:= ?asM) (w1:=(tE.setCell ⟨qw,(0:Int).toNat,none⟩ (.int .i64 a0))) ?hg ?ho ?hn ?hr ?_;(case ho=>rfl);(case hg=>rfl);(case hn=>rfl);(case hr=>first|(go_simp;done)|(go_simp;rfl));intro l5 hw;have hg:tE.grownBy l5 (some qw):=(by rw[hw];exact J1.2);have mJ:Kd.R (Kd.int .i64) 3 l5 w.heap.size (fun _=>True) (.slice (some ⟨qw,0,none⟩) pW.length rJ) Pp:=(by rw[hw,aad.out];exact J1.1);clear J1;have ah:=A_ (mJ);have ai:=A_ ((by rw[hw];exact nZ (HB.out) Yy.out:Below w.heap.size w l5));clear xi;clear HB;have xi:=ah;have HB:=ai;clear ah ai;clear hg hw mJ))
      go_loopg [23] uU (fun kq v23 w'=>∃(x6_2:List Int) (bp:Int),v23= .int .i64 bp∧aj (fu.l0 kq x6_2 l1 (l1.length:Int) bp=some (r1,r2))∧aj (kq≤uU)∧aj (Kd.R (Kd.int .i64) 3 w' w.heap.size (fun _=>True) (.slice (some ⟨qw,0,none⟩) pW.length rJ) x6_2)∧aj (Below w.heap.size w w'))
      case atStart=>exact⟨(Pp),(0),eS,H',⟨Nat.le_refl _⟩,⟨oR xi⟩,⟨oB HB⟩⟩
      case round=>
       clear H'
       try clear c1
       try clear p1
       try clear q1
       try clear hx1
       try clear qi1
       try clear p2
       try clear c5
       try clear c9
       try clear c10
       try clear t_
       try clear Az
       try clear c11
       try clear Hh
       try clear Hi
       try clear c12
       try clear E7
       try clear r9
       try clear aqJ
       try clear ahy
       try clear aov
       try clear Mt
       try clear E7
       try clear p2
       try clear r9
       obtain⟨x6_2,bp,rfl,HA,jJ,cY,HB⟩:=hrel;have ux:=(Kd.ct cY.out).1;rw[ux]at cY
       (try simp only[ux])
       cases gk with
       |zero=>exact absurd HA.out (by simp[fu.l0])
       |succ k2=>
        have H:=HA.out;clear HA;simp only[fu.l0]at H;by_cases c17:bp<(l1.length:Int)
        ·rw[if_pos c17]at H;have AA:decide (bp<(l1.length:Int))=true:=decide_eq_true c17;clear c17;by_cases c18:0≤bp
         ·rw[if_pos c18]at H;have vS:decide (0≤bp)=true:=decide_eq_true c18;clear c18;by_cases c19:bp<(l1.length:Int)
          ·rw[if_pos c19]at H;have vT:decide (bp<(l1.length:Int))=true:=decide_eq_true c19;clear c19;by_cases c20:0≤((au l1 bp).f0)
           ·rw[if_pos c20]at H;have vU:decide (0≤((au l1 bp).f0))=true:=decide_eq_true c20;clear c20;by_cases c21:((au l1 bp).f0)<(x6_2.length:Int)
            ·rw[if_pos c21]at H;have RR:decide (((au l1 bp).f0)<(x6_2.length:Int))=true:=decide_eq_true c21;clear c21;replace H:=Option.bind_eq_some_iff.mp H;obtain⟨lF,A220,H⟩:=H
             (try dsimp only at H)
             have BW:=A_ A220;clear A220;by_cases ju:0≤((au l1 bp).f1)
             ·rw[if_pos ju]at H;have ub:decide (0≤((au l1 bp).f1))=true:=decide_eq_true ju;clear ju;by_cases c24:((au l1 bp).f1)<(x6_2.length:Int)
              ·rw[if_pos c24]at H;have RS:decide (((au l1 bp).f1)<(x6_2.length:Int))=true:=decide_eq_true c24;clear c24;obtain⟨Xp,Ee⟩:∃y_:List Int,y_=(x6_2.set (((au l1 bp).f1):Int).toNat lF):=⟨_,rfl⟩;replace H:(if lF=0 then(some (([]:List Int),false))else(fu.l0 k2 Xp l1 (l1.length:Int) (wrap64 (bp+1))))=some (r1,r2):=by first|(rw[Ee];with_reducible exact H)|(have aI:=(Option.bind_some _ _).symm.trans H;rw[Ee];with_reducible exact aI)|(have aI:=(Option.bind_some _ _).symm.trans H;with_reducible exact aI)|with_reducible exact H|(rw[Ee];exact H)|exact H
               have GU:=A_ Ee;clear Ee;by_cases c27:lF=0
               ·rw[if_pos c27]at H;have AB:(lF==0)=true:=beq_iff_eq.mpr c27;have Hm:(lF != 0)=false:=bne_eq_false_iff_eq.mpr c27;clear c27;simp only[Option.some.injEq,Prod.mk.injEq]at H;obtain⟨rfl,rfl⟩:=H;have yL:0≤(bp:Int):=oD;have q1595:bp<(l1.length:Int):=oD;obtain⟨aa',Ll,DC,DD,DF,DG⟩:=iC kg.out bp yL q1595;cases Ll;replace DC:=hW HB DC;replace DD:=hW HB DD;replace DF:=hW HB DF;replace DG:=hW HB DG;replace yL:=eq_true yL;replace q1595:=eq_true q1595
                try go_wp2_with (first|((with_reducible refine gate_dst (N:=8) rfl ?_);refine bX (N:=8) (cs:= #[.int .i64 0,.int .i64 0,.int .i64 0,.int .i64 0]) (t:=110) ?_;intro dJ hg F3 cj hb;have ah:=A_ (Kd.bh (oR cY) hb);have ai:=A_ (bz (oB HB) hb);have ay:=A_ (cj);have aG:=A_ ((by rw[hg];exact(bn (oB HB)):w.heap.size≤dJ));have bD:=A_ ((by rw[hg];exact(bn (oB HB)):w.heap.size≤dJ));clear cY;clear HB;have cY:=ah;have HB:=ai;have cR:=ay;have YJ:=aG;have YB:=bD;clear ah ai ay aG bD;clear hb cj hg;have adE:=cz cR 0;have adF:=cz cR 1;have adG:=cz cR 2;have adH:=cz cR 3;have aej:=aJ cR.out 0;have aek:=aJ cR.out 1;have ael:=aJ cR.out 2;have aem:=aJ cR.out 3))
                have ah:aj (Kd.R (Kd.int .i64) 3 ((((F3.setCell ⟨dJ,0,none⟩ (.int .i64 ((au l1 bp).f0))).setCell ⟨dJ,1,none⟩ (.int .i64 ((au l1 bp).f1))).setCell ⟨dJ,2,none⟩ (.int .i64 ((au l1 bp).f2))).setCell ⟨dJ,3,none⟩ (.int .i64 ((au l1 bp).f3))) w.heap.size (fun _=>True) (.slice (some ⟨qw,0,none⟩) x6_2.length rJ) x6_2):=⟨by(with_reducible repeat(first|apply Kd.bY|apply Kd.R_drewN|apply Kd.R_drew));exact Kd.bN (Kd.aM (p:=⟨dJ,3,none⟩) (Kd.aM (p:=⟨dJ,2,none⟩) (Kd.aM (p:=⟨dJ,1,none⟩) (Kd.aM (p:=⟨dJ,0,none⟩) (Kd.fN cY.out cR.out (by decide)) (fun _ hk=>hk.2) (.int .i64 ((au l1 bp).f0))) (fun _ hk=>hk.2) (.int .i64 ((au l1 bp).f1))) (fun _ hk=>hk.2) (.int .i64 ((au l1 bp).f2))) (fun _ hk=>hk.2) (.int .i64 ((au l1 bp).f3))) (fun _ hk=>trivial)⟩;have ai:aj (((((F3.setCell ⟨dJ,0,none⟩ (.int .i64 ((au l1 bp).f0))).setCell ⟨dJ,1,none⟩ (.int .i64 ((au l1 bp).f1))).setCell ⟨dJ,2,none⟩ (.int .i64 ((au l1 bp).f2))).setCell ⟨dJ,3,none⟩ (.int .i64 ((au l1 bp).f3))).heap[dJ]? =some (.cells #[.int .i64 ((au l1 bp).f0),.int .i64 ((au l1 bp).f1),.int .i64 ((au l1 bp).f2),.int .i64 ((au l1 bp).f3)] 110 (0,0))):=⟨by(with_reducible repeat(first|refine bP ?_ _|refine bF ?_|refine bC ?_ _));refine di (cs:= #[.int .i64 ((au l1 bp).f0),.int .i64 ((au l1 bp).f1),.int .i64 ((au l1 bp).f2),.int .i64 0]) ?_ 3 _ rfl;(with_reducible repeat(first|refine bP ?_ _|refine bF ?_|refine bC ?_ _));refine di (cs:= #[.int .i64 ((au l1 bp).f0),.int .i64 ((au l1 bp).f1),.int .i64 0,.int .i64 0]) ?_ 2 _ rfl;(with_reducible repeat(first|refine bP ?_ _|refine bF ?_|refine bC ?_ _));refine di (cs:= #[.int .i64 ((au l1 bp).f0),.int .i64 0,.int .i64 0,.int .i64 0]) ?_ 1 _ rfl;(with_reducible repeat(first|refine bP ?_ _|refine bF ?_|refine bC ?_ _));refine di (cs:= #[.int .i64 0,.int .i64 0,.int .i64 0,.int .i64 0]) ?_ 0 _ rfl;(with_reducible repeat(first|refine bP ?_ _|refine bF ?_|refine bC ?_ _));exact cR.out⟩;have ay:aj (Below w.heap.size w ((((F3.setCell ⟨dJ,0,none⟩ (.int .i64 ((au l1 bp).f0))).setCell ⟨dJ,1,none⟩ (.int .i64 ((au l1 bp).f1))).setCell ⟨dJ,2,none⟩ (.int .i64 ((au l1 bp).f2))).setCell ⟨dJ,3,none⟩ (.int .i64 ((au l1 bp).f3)))):=⟨oB HB⟩
                (try clear cY)
                (try clear cR)
                (try clear HB)
                generalize ((((F3.setCell ⟨dJ,0,none⟩ (.int .i64 ((au l1 bp).f0))).setCell ⟨dJ,1,none⟩ (.int .i64 ((au l1 bp).f1))).setCell ⟨dJ,2,none⟩ (.int .i64 ((au l1 bp).f2))).setCell ⟨dJ,3,none⟩ (.int .i64 ((au l1 bp).f3)))=F4 at ah ai ay ⊢;have cY:=ah;have cR:=ai;have HB:=ay;clear ah ai ay;have ah:=A_ (Kd.R_drew cY.out);have ai:=A_ (bF cR.out);have ay:=A_ (fC HB.out);clear cY;clear cR;clear HB;have cY:=ah;have cR:=ai;have HB:=ay;clear ah ai ay;have yM:0≤(((au l1 bp).f0):Int):=oD;have y9:((au l1 bp).f0)<(x6_2.length:Int):=oD;obtain⟨KD,Lm,hx1597_0⟩:=Kd.jZ (Kd.ct cY.out).2.2 ((au l1 bp).f0) yM y9;obtain rfl:(⟨qw,0,none⟩:Addr)=KD:=(by injection Lm)
                (first|simp only[add_plain]at hx1597_0|simp only[GY]at hx1597_0|simp only[Addr.add,Nat.zero_add]at hx1597_0|skip)
                replace yM:=eq_true yM;replace y9:=eq_true y9;refine pJ (n:=15) (S:=fun w'=>w'.cell? ⟨dJ,0,none⟩=some (.int .i64 ((au l1 bp).f0))∧w'.cell? ⟨dJ,1,none⟩=some (.int .i64 ((au l1 bp).f1))∧w'.cell? ⟨dJ,2,none⟩=some (.int .i64 ((au l1 bp).f2))∧w'.cell? ⟨dJ,3,none⟩=some (.int .i64 ((au l1 bp).f3))∧w'.cell? ⟨qw,(((au l1 bp).f0)).toNat,none⟩=some (.int .i64 (rd x6_2 ((au l1 bp).f0)))) (ds:=[14]) #[false,false,false,false,false,false,false,false,false,false,false,false,false,false,false] (by kernel_rfl) rfl rfl ⟨cz cR 0,cz cR 1,cz cR 2,cz cR 3,hx1597_0⟩ (fun hHeld=> ?_);refine su fu.tD fu.sN (fun ag HW_=> ?_);generalize F4.drew=WS at cY cR HB hx1597_0 hHeld ⊢;refine pA 0 (some 27) ag.out ?_;refine pA 1 (some 28) ag.out ?_;refine pA 3 (some 30) ag.out ?_;refine pA 4 (some 31) ag.out ?_;refine pA 8 (some 35) ag.out ?_;refine pA 10 (some 37) ag.out ?_;refine pT 2 (some 29) ag.out HW_.out hHeld ?_;refine pT 5 (some 32) ag.out HW_.out hHeld ?_;refine pA 6 (some 33) ag.out ?_;refine pT 7 (some 34) ag.out HW_.out hHeld ?_;refine pT 9 (some 36) ag.out HW_.out hHeld ?_;refine pT 11 (some 38) ag.out HW_.out hHeld ?_;refine one_ (i:=12) (N:=some 39) #[true,true,true,true,true,true,true,true,true,true,true,true,true,false,false] rfl rfl (ji ag.out (by kernel_rfl)) (by decide) (fun K hK=> ?_);refine gH Tryz.func146 (by kernel_rfl) rfl #[.int .i64 (rd x6_2 ((au l1 bp).f0)),.int .i64 ((au l1 bp).f2),.int .i64 ((au l1 bp).f3)] (by rfl) rfl rfl (by(try simp only[List.map_toArray,List.map_cons,List.map_nil]);first|done|rfl|(simp only[List.length_drop,List.length_take];rfl)) ?_
                with_reducible refine(iP.calls k2 (rd x6_2 ((au l1 bp).f0)) ((au l1 bp).f2) ((au l1 bp).f3) lF _ BW.out).mono ?_
                rintro e F5 ⟨rfl,hb⟩;have xm:=(hb.cell (World.block_lt_of_cell? _ _ (hHeld.2.2.2.2))).trans (hHeld.2.2.2.2);refine⟨_,rfl,?_⟩;have ah:=A_ (Kd.bh (oR cY) hb);have ai:=A_ (bb cR hb);have ay:=A_ (bz (oB HB) hb);clear cY;clear cR;clear HB;have cY:=ah;have cR:=ai;have HB:=ay;clear ah ai ay
                (try clear hb)
                (try clear hb2)
                (try clear hk)
                (try clear hi)
                have yS:0≤(((au l1 bp).f1):Int):=oD;have zg:(((au l1 bp).f1):Int)<((x6_2.length:Int):Int):=oD;obtain⟨ae8,ad9⟩:=Kd.nW 0 cY.out (((au l1 bp).f1):Int) yS zg;replace yS:=eq_true yS;replace zg:=eq_true zg;have J5:=Kd.Kp cY.out (((au l1 bp).f1):Int) lF;rw[←GU.out]at J5;have Zx:=A_ J5;clear J5;refine hK.out _ _ ⟨cz cR 0,cz cR 1,cz cR 2,cz cR 3,xm⟩ (fun hHeld=> ?_);clear hK K;refine kM (a':= ?_) ?_ ?_;rotate_left
                ·show Act.put _ (some 39) _=_;simp only[Act.put,List.setIfInBounds_toArray,List.set_cons_zero,List.set_cons_succ,eJ,gj];rfl
                refine pA 13 (some 40) ag.out ?_;refine II (i:=14) (N:=none) #[true,true,true,true,true,true,true,true,true,true,true,true,true,true,true] rfl rfl (ji ag.out (by kernel_rfl)) (by decide) (fun K hK=> ?_);refine Bp (w1:= ?_) (by rfl) rfl ?_ ?_;rotate_left
                ·go_simp
                 rfl
                refine hK.out _ _ ?_;clear hK K;refine done_ (done_of ag.out (by kernel_rfl)) ?_;have am5:=cz cR 0;have am6:=cz cR 1;have am7:=cz cR 2;have am8:=cz cR 3;have aoN:=aJ cR.out 0;have aoO:=aJ cR.out 1;have aoP:=aJ cR.out 2;have aoQ:=aJ cR.out 3;have yU:0≤(((au l1 bp).f1):Int):=oD;have Fe:(((au l1 bp).f1):Int)<((x6_2.length:Int):Int):=oD;have C2:(((au l1 bp).f1):Int).toNat<x6_2.length:=(by omega);have Mc:=(Kd.nW 0 Zx.out (((au l1 bp).f1):Int) yU (by have h9:=(Kd.ct cY.out).1;omega)).1;rw[GU.out,show eG 0 (x6_2.set (((au l1 bp).f1):Int).toNat lF) (((au l1 bp).f1):Int)=lF by simp[eG,List.getD_eq_getElem?_getD,C2]]at Mc;clear C2;have ads:(F5.setCell ⟨qw,(((au l1 bp).f1):Int).toNat,none⟩ (.int .i64 lF)).cell? ⟨dJ,1,none⟩=some (.int .i64 (((au l1 bp).f1):Int)):=(fQ (blk_far cR.out (fun e_=>Kd.nr cY.out cR.out (by decide) (by simp only[Value.ownBlock];rw[e_])) _) 1).trans rfl;replace yU:=eq_true yU;replace Fe:=eq_true Fe
                try go_wp2
                go_ret2;exact⟨_,eR,by first|exact Kd.bM _ _ _ _ _|exact Kd.p_ _ _ _ _ _|exact Kd.qf _ _ _ _ _|exact Kd.Q_nil _ _ _ _ _|exact Kd.S_nil _ _ _ _ _,oB HB⟩
               ·rw[if_neg c27]at H;have AB:(lF==0)=false:=beq_eq_false_iff_ne.mpr c27;have Hm:(lF != 0)=true:=bne_iff_ne.mpr c27;have H':=A_ H;clear H;have yL:0≤(bp:Int):=oD;have q1595:bp<(l1.length:Int):=oD;obtain⟨aa',Ll,DC,DD,DF,DG⟩:=iC kg.out bp yL q1595;cases Ll;replace DC:=hW HB DC;replace DD:=hW HB DD;replace DF:=hW HB DF;replace DG:=hW HB DG;replace yL:=eq_true yL;replace q1595:=eq_true q1595
                try go_wp2_with (first|((with_reducible refine gate_dst (N:=8) rfl ?_);refine bX (N:=8) (cs:= #[.int .i64 0,.int .i64 0,.int .i64 0,.int .i64 0]) (t:=110) ?_;intro dJ hg wY cj hb;have ah:=A_ (Kd.bh (oR cY) hb);have ai:=A_ (bz (oB HB) hb);have ay:=A_ (cj);have aG:=A_ ((by rw[hg];exact(bn (oB HB)):w.heap.size≤dJ));have bD:=A_ ((by rw[hg];exact(bn (oB HB)):w.heap.size≤dJ));clear cY;clear HB;have cY:=ah;have HB:=ai;have cR:=ay;have YJ:=aG;have YB:=bD;clear ah ai ay aG bD;clear hb cj hg;have am_:=cz cR 0;have am':=cz cR 1;have ana:=cz cR 2;have anb:=cz cR 3;have aoS:=aJ cR.out 0;have aoT:=aJ cR.out 1;have aoU:=aJ cR.out 2;have aoV:=aJ cR.out 3))
                have ah:aj (Kd.R (Kd.int .i64) 3 ((((wY.setCell ⟨dJ,0,none⟩ (.int .i64 ((au l1 bp).f0))).setCell ⟨dJ,1,none⟩ (.int .i64 ((au l1 bp).f1))).setCell ⟨dJ,2,none⟩ (.int .i64 ((au l1 bp).f2))).setCell ⟨dJ,3,none⟩ (.int .i64 ((au l1 bp).f3))) w.heap.size (fun _=>True) (.slice (some ⟨qw,0,none⟩) x6_2.length rJ) x6_2):=⟨by(with_reducible repeat(first|apply Kd.bY|apply Kd.R_drewN|apply Kd.R_drew));exact Kd.bN (Kd.aM (p:=⟨dJ,3,none⟩) (Kd.aM (p:=⟨dJ,2,none⟩) (Kd.aM (p:=⟨dJ,1,none⟩) (Kd.aM (p:=⟨dJ,0,none⟩) (Kd.fN cY.out cR.out (by decide)) (fun _ hk=>hk.2) (.int .i64 ((au l1 bp).f0))) (fun _ hk=>hk.2) (.int .i64 ((au l1 bp).f1))) (fun _ hk=>hk.2) (.int .i64 ((au l1 bp).f2))) (fun _ hk=>hk.2) (.int .i64 ((au l1 bp).f3))) (fun _ hk=>trivial)⟩;have ai:aj (((((wY.setCell ⟨dJ,0,none⟩ (.int .i64 ((au l1 bp).f0))).setCell ⟨dJ,1,none⟩ (.int .i64 ((au l1 bp).f1))).setCell ⟨dJ,2,none⟩ (.int .i64 ((au l1 bp).f2))).setCell ⟨dJ,3,none⟩ (.int .i64 ((au l1 bp).f3))).heap[dJ]? =some (.cells #[.int .i64 ((au l1 bp).f0),.int .i64 ((au l1 bp).f1),.int .i64 ((au l1 bp).f2),.int .i64 ((au l1 bp).f3)] 110 (0,0))):=⟨by(with_reducible repeat(first|refine bP ?_ _|refine bF ?_|refine bC ?_ _));refine di (cs:= #[.int .i64 ((au l1 bp).f0),.int .i64 ((au l1 bp).f1),.int .i64 ((au l1 bp).f2),.int .i64 0]) ?_ 3 _ rfl;(with_reducible repeat(first|refine bP ?_ _|refine bF ?_|refine bC ?_ _));refine di (cs:= #[.int .i64 ((au l1 bp).f0),.int .i64 ((au l1 bp).f1),.int .i64 0,.int .i64 0]) ?_ 2 _ rfl;(with_reducible repeat(first|refine bP ?_ _|refine bF ?_|refine bC ?_ _));refine di (cs:= #[.int .i64 ((au l1 bp).f0),.int .i64 0,.int .i64 0,.int .i64 0]) ?_ 1 _ rfl;(with_reducible repeat(first|refine bP ?_ _|refine bF ?_|refine bC ?_ _));refine di (cs:= #[.int .i64 0,.int .i64 0,.int .i64 0,.int .i64 0]) ?_ 0 _ rfl;(with_reducible repeat(first|refine bP ?_ _|refine bF ?_|refine bC ?_ _));exact cR.out⟩;have ay:aj (Below w.heap.size w ((((wY.setCell ⟨dJ,0,none⟩ (.int .i64 ((au l1 bp).f0))).setCell ⟨dJ,1,none⟩ (.int .i64 ((au l1 bp).f1))).setCell ⟨dJ,2,none⟩ (.int .i64 ((au l1 bp).f2))).setCell ⟨dJ,3,none⟩ (.int .i64 ((au l1 bp).f3)))):=⟨oB HB⟩
                (try clear cY)
                (try clear cR)
                (try clear HB)
                generalize ((((wY.setCell ⟨dJ,0,none⟩ (.int .i64 ((au l1 bp).f0))).setCell ⟨dJ,1,none⟩ (.int .i64 ((au l1 bp).f1))).setCell ⟨dJ,2,none⟩ (.int .i64 ((au l1 bp).f2))).setCell ⟨dJ,3,none⟩ (.int .i64 ((au l1 bp).f3)))=OH at ah ai ay ⊢;have cY:=ah;have cR:=ai;have HB:=ay;clear ah ai ay;have ah:=A_ (Kd.R_drew cY.out);have ai:=A_ (bF cR.out);have ay:=A_ (fC HB.out);clear cY;clear cR;clear HB;have cY:=ah;have cR:=ai;have HB:=ay;clear ah ai ay;have yM:0≤(((au l1 bp).f0):Int):=oD;have y9:((au l1 bp).f0)<(x6_2.length:Int):=oD;obtain⟨KD,Lm,hx1597_0⟩:=Kd.jZ (Kd.ct cY.out).2.2 ((au l1 bp).f0) yM y9;obtain rfl:(⟨qw,0,none⟩:Addr)=KD:=(by injection Lm)
                (first|simp only[add_plain]at hx1597_0|simp only[GY]at hx1597_0|simp only[Addr.add,Nat.zero_add]at hx1597_0|skip)
                replace yM:=eq_true yM;replace y9:=eq_true y9;refine pJ (n:=15) (S:=fun w'=>w'.cell? ⟨dJ,0,none⟩=some (.int .i64 ((au l1 bp).f0))∧w'.cell? ⟨dJ,1,none⟩=some (.int .i64 ((au l1 bp).f1))∧w'.cell? ⟨dJ,2,none⟩=some (.int .i64 ((au l1 bp).f2))∧w'.cell? ⟨dJ,3,none⟩=some (.int .i64 ((au l1 bp).f3))∧w'.cell? ⟨qw,(((au l1 bp).f0)).toNat,none⟩=some (.int .i64 (rd x6_2 ((au l1 bp).f0)))) (ds:=[14]) #[false,false,false,false,false,false,false,false,false,false,false,false,false,false,false] (by kernel_rfl) rfl rfl ⟨cz cR 0,cz cR 1,cz cR 2,cz cR 3,hx1597_0⟩ (fun hHeld=> ?_);refine su fu.tD fu.sN (fun ag HW_=> ?_);generalize OH.drew=WT at cY cR HB hx1597_0 hHeld ⊢;refine pA 0 (some 27) ag.out ?_;refine pA 1 (some 28) ag.out ?_;refine pA 3 (some 30) ag.out ?_;refine pA 4 (some 31) ag.out ?_;refine pA 8 (some 35) ag.out ?_;refine pA 10 (some 37) ag.out ?_;refine pT 2 (some 29) ag.out HW_.out hHeld ?_;refine pT 5 (some 32) ag.out HW_.out hHeld ?_;refine pA 6 (some 33) ag.out ?_;refine pT 7 (some 34) ag.out HW_.out hHeld ?_;refine pT 9 (some 36) ag.out HW_.out hHeld ?_;refine pT 11 (some 38) ag.out HW_.out hHeld ?_;refine one_ (i:=12) (N:=some 39) #[true,true,true,true,true,true,true,true,true,true,true,true,true,false,false] rfl rfl (ji ag.out (by kernel_rfl)) (by decide) (fun K hK=> ?_);refine gH Tryz.func146 (by kernel_rfl) rfl #[.int .i64 (rd x6_2 ((au l1 bp).f0)),.int .i64 ((au l1 bp).f2),.int .i64 ((au l1 bp).f3)] (by rfl) rfl rfl (by(try simp only[List.map_toArray,List.map_cons,List.map_nil]);first|done|rfl|(simp only[List.length_drop,List.length_take];rfl)) ?_
                with_reducible refine(iP.calls k2 (rd x6_2 ((au l1 bp).f0)) ((au l1 bp).f2) ((au l1 bp).f3) lF _ BW.out).mono ?_
                rintro e w39 ⟨rfl,hb⟩;have xm:=(hb.cell (World.block_lt_of_cell? _ _ (hHeld.2.2.2.2))).trans (hHeld.2.2.2.2);refine⟨_,rfl,?_⟩;have ah:=A_ (Kd.bh (oR cY) hb);have ai:=A_ (bb cR hb);have ay:=A_ (bz (oB HB) hb);clear cY;clear cR;clear HB;have cY:=ah;have cR:=ai;have HB:=ay;clear ah ai ay
                (try clear hb)
                (try clear hb2)
                (try clear hk)
                (try clear hi)
                have yS:0≤(((au l1 bp).f1):Int):=oD;have zg:(((au l1 bp).f1):Int)<((x6_2.length:Int):Int):=oD;obtain⟨ae8,ad9⟩:=Kd.nW 0 cY.out (((au l1 bp).f1):Int) yS zg;replace yS:=eq_true yS;replace zg:=eq_true zg;have J7:=Kd.Kp cY.out (((au l1 bp).f1):Int) lF;rw[←GU.out]at J7;have Qw:=A_ J7;clear J7;refine hK.out _ _ ⟨cz cR 0,cz cR 1,cz cR 2,cz cR 3,xm⟩ (fun hHeld=> ?_);clear hK K;refine kM (a':= ?_) ?_ ?_;rotate_left
                ·show Act.put _ (some 39) _=_;simp only[Act.put,List.setIfInBounds_toArray,List.set_cons_zero,List.set_cons_succ,eJ,gj];rfl
                refine pA 13 (some 40) ag.out ?_;refine II (i:=14) (N:=none) #[true,true,true,true,true,true,true,true,true,true,true,true,true,true,true] rfl rfl (ji ag.out (by kernel_rfl)) (by decide) (fun K hK=> ?_);refine Bp (w1:= ?_) (by rfl) rfl ?_ ?_;rotate_left
                ·go_simp
                 rfl
                refine hK.out _ _ ?_;clear hK K;refine done_ (done_of ag.out (by kernel_rfl)) ?_;have anl:=cz cR 0;have anm:=cz cR 1;have ann:=cz cR 2;have ano:=cz cR 3;have ao4:=aJ cR.out 0;have ao5:=aJ cR.out 1;have ao6:=aJ cR.out 2;have ao7:=aJ cR.out 3;have yU:0≤(((au l1 bp).f1):Int):=oD;have Fe:(((au l1 bp).f1):Int)<((x6_2.length:Int):Int):=oD;have C2:(((au l1 bp).f1):Int).toNat<x6_2.length:=(by omega);have Mc:=(Kd.nW 0 Qw.out (((au l1 bp).f1):Int) yU (by have h9:=(Kd.ct cY.out).1;omega)).1;rw[GU.out,show eG 0 (x6_2.set (((au l1 bp).f1):Int).toNat lF) (((au l1 bp).f1):Int)=lF by simp[eG,List.getD_eq_getElem?_getD,C2]]at Mc;clear C2;have ads:(w39.setCell ⟨qw,(((au l1 bp).f1):Int).toNat,none⟩ (.int .i64 lF)).cell? ⟨dJ,1,none⟩=some (.int .i64 (((au l1 bp).f1):Int)):=(fQ (blk_far cR.out (fun e_=>Kd.nr cY.out cR.out (by decide) (by simp only[Value.ownBlock];rw[e_])) _) 1).trans rfl;replace yU:=eq_true yU;replace Fe:=eq_true Fe
                try go_wp2
                (try simp only[←ux])
                go_roundg k2
                case measure=>have:=zO.out;have:=jJ.out;omega
                case rel=>exact⟨(Xp),(wrap64 (bp+1)),eS,H',⟨by have:=zO.out;have:=jJ.out;omega⟩,⟨by(try simp only[ux]);(with_reducible repeat(first|apply Kd.bY|apply Kd.R_drewN|apply Kd.R_drew));exact Qw.out⟩,⟨oB HB⟩⟩
              ·rw[if_neg c24]at H;exact absurd H (by simp)
             ·rw[if_neg ju]at H;exact absurd H (by simp)
            ·rw[if_neg c21]at H;exact absurd H (by simp)
           ·rw[if_neg c20]at H;exact absurd H (by simp)
          ·rw[if_neg c19]at H;exact absurd H (by simp)
         ·rw[if_neg c18]at H;exact absurd H (by simp)
        ·rw[if_neg c17]at H;have AA:decide (bp<(l1.length:Int))=false:=decide_eq_false c17;clear c17;simp only[Option.some.injEq,Prod.mk.injEq]at H;obtain⟨rfl,rfl⟩:=H;go_wp2;go_ret2;exact⟨_,eR,oR cY,oB HB⟩
     ·rw[if_neg c11]at H;exact absurd H (by simp)
    ·rw[if_neg c10]at H;exact absurd H (by simp)
end Go.Proofs.YtnjfiaekdcekgaaGreatDoor.P
namespace Go.Proofs.YtnjfiaekdcekgaaGreatDoor.Q
open Go.RowKit Go.Proofs.YtnjfiaekdcekgaaGreatDoor.P
def qE (l:List S64) (m:Int):Prop:=l.length=0∨(l.getD (l.length-1) z64).f2≤m
instance (l:List S64) (m:Int):Decidable (qE l m):=by unfold qE;exact inferInstance
def iT (p:List ar) (d:Int) (q:List Int) (a m:Int) (l:List S64):Bool:=eX p d q&&(gA l&&(decide (-10≤a∧a≤40)&&(decide (0≤m∧m≤100000)&&decide (qE l m))))
theorem tr {p:List ar} {d:Int} {q:List Int} {a m:Int} {l:List S64}:iT p d q a m l=true↔eX p d q=true∧gA l=true∧(-10≤a∧a≤40)∧(0≤m∧m≤100000)∧qE l m:=by
  unfold iT;simp only[Bool.and_eq_true,decide_eq_true_eq]
end Go.Proofs.YtnjfiaekdcekgaaGreatDoor.Q
namespace Go.Proofs.YtnjfiaekdcekgaaGreatDoor.P
open Go.RowKit Go.Proofs.YtnjfiaekdcekgaaGreatDoorW.bS Go.Proofs.YtnjfiaekdcekgaaGreatDoorW.dU Go.Proofs.YtnjfiaekdcekgaaGreatDoorW.dX
open Go.Maps (Keyed)
theorem agc:laidOutB Tryz.prog=true:=by kernel_rfl
theorem ahe:WideMaps.KeyLaw Tryz.prog 62:=deep_law_gate agc (of_decide_eq_true (by kernel_rfl)) (of_decide_eq_true (by kernel_rfl)) (by kernel_rfl) (by kernel_rfl)
theorem yY:Keyed Tryz.prog 62:=Keyed.of_law ahe
def eO (a:Int):Prop:=(Lit.int .i64 a).wf=true
theorem BM {a:Int} (h: -9223372036854775808≤a) (h2:a≤9223372036854775807):eO a:=by
  have e1:IntKind.i64.min= -9223372036854775808:=by decide
  have e2:IntKind.i64.max=9223372036854775807:=by decide
  unfold eO Lit.wf;simp[e1,e2];omega
def uW (a b:Int):Value:= .agg #[.int .i64 a,.int .i64 b]
def Bh (x:S64):Value:= .agg #[.int .i64 x.f0.f0,.int .i64 x.f0.f1,.int .i64 x.f1,.int .i64 x.f2]
theorem I1:Tryz.prog.cellsOf 62=2:=by kernel_rfl
theorem UG:Tryz.prog.cellsOf 3=1:=by kernel_rfl
theorem WL:∃m,Tryz.prog.types.size=m+1:=⟨Tryz.prog.types.size-1,by have:0<Tryz.prog.types.size:=of_decide_eq_true (by kernel_rfl);omega⟩
theorem keyLits_int (m:Nat) (v:Value):Tryz.prog.keyLits (m+1) 3 [v]=(match v with| .int q' n=>if q'= .i64∧(Lit.int .i64 n).wf=true then some [.int .i64 n]else none|_=>none):=by
  simp only[Program.keyLits,Tryz.underlying3];cases v<;>rfl
def lD (a b:Int):Lit:= .string (keyBytes [.int .i64 a,.int .i64 b])
theorem yz {a b:Int} (ha:eO a) (hb:eO b):keyOf Tryz.prog 62 (uW a b)=some (lD a b):=by
  obtain⟨m,hm⟩:=WL;have kt:Tryz.prog.keyType 62=true:=by kernel_rfl
  unfold eO at ha hb;have fm:(uW a b).formed Tryz.prog 62=true:=by simp[uW,Value.formed,Tryz.underlying62,I1]
  have hl:Tryz.prog.keyLits (m+1+1) 62 [.int .i64 a,.int .i64 b]=some [.int .i64 a,.int .i64 b]:=by
    unfold Program.keyLits;simp only[Tryz.underlying62];simp[I1,UG,keyLits_int,ha,hb]
  rw[←hm]at hl;unfold keyOf;simp only[Tryz.underlying62,kt,fm,Bool.and_self,if_true,Option.map_eq_some_iff];exact⟨_,hl,rfl⟩
theorem UN {v:Value} {l:Lit} (h:keyOf Tryz.prog 62 v=some l):∃a b,v=uW a b∧eO a∧eO b:=by
  obtain⟨m,hm⟩:=WL;have kt:Tryz.prog.keyType 62=true:=by kernel_rfl
  unfold keyOf at h;simp only[Tryz.underlying62,kt,Bool.true_and]at h
  split at h
  case isFalse=>cases h
  case isTrue hf=>
    cases v<;>simp[Value.formed,Tryz.underlying62,I1]at hf
    rename_i cs
    obtain⟨c0,c1,rfl⟩:∃c0 c1,cs= #[c0,c1]:=by
      rcases cs with ⟨_|⟨x,_|⟨y,_|⟨z,t⟩⟩⟩⟩<;>simp at hf ⊢
    simp only[Option.map_eq_some_iff]at h;obtain⟨ls,h,_⟩:=h;rw[hm]at h;replace h:Tryz.prog.keyLits (m+1+1) 62 [c0,c1]=some ls:=h;unfold Program.keyLits at h;simp only[Tryz.underlying62]at h;simp[I1,UG,keyLits_int]at h;cases c0<;>simp at h
    rename_i k0 n0
    by_cases e0:k0= .i64∧(Lit.int .i64 n0).wf=true
    · obtain⟨rfl,e0⟩:=e0;cases c1<;>simp[e0]at h
      rename_i k1 n1
      by_cases e1:k1= .i64∧(Lit.int .i64 n1).wf=true
      · obtain⟨rfl,e1⟩:=e1;exact⟨_,_,rfl,e0,e1⟩
      · simp[e1]at h
    · simp[e0]at h
instance arA:DecidableEq fp:=fun a b=>decidable_of_iff (a.f0=b.f0∧a.f1=b.f1) ⟨fun h=>by obtain⟨x,y⟩:=a;obtain⟨z,u⟩:=b;simp only at h;obtain⟨rfl,rfl⟩:=h;rfl,fun h=>by rw[h];exact⟨rfl,rfl⟩⟩
abbrev pipeR (v:Value):Option (DataW Unit×List MemPlace):=
  match v with
  | .agg ⟨[.int .i64 a,.int .i64 b,.int .i64 c,.int .i64 d]⟩=>some (.agg [.lit (.int .i64 a),.lit (.int .i64 b),.lit (.int .i64 c),.lit (.int .i64 d)],[])
  |_=>none
def qG (x:S64):DataW Unit:= .agg [.lit (.int .i64 x.f0.f0),.lit (.int .i64 x.f0.f1),.lit (.int .i64 x.f1),.lit (.int .i64 x.f2)]
theorem pipeR_mk (x:S64):pipeR (Bh x)=some (qG x,[]):=rfl
theorem Vv {v:Value} {y:DataW Unit×List MemPlace} (h:pipeR v=some y):∃x:S64,v=Bh x∧y=(qG x,[]):=by
  unfold pipeR at h
  split at h
  · exact⟨⟨⟨_,_⟩,_,_⟩,rfl,(Option.some.inj h).symm⟩
  · cases h
theorem NJ {x y:S64} (h:qG x=qG y):x=y:=by
  obtain⟨⟨a,b⟩,c,d⟩:=x;obtain⟨⟨a',b'⟩,c',d'⟩:=y;simp[qG]at h;obtain⟨rfl,rfl,rfl,rfl⟩:=h;rfl
structure vH (D:DataW Unit) (m:fp→Option S64):Prop where
  isMap:Maps.IsMap D
  at_:∀p:fp,eO p.f0→eO p.f1→∀z,D.atKey (lD p.f0 p.f1) z=((m p).map qG).getD z
theorem aga:vH (.map []) (fun _=>none):=⟨Maps.isMap_empty,fun _ _ _ _=>rfl⟩
theorem Vt {a b a' b':Int} (ha:eO a) (hb:eO b) (ha':eO a') (hb':eO b') (h:lD a b=lD a' b'):a=a'∧b=b':=by
  have h1:=yz ha hb;have h2:=yz ha' hb';rw[←h]at h2;have e:=yY.inj h1 h2;simp[uW]at e;exact e
theorem vH.put {D:DataW Unit} {m:fp→Option S64} (h:vH D m) (p:fp) (ha:eO p.f0) (hb:eO p.f1) (x:S64):
    vH (D.put (lD p.f0 p.f1) (qG x)) (fun q=>if q=p then some x else m q):=by
  refine⟨h.isMap.put _ _,fun q Ub hq1 z=> ?_⟩;by_cases e:q=p
  · subst e;rw[Maps.atKey_put_same h.isMap (yY.key (yz ha hb))];simp
  · have hne:lD q.f0 q.f1≠lD p.f0 p.f1:=fun hh=>e (by
      have:=Vt Ub hq1 ha hb hh;obtain⟨a,b⟩:=q;obtain⟨c,d⟩:=p;simp only at this;obtain⟨rfl,rfl⟩:=this;rfl)
    rw[Maps.atKey_put_other hne,h.at_ q Ub hq1];simp[e]
def pG (l:List S64) (p:fp):Option S64:=l.foldl (fun o x=>if p=x.f0 then some x else o) none
theorem UU (l:List S64) (x:S64):pG (l++[x])=fun q=>if q=x.f0 then some x else pG l q:=by
  funext q
  simp[pG]
abbrev Vu (w:World) (b n:Nat) (l:List S64):Prop:=∃D,w.ownsMap Tryz.prog 62 pipeR b n D∧vH D (pG l)
set_option maxHeartbeats 4000000 in
set_option maxRecDepth 100000 in
theorem MD.calls (A0:Option Addr) (c0:Nat) (l0:List S64) (w:World) (cd:Kd.C k64 w A0 l0.length l0) (hc0:l0.length≤c0) (hl:l0.length≤1000) (hw:∀x∈l0,eO x.f0.f0∧eO x.f0.f1):
    Calls Tryz.prog 133 #[.slice A0 l0.length c0] w fun e w'=>∃b:Nat,e= .returned (.map (some b))∧w.heap.size≤b∧Vu w' b l0.length l0∧Below w.heap.size w w':=by
  have dI:=aj.mk cd;have HW:=aj.mk hw;have HB:=aj.mk (Below.refl w.heap.size w);clear cd hw;have Ua:=World.ownsMap_made w Tryz.prog 62 pipeR;have HO:=aj.mk Ua;clear Ua;have hmm:=@run_makeMap Tryz.prog;go_enter Tryz.func133,Tryz.ntmps133;go_wp2
  go_loopg [9] (l0.length+1) (fun kq v9 w'=>∃(i:Nat),v9= .int .i64 (i:Int)∧aj (i+kq=l0.length+1)∧aj (i≤l0.length)∧aj (Vu w' w.heap.size i (l0.take i))∧aj (Below w.heap.size w w'))
  case atStart=>
    exact⟨0,rfl,⟨by omega⟩,⟨by omega⟩,⟨⟨_,HO.out,aga⟩⟩,⟨dB HB.out _⟩⟩
  case round=>
    clear HB HO;obtain⟨i,rfl,kU,HI2,HM,HB⟩:=hrel;by_cases hlt:i<l0.length
    · have hb3:decide ((i:Int)<(l0.length:Int))=true:=decide_eq_true (by omega);have hb4:decide (i<l0.length)=true:=decide_eq_true (by omega);obtain⟨ad,e,hx0,hx1,hx2,hx3⟩:=tV dI.out (i:Int) (by omega) (by omega);cases e;replace hx0:=(HB.out.cell (World.block_lt_of_cell? w _ hx0)).trans hx0;replace hx1:=(HB.out.cell (World.block_lt_of_cell? w _ hx1)).trans hx1;replace hx2:=(HB.out.cell (World.block_lt_of_cell? w _ hx2)).trans hx2;replace hx3:=(HB.out.cell (World.block_lt_of_cell? w _ hx3)).trans hx3;obtain⟨x,hx⟩:∃x,dn l0 (i:Int)=x:=⟨_,rfl⟩;rw[hx]at hx0 hx1 hx2 hx3;simp only[Int.toNat_natCast]at hx0 hx1 hx2 hx3;have e0:l0[i]=x:=(by rw[←hx];simp[dn,List.getD_eq_getElem?_getD,hlt]);obtain⟨q1,q2⟩:=HW.out x (by rw[←e0];exact List.getElem_mem hlt);have HT:aj (l0.take (i+1)=l0.take i++[x]):=⟨by rw[List.take_succ_eq_append_getElem hlt,e0]⟩;have HQ:=aj.mk q1;have Qv:=aj.mk q2;obtain⟨D,hD,rS⟩:=HM.out;have HD:=aj.mk hD;have HD2:=aj.mk rS;have B_:=aj.mk hlt;clear hx e0 q1 q2 HM hD rS
      go_wp2_with (first|(at_mapUpdate;refine wpList_mapUpdate_own _ rfl _ _ _ 141 rfl 62 64 yY Tryz.underlying141 pipeR w.heap.size i D rfl (HD.out.alloc _) (show i<maxLen from Nat.lt_of_le_of_lt (show i≤1000 by omega) (by decide)) (uW x.f0.f0 x.f0.f1) (Bh x) _ rfl rfl (yz HQ.out Qv.out) (qG x) [] (pipeR_mk x) ?_;intro w2 h2 hg2;have H2:=aj.mk h2;have GI:=aj.mk hg2;clear h2 hg2))
      go_roundg (l0.length-i)
      case measure=>have:=kU.out;omega
      case rel=>
        refine⟨i+1,by go_num,⟨by omega⟩,⟨by omega⟩,⟨⟨_,H2.out,?_⟩⟩,⟨?_⟩⟩
        · rw[HT.out,UU];exact vH.put HD2.out x.f0 HQ.out Qv.out x
        · exact(dB HB.out _).grown GI.out (dB HB.out _).size (fun k hk=>by cases hk;exact Nat.le_refl _)
    · have hb3:decide ((i:Int)<(l0.length:Int))=false:=decide_eq_false (by omega);have hb4:decide (i<l0.length)=false:=decide_eq_false (by omega);obtain rfl:i=l0.length:=(by have:=HI2.out;omega);go_wp2;go_ret;exact⟨w.heap.size,rfl,Nat.le_refl _,by simpa using HM.out,HB.out⟩
def AK (l:List S64) (p:fp):Int:=((pG l p).getD z64).f1
instance (a:Int):Decidable (eO a):=by unfold eO;infer_instance
theorem ak1 (w:World):(zeroValue 64).run Tryz.prog w= .ok (Bh z64) w:=by kernel_rfl
theorem ac4 (a b c d:Int) (w:World):(Instr.field 64 (.agg #[.int .i64 a,.int .i64 b,.int .i64 c,.int .i64 d]) 1).run Tryz.prog w= .ok (.int .i64 c) w:=by kernel_rfl
theorem U3 {w:World} {b n:Nat} {D:DataW Unit} {m:fp→Option S64} (h:w.ownsMap Tryz.prog 62 pipeR b n D) (hD:vH D m) (p:fp) (h0:eO p.f0) (h1:eO p.f1):
    ∃x:S64,(Instr.lookup 141 (.map (some b)) (.agg #[.int .i64 p.f0,.int .i64 p.f1]) false).run Tryz.prog w= .ok (.agg #[.int .i64 x.f0.f0,.int .i64 x.f0.f1,.int .i64 x.f1,.int .i64 x.f2]) w∧x=(m p).getD z64:=by
  obtain⟨v,ps,hrun,hv⟩:=h.lookup yY Tryz.underlying141 (ak1 w) (pipeR_mk _) (yz h0 h1);obtain⟨x,rfl,e⟩:=Vv hv;refine⟨x,hrun,?_⟩;rw[hD.at_ p h0 h1]at e;simp only[Prod.mk.injEq]at e;cases hm:m p with
  |none=>rw[hm]at e;exact(NJ e.1).symm
  |some y=>rw[hm]at e;exact(NJ e.1).symm
end Go.Proofs.YtnjfiaekdcekgaaGreatDoor.P
namespace Go.Proofs.YtnjfiaekdcekgaaGreatDoor.Q
open Go.RowKit Go.Proofs.YtnjfiaekdcekgaaGreatDoor.P Go.Proofs.YtnjfiaekdcekgaaGreatDoorW.bS Go.Proofs.YtnjfiaekdcekgaaGreatDoorW.dX
theorem ahh (l:List ar) (t:List Bool):td l t=planGo l t:=by
  induction l generalizing t with
  |nil=>rfl
  |cons x r ih=>simp only[td,planGo,ih];rfl
theorem VB (l:List ar):qK.f l=some (jD l):=by
  show some (Nl l)=some (jD l);unfold Nl jD;rw[ahh,Bool.and_comm];rfl
theorem ahk (l:List ar):uN.f l=some (jD l):=rfl
def Iy (x:ar):Prop:=0≤x.f0∧x.f0≤11∧0≤x.f1∧x.f1≤11∧x.f1=(x.f0+1)%12
theorem aiE {x:ar} {t:List Bool} (h:pK x t=true):Iy x:=by
  simp[pK]at h;unfold Iy;omega
theorem ahj {l:List ar} {t:List Bool} (h:planGo l t=true):∀x∈l,Iy x:=by
  induction l generalizing t with
  |nil=>simp
  |cons y r ih=>
   simp only[planGo,Bool.and_eq_true]at h;intro x hx;rcases List.mem_cons.1 hx with rfl|hx
   · exact aiE h.1
   · exact ih h.2 x hx
theorem th {l:List ar} (h:jD l=true):∀x∈l,Iy x:=by
  simp only[jD,Bool.and_eq_true]at h;exact ahj h.2
theorem planOk_len {l:List ar} (h:jD l=true):l.length≤11:=by
  simp only[jD,Bool.and_eq_true,decide_eq_true_eq]at h;exact h.1
theorem sf (l:List Int) (i:Int):rd l i=l.getD i.toNat 0:=rfl
def oq (c:Int):List ar→Nat→Int
  |[],_=> -1
  |x::r,j=>if x.f1=c then(j:Int)else oq c r (j+1)
theorem aiF (l:List ar) (c:Int) (hl:l.length≤4000000):Ev (fun n=>kP.f n l c) (oq c l 0):=by
  have key:∀i,i≤l.length→Ev (fun n=>kP.l0 n l c (i:Int)) (oq c (l.drop i) i):=by
    refine down (n:=l.length) ?_ ?_
    · refine Ev.step (fun n=>by rw[kP.l0]) (aT (by omega) (evs ?_));rw[xR];rfl
    · intro i hi ih;refine Ev.step (fun n=>by rw[kP.l0]) ?_;refine evp (by omega) (evp (by omega) ?_);rw[se l i hi,drop_cons l i hi,oq];by_cases h:l[i].f1=c
      · exact df h<|evp h (Ev.now _)
      · refine cq h<|aT h ?_;rw[eH (by omega) (by omega)];exact ih
  exact key 0 (Nat.zero_le _)
theorem aiG (c:Int) (l:List ar) (j d:Nat):(0≤oq c l j∧oq c l j<((j+d:Nat):Int))↔∃x∈l.take d,x.f1=c:=by
  induction l generalizing j d with
  |nil=>simp[oq]
  |cons x r ih=>
   unfold oq;cases d with
   |zero=>
    simp only[List.take_zero,List.not_mem_nil,false_and,exists_false,iff_false];by_cases h:x.f1=c
    · rw[if_pos h];omega
    · rw[if_neg h];have:=ih (j+1) 0;simp at this;have h1:=this;intro h2
      have:∀(l:List ar) (j:Nat),oq c l j= -1∨(j:Int)≤oq c l j:=by
        intro l
        induction l with
        |nil=>intro j;exact .inl rfl
        |cons y s ih2=>
         intro j;unfold oq;split
         · exact .inr (Int.le_refl _)
         · rcases ih2 (j+1)with h|h
           · exact .inl h
           · exact .inr (by omega)
      rcases this r (j+1)with h3|h3<;>omega
   |succ d=>
    rw[List.take_succ_cons];by_cases h:x.f1=c
    · rw[if_pos h];exact⟨fun _=>⟨x,List.mem_cons_self,h⟩,fun _=>⟨by omega,by omega⟩⟩
    · rw[if_neg h];have:=ih (j+1) d;rw[show j+1+d=j+(d+1)by omega]at this;rw[this];constructor
      · rintro⟨y,hy,e⟩;exact⟨y,List.mem_cons_of_mem _ hy,e⟩
      · rintro⟨y,hy,e⟩;rcases List.mem_cons.1 hy with rfl|hy
        · exact absurd e h
        · exact⟨y,hy,e⟩
theorem Ow (l:List ar) (t:List Bool):(P.lZ l t).length=t.length:=by
  unfold P.lZ
  induction l generalizing t with
  |nil=>rfl
  |cons x r ih=>rw[List.foldl_cons,ih,List.length_set]
theorem ajY (l:List ar) (t:List Bool) (hin:∀x∈l,0≤x.f1) (c:Nat) (hc:c<t.length):(P.lZ l t)[c]? =some (t[c]||l.any (fun x=>decide (x.f1=(c:Int)))):=by
  unfold P.lZ
  induction l generalizing t with
  |nil=>simp[hc]
  |cons x r ih=>
   rw[List.foldl_cons,ih _ (fun y hy=>hin y (List.mem_cons_of_mem _ hy)) (by simpa using hc)];have:=hin x List.mem_cons_self;simp only[List.any_cons,List.getElem_set];by_cases h:x.f1=(c:Int)
   · rw[if_pos (by omega)];simp[h]
   · rw[if_neg (by omega)];simp[h]
theorem F7 (p:List ar) (d:Int) (q:List Int):Ev (fun n=>fe.f n p d q) (eX p d q):=by
  have jt:Ev (fun n=>fe.j0 n true p d q) false:=Ev.step (fun n=>by rw[fe.j0]) (evp rfl (Ev.now _));unfold fe.f eX;refine bR (VB p) ?_;by_cases hp:jD p=true;rotate_left
  · rw[show jD p=false by simpa using hp,Bool.false_and];exact aT (by simp) jt
  refine evp hp (bR (yA _ _ _) ?_);rw[hp,Bool.true_and];by_cases hd:0≤d∧d≤(p.length:Int);rotate_left
  · rw[decide_eq_false hd,Bool.false_and];exact aT (by simp) jt
  rw[decide_eq_true hd,Bool.true_and];refine evp rfl ?_;by_cases hq:q.length=12;rotate_left
  · rw[decide_eq_false hq,Bool.false_and,show((q.length:Int) != 12)=true by simpa using(show¬(q.length:Int)=12 by omega)];exact jt
  rw[decide_eq_true hq,Bool.true_and,show((q.length:Int) != 12)=false by simpa using(show(q.length:Int)=12 by omega)];have hl:=planOk_len hp;have hin:=th hp;obtain⟨T,hT⟩:∃T,P.lZ (p.take d.toNat) mZ=T:=⟨_,rfl⟩;have CZ:T.length=12:=by rw[←hT,Ow];rfl
  have hTi:∀c:Nat,(hc:c<T.length)→T[c]=(decide (c=0)||decide (0≤oq (c:Int) p 0∧oq (c:Int) p 0<d)):=by
    intro c hc;have h1:=ajY (p.take d.toNat) mZ (fun x hx=>(hin x (List.mem_of_mem_take hx)).2.2.1) c (show c<12 by omega);rw[hT,List.getElem?_eq_getElem hc]at h1;rw[Option.some.inj h1]
    congr 1
    · have:∀c,(h:c<mZ.length)→mZ[c]=decide (c=0):=(by decide);exact this c _
    · have h2:=aiG (c:Int) p 0 d.toNat;rw[Nat.zero_add,Int.toNat_of_nonneg hd.1]at h2;rw[Bool.eq_iff_iff,decide_eq_true_iff,h2];simp
  rw[hT]
  have key:∀i:Nat,i≤12→Ev (fun n=>fe.l0 n (i:Int) p d q) (od (T.drop i) (q.drop i)):=by
    refine down (n:=12) ?_ ?_
    · refine Ev.step (fun n=>by rw[fe.l0]) (aT (by omega) (evs ?_));rw[List.drop_eq_nil_of_le (by omega)];rfl
    · intro i hi ih;refine Ev.step (fun n=>by rw[fe.l0]) ?_;refine evp (by omega) (Ev.bind (aiF p _ (by omega)) ?_);rw[Ff q i (by omega),drop_cons T i (by omega),drop_cons q i (by omega),od,hTi i (by omega),eH (n:=(i:Int)+1) (by omega) (by omega)]
      have fin:∀v:Bool,Ev (fun n=>(spec_l18Pitch.f q[i]).bind fun t=>if t=true then fe.l0 n (((i+1:Nat)):Int) p d q else some false) (decide (1≤q[i]∧q[i]≤10000000)&&od (T.drop (i+1)) (q.drop (i+1))):=by
        intro v;refine bR (wD _) ?_;by_cases hf:fine q[i]=true
        · rw[show decide (1≤q[i]∧q[i]≤10000000)=true from hf,Bool.true_and];exact evp hf ih
        · rw[show decide (1≤q[i]∧q[i]≤10000000)=false by simpa[fine]using hf,Bool.false_and];exact aT hf (Ev.now _)
      have XW:Ev (fun n=>if 0≤(i:Int)then(if(i:Int)<(q.length:Int)then(if q[i]=0 then fe.l0 n (((i+1:Nat)):Int) p d q else some false)else none)else none) (decide (q[i]=0)&&od (T.drop (i+1)) (q.drop (i+1))):=by
        refine evp (by omega) (evp (by omega) ?_);by_cases hz:q[i]=0
        · rw[decide_eq_true hz,Bool.true_and];exact evp hz ih
        · rw[decide_eq_false hz,Bool.false_and];exact aT hz (Ev.now _)
      by_cases h0:i=0
      · refine evp (by omega) (evp (by omega) (evp (by omega) ?_));rw[decide_eq_true h0,Bool.true_or,if_pos rfl];exact fin true
      refine aT (by omega) ?_;rw[decide_eq_false h0,Bool.false_or];by_cases h1:0≤oq (i:Int) p 0;rotate_left
      · rw[decide_eq_false (fun h=>h1 h.1),if_neg (by simp)];exact aT (by omega) XW
      refine evp (by omega) ?_;by_cases h2:oq (i:Int) p 0<d
      · rw[decide_eq_true ⟨h1,h2⟩,if_pos rfl];exact evp h2 (evp (by omega) (evp (by omega) (fin true)))
      · rw[decide_eq_false (fun h=>h2 h.2),if_neg (by simp)];exact aT h2 XW
  refine Ev.step (fun n=>by rw[fe.j0]) (aT (by decide) ?_);exact key 0 (by omega)
theorem Jo (p:List ar) (d:Int) (q:List Int):lS.f p d q=some (eX p d q):=rfl
theorem zA {p:List ar} {d:Int} {q:List Int} (h:eX p d q=true):jD p=true:=by
  simp only[eX,Bool.and_eq_true]at h;exact h.1
theorem BN {p:List ar} {d:Int} {q:List Int} (h:eX p d q=true):0≤d∧d≤p.length:=by
  simp only[eX,Bool.and_eq_true,decide_eq_true_eq]at h;exact h.2.1
theorem workOk_len {p:List ar} {d:Int} {q:List Int} (h:eX p d q=true):q.length=12:=by
  simp only[eX,Bool.and_eq_true,decide_eq_true_eq]at h;exact h.2.2.1
def jH (p:List ar) (q:List Int) (i:Nat):Int:=kS (q.getD (p.getD i gb).f0.toNat 0) (p.getD i gb).f2 (p.getD i gb).f3
theorem rP (p:List ar) (i:Nat) (hi:i<p.length):p.getD i gb=p[i]:=by simp[List.getD_eq_getElem?_getD,hi]
theorem Ov (p:List ar) (d:Int) (q:List Int) (i:Nat) (hp:jD p=true) (hq:q.length=12) (hi:i<p.length):Ev (fun n=>lA.f n p d q (i:Int)) (jH p q i):=by
  obtain⟨k0,k1,k2,k3,k4⟩:=th hp p[i] (List.getElem_mem hi);unfold lA.f jH;rw[rP p i hi,se p i hi];refine evp (by omega) (evp (by omega) (evp k0 (evp (by omega) (Ev.bind (WG _ _ _) (Ev.now _)))))
def uX:List ar→List Int→List Int×Bool
  |[],o=>(o,true)
  |x::r,o=>if kS (o.getD x.f0.toNat 0) x.f2 x.f3=0 then([],false)else uX r (o.set x.f1.toNat (kS (o.getD x.f0.toNat 0) x.f2 x.f3))
def begun (a:Int):List Int:=a::List.replicate 11 0
def qJ (a:Int) (l:List ar):List Int×Bool:=if jD l=true∧fine a=true then uX l (begun a)else([],false)
theorem ahY (a:Int) (l:List ar):Ev (fun n=>fu.f n a l) (qJ a l):=by
  have jt:Ev (fun n=>fu.j0 n a l true) ([],false):=Ev.step (fun n=>by rw[fu.j0]) (evp rfl (Ev.now _));unfold fu.f qJ;refine bR (ahk l) ?_;by_cases hp:jD l=true;rotate_left
  · exact cq (fun h=>hp h.1)<|aT hp jt
  refine evp hp (bR (wj a) ?_);by_cases ha:fine a=true;rotate_left
  · rw[show(!fine a)=true by simpa using ha];exact cq (fun h=>ha h.2) jt
  rw[show(!fine a)=false by simpa using ha];refine df ⟨hp,ha⟩ ?_;have hl:=planOk_len hp;have hin:=th hp
  have key:∀i,i≤l.length→∀o:List Int,o.length=12→Ev (fun n=>fu.l0 n o l (l.length:Int) (i:Int)) (uX (l.drop i) o):=by
    refine down (n:=l.length) ?_ ?_
    · intro o ho;refine Ev.step (fun n=>by rw[fu.l0]) (aT (by omega) (evs ?_));rw[xR];rfl
    · intro i hi ih o ho;obtain⟨k0,k1,k2,k3,k4⟩:=hin l[i] (List.getElem_mem hi);refine Ev.step (fun n=>by rw[fu.l0]) ?_;refine evp (by omega) (evp (by omega) (evp (by omega) ?_));rw[se l i hi,drop_cons l i hi,uX];refine evp k0 (evp (by omega) (Ev.bind (WG _ _ _) (evp k2 (evp (by omega) ?_))));rw[sf];by_cases hz:kS (o.getD l[i].f0.toNat 0) l[i].f2 l[i].f3=0
      · exact df hz<|evp hz (Ev.now _)
      refine cq hz<|aT hz ?_;rw[eH (by omega) (by omega)];exact ih _ (by simpa using ho)
  refine Ev.step (fun n=>by rw[fu.j0]) ?_;refine aT (by decide) (evp (by decide) ?_);simp only[Option.bind_some];refine evp (by simp) ?_;exact key 0 (Nat.zero_le _) _ (by simp)
theorem ahZ (a:Int) (l:List ar):Ev (fun n=>fw.f n a l) (qJ a l):=by
  have jt:Ev (fun n=>fw.j0 n a l true) ([],false):=Ev.step (fun n=>by rw[fw.j0]) (evp rfl (Ev.now _));unfold fw.f qJ;refine bR (VB l) ?_;by_cases hp:jD l=true;rotate_left
  · exact cq (fun h=>hp h.1)<|aT hp jt
  refine evp hp (bR (wD a) ?_);by_cases ha:fine a=true;rotate_left
  · rw[show(!fine a)=true by simpa using ha];exact cq (fun h=>ha h.2) jt
  rw[show(!fine a)=false by simpa using ha];refine df ⟨hp,ha⟩ ?_;have hl:=planOk_len hp;have hin:=th hp
  have key:∀i,i≤l.length→∀o:List Int,o.length=12→Ev (fun n=>fw.l0 n l o (i:Int)) (uX (l.drop i) o):=by
    refine down (n:=l.length) ?_ ?_
    · intro o ho;refine Ev.step (fun n=>by rw[fw.l0]) (aT (by omega) (evs ?_));rw[xR];rfl
    · intro i hi ih o ho;obtain⟨k0,k1,k2,k3,k4⟩:=hin l[i] (List.getElem_mem hi);refine Ev.step (fun n=>by rw[fw.l0]) ?_;refine evp (by omega) (evp (by omega) ?_);rw[se l i hi,drop_cons l i hi,uX];refine evp k0 (evp (by omega) (Ev.bind (Jh _ _ _) ?_));rw[sf];by_cases hz:kS (o.getD l[i].f0.toNat 0) l[i].f2 l[i].f3=0
      · exact df hz<|evp hz (Ev.now _)
      refine cq hz<|aT hz (evp k2 (evp (by omega) ?_));rw[eH (by omega) (by omega)];exact ih _ (by simpa using ho)
  refine Ev.step (fun n=>by rw[fw.j0]) ?_;refine aT (by decide) (evp (by decide) ?_);simp only[Option.bind_some];refine evp (by simp) ?_;exact key 0 (Nat.zero_le _) _ (by simp)
theorem getD_set_self (q:List Int) (i:Nat) (v:Int) (h:i<q.length):(q.set i v).getD i 0=v:=by simp[List.getD_eq_getElem?_getD,h]
theorem getD_set_ne (q:List Int) (i k:Nat) (v:Int) (h:i≠k):(q.set i v).getD k 0=q.getD k 0:=by
  simp only[List.getD_eq_getElem?_getD];rw[List.getElem?_set_ne h]
def lV (p:List ar) (s:Int):Nat→Int
  |0=>s
  |k+1=>kS (lV p s k) (p.getD k gb).f2 (p.getD k gb).f3
def yC:List Int:=[155000,115875,86531,64523,48017,35638,26353,19390,14167,10250,7312,5109]
def highs:List Int:=[345000,517500,388125,582187,436640,654960,491220,368415,552622,414466,621699,466274]
theorem CT {n:Int} (h1:1≤n) (h2:n≤10000000):fine n=true:=decide_eq_true ⟨h1,h2⟩
theorem aj0 (a b:Int) (h1:2000≤a) (h2:a≤1000000) (h3:0≤b) (h4:b<1500):kS a 1 b=(3*a-b)/2:=by
  unfold kS nA mx;rw[if_pos (CT (by omega) (by omega)),if_pos (by omega),if_pos rfl,eH (n:=3*a) (by omega) (by omega),eH (n:=3*a-b) (by omega) (by omega)];have e:(if(3*a-b)<0 then(0:Int)else 3*a-b)=3*a-b:=if_neg (by omega);rw[e];rw[Int.tdiv_eq_ediv_of_nonneg (by omega),eH (by omega) (by omega),if_pos (CT (by omega) (by omega))]
theorem aj1 (a b:Int) (h1:2000≤a) (h2:a≤1000000) (h3:0≤b) (h4:b<1500):kS a 2 b=(3*a-b)/4:=by
  unfold kS nA mx;rw[if_pos (CT (by omega) (by omega)),if_pos (by omega),if_neg (by decide),if_pos rfl,eH (n:=3*a) (by omega) (by omega),eH (n:=3*a-b) (by omega) (by omega)];have e:(if(3*a-b)<0 then(0:Int)else 3*a-b)=3*a-b:=if_neg (by omega);rw[e];rw[Int.tdiv_eq_ediv_of_nonneg (by omega),eH (by omega) (by omega),if_pos (CT (by omega) (by omega))]
theorem abz (k:Nat) (hk:k<11) (a b x:Int) (h1:yC.getD k 0≤a) (h2:a≤highs.getD k 0) (h3:0≤b) (h4:b<1500) (hx:x=2∨x=m_ k):
    yC.getD (k+1) 0≤kS a x b∧kS a x b≤highs.getD (k+1) 0:=by
  have a1:2000≤a∧a≤1000000:=by
    have:∀k:Nat,k<11→2000≤yC.getD k 0∧highs.getD k 0≤1000000:=(by decide);have:=this k hk;omega
  have hx2:x=2∨(x=1∧m_ k=1):=by
    rcases hx with h|h
    · exact .inl h
    · unfold m_ at h ⊢;by_cases h5:k=0∨k=2∨k=4∨k=7∨k=9
      · rw[if_pos h5]at h ⊢;exact .inr ⟨h,rfl⟩
      · rw[if_neg h5]at h;exact .inl h
  have hk2:k=0∨k=1∨k=2∨k=3∨k=4∨k=5∨k=6∨k=7∨k=8∨k=9∨k=10:=by omega
  rcases hx2 with rfl|⟨rfl,hu⟩
  · rw[aj1 a b a1.1 a1.2 h3 h4];rcases hk2 with rfl|rfl|rfl|rfl|rfl|rfl|rfl|rfl|rfl|rfl|rfl<;>simp only[yC,highs,List.getD_cons_zero,List.getD_cons_succ]at h1 h2 ⊢ <;>omega
  · rw[aj0 a b a1.1 a1.2 h3 h4];rcases hk2 with rfl|rfl|rfl|rfl|rfl|rfl|rfl|rfl|rfl|rfl|rfl<;>first|(exact absurd hu (by decide))|(simp only[yC,highs,List.getD_cons_zero,List.getD_cons_succ]at h1 h2 ⊢;omega)
section
variable {p:List ar} (g:gPlan p) {s:Int} (hs:155000≤s∧s≤345000)
include g
theorem CV (i:Nat) (h:i<p.length):(p.getD i gb).f0=i∧(p.getD i gb).f1=(i:Int)+1∧((p.getD i gb).f2=2∨(p.getD i gb).f2=m_ i)∧0≤(p.getD i gb).f3∧(p.getD i gb).f3<1500:=by
  rw[rP p i h];exact g.2 i h
include hs
theorem ahg (k:Nat) (hk:k≤p.length):yC.getD k 0≤lV p s k∧lV p s k≤highs.getD k 0:=by
  induction k with
  |zero=>exact hs
  |succ k ih=>
   obtain⟨h1,h2⟩:=ih (by omega);obtain⟨g0,g1,g2,g3,g4⟩:=CV g k (by omega);exact abz k (by have:=g.1;omega) _ _ _ h1 h2 g3 g4 g2
theorem E_ (k:Nat) (hk:k≤p.length):2000≤lV p s k∧lV p s k≤1000000:=by
  have:∀k:Nat,k<12→2000≤yC.getD k 0∧highs.getD k 0≤1000000:=by decide
  have h1:=this k (by have:=g.1;omega);have h2:=ahg g hs k hk;omega
end
def ik (p:List ar) (s:Int) (n:Nat):List Int:=(List.range 12).map (fun k=>if k≤n then lV p s k else 0)
theorem Bf (p:List ar) (s:Int) (n:Nat):(ik p s n).length=12:=by simp[ik]
theorem qF (p:List ar) (s:Int) (n k:Nat) (hk:k<12):(ik p s n).getD k 0=if k≤n then lV p s k else 0:=by
  simp[ik,List.getD_eq_getElem?_getD,hk]
theorem MT {a b:List Int} (ha:a.length=12) (hb:b.length=12) (h:∀k:Nat,k<12→a.getD k 0=b.getD k 0):a=b:=by
  apply List.ext_getElem (by omega);intro k h1 h2;have:=h k (by omega);simpa[List.getD_eq_getElem?_getD,h1,h2]using this
theorem Vx (p:List ar) (s:Int):ik p s 0=begun s:=by
  refine MT (Bf p s 0) (by simp[begun]) (fun k hk=> ?_);rw[qF p s 0 k hk];cases k with
  |zero=>rfl
  |succ k=>
   rw[if_neg (by omega)];have:∀k:Nat,k<11→(List.replicate 11 (0:Int)).getD k 0=0:=(by decide);exact(this k (by omega)).symm
theorem Vw (p:List ar) (s:Int) (n:Nat) (hn:n<11):(ik p s n).set (n+1) (lV p s (n+1))=ik p s (n+1):=by
  refine MT (by simp[Bf]) (Bf _ _ _) (fun k hk=> ?_);have h1:=qF p s n k hk;rw[qF p s (n+1) k hk];by_cases e:k=n+1
  · subst e;rw[if_pos (Nat.le_refl _)];exact getD_set_self _ _ _ (by rw[Bf];omega)
  · have:((ik p s n).set (n+1) (lV p s (n+1))).getD k 0=(ik p s n).getD k 0:=by
      simp only[List.getD_eq_getElem?_getD];rw[List.getElem?_set_ne (by omega)]
    rw[this,h1];by_cases h2:k≤n
    · rw[if_pos h2,if_pos (by omega)]
    · rw[if_neg h2,if_neg (by omega)]
def tunedN (n:Nat):List Bool:=(List.range 12).map (fun k=>decide (k≤n))
theorem WE:tunedN 0=mZ:=by decide
theorem WD (n:Nat) (hn:n<11):(tunedN n).set (n+1) true=tunedN (n+1):=by
  have:∀n:Nat,n<11→(tunedN n).set (n+1) true=tunedN (n+1):=by decide
  exact this n hn
theorem FW (n k:Nat) (hk:k<12):(tunedN n).getD k false=decide (k≤n):=by simp[tunedN,List.getD_eq_getElem?_getD,hk]
theorem aj6 (i:Nat):m_ i=1∨m_ i=2:=by unfold m_;split<;>simp
theorem ahi {p:List ar} (g:gPlan p) (j:Nat) (hj:j≤p.length):planGo (p.drop j) (tunedN j)=true:=by
  refine down (P:=fun j=>planGo (p.drop j) (tunedN j)=true) (n:=p.length) ?_ ?_ j hj
  · rw[xR];rfl
  · intro i hi ih;have hl:=g.1;obtain⟨g0,g1,g2,g3,g4⟩:=g.2 i hi;rw[drop_cons p i hi,planGo,Bool.and_eq_true];constructor
    · have t1:=FW i i (by omega);have t2:=FW i (i+1) (by omega);have e1:(p[i].f0).toNat=i:=(by omega);have e2:(p[i].f1).toNat=i+1:=(by omega);unfold pK;rw[e1,e2,t1,t2]
      have hk:p[i].f2=1∨p[i].f2=2:=by
        rcases g2 with h|h
        · exact .inr h
        · rw[h];exact aj6 i
      simp only[Bool.and_eq_true,Bool.or_eq_true,decide_eq_true_eq];refine⟨hk,⟨g3,by omega⟩,by omega,by omega,by omega,Nat.le_refl _,?_⟩;simp
    · rw[g1,show((i:Int)+1).toNat=i+1 by omega,WD i (by omega)];exact ih
theorem VA {p:List ar} (g:gPlan p):jD p=true:=by
  unfold jD;rw[Bool.and_eq_true,decide_eq_true_eq];refine⟨g.1,?_⟩;have:=ahi g 0 (Nat.zero_le _)
  rwa [WE]at this
theorem ajZ {p:List ar} (g:gPlan p) (n:Nat) (hn:n≤p.length):P.lZ (p.take n) mZ=tunedN n:=by
  induction n with
  |zero=>rw[WE];rfl
  |succ n ih=>
   rw[List.take_succ_eq_append_getElem (by omega),P.WC,ih (by omega)];obtain⟨g0,g1,_⟩:=g.2 n (by omega);rw[g1,show((n:Int)+1).toNat=n+1 by omega];exact WD n (by have:=g.1;omega)
theorem ML:∀(t:List Bool) (q:List Int),t.length=q.length→(od t q=true↔∀k:Nat,k<q.length→if t.getD k false=true then 1≤q.getD k 0∧q.getD k 0≤10000000 else q.getD k 0=0)
  |[],[],_=>by simp[od]
  |b::t,x::q,h=>by
   have ih:=ML t q (by simpa using h);rw[od,Bool.and_eq_true,ih];constructor
   · rintro⟨h1,h2⟩ k hk;cases k with
     |zero=>simpa[apply_ite]using h1
     |succ k=>simpa using h2 k (by simpa using hk)
   · intro h2;refine⟨?_,fun k hk=>by simpa using h2 (k+1) (by simpa using hk)⟩;have:=h2 0 (by simp);cases b<;>simpa using this
theorem BO {p:List ar} (g:gPlan p) (n:Nat) (hn:n≤p.length) (q:List Int):
    eX p (n:Int) q=true↔q.length=12∧(∀k:Nat,k≤n→1≤q.getD k 0∧q.getD k 0≤10000000)∧(∀k:Nat,n<k→k<12→q.getD k 0=0):=by
  unfold eX;rw[VA g,Bool.true_and,decide_eq_true (show 0≤(n:Int)∧(n:Int)≤p.length by omega),Bool.true_and,Int.toNat_natCast,ajZ g n hn,Bool.and_eq_true,decide_eq_true_eq];have hl:=g.1;constructor
  · rintro⟨h1,h2⟩;rw[ML _ _ (by simp[tunedN,h1])]at h2;refine⟨h1,fun k hk=> ?_,fun k hk hk2=> ?_⟩
    · have:=h2 k (by omega);rw[FW n k (by omega),decide_eq_true hk,if_pos rfl]at this;exact this
    · have:=h2 k (by omega);rw[FW n k (by omega),decide_eq_false (by omega),if_neg (by simp)]at this;exact this
  · rintro⟨h1,h2,h3⟩;refine⟨h1,(ML _ _ (by simp[tunedN,h1])).2 fun k hk=> ?_⟩;rw[FW n k (by omega)];by_cases h:k≤n
    · rw[decide_eq_true h,if_pos rfl];exact h2 k h
    · rw[decide_eq_false h,if_neg (by simp)];exact h3 k (by omega) (by omega)
theorem Jp {p:List ar} (g:gPlan p) {s:Int} (hs:155000≤s∧s≤345000) (n:Nat) (hn:n≤p.length):eX p (n:Int) (ik p s n)=true:=by
  have hl:=g.1;refine(BO g n hn _).2 ⟨Bf _ _ _,fun k hk=> ?_,fun k hk hk2=> ?_⟩
  · rw[qF p s n k (by omega),if_pos hk];have:=E_ g hs k (by omega);omega
  · rw[qF p s n k hk2,if_neg (by omega)]
theorem ahW {p:List ar} (g:gPlan p) {s:Int} (hs:155000≤s∧s≤345000) (j:Nat) (hj:j≤p.length):uX (p.drop j) (ik p s j)=(ik p s p.length,true):=by
  refine down (P:=fun j=>uX (p.drop j) (ik p s j)=(ik p s p.length,true)) (n:=p.length) ?_ ?_ j hj
  · rw[xR];rfl
  · intro i hi ih;have hl:=g.1;obtain⟨g0,g1,_⟩:=g.2 i hi;rw[drop_cons p i hi,uX];have e1:(p[i].f0).toNat=i:=(by omega);have e2:(p[i].f1).toNat=i+1:=by omega
    have e3:kS ((ik p s i).getD i 0) p[i].f2 p[i].f3=lV p s (i+1):=by
      rw[qF p s i i (by omega),if_pos (Nat.le_refl _)];show _=kS _ (p.getD i gb).f2 (p.getD i gb).f3;rw[rP p i hi]
    have hf:=E_ g hs (i+1) hi;rw[e1,e2,e3,if_neg (by omega),Vw p s i (by omega)];exact ih
theorem ahX {p:List ar} (g:gPlan p) {s:Int} (hs:155000≤s∧s≤345000):qJ s p=(ik p s p.length,true):=by
  unfold qJ;rw[if_pos ⟨VA g,CT (by omega) (by omega)⟩,←Vx p s];exact ahW g hs 0 (Nat.zero_le _)
theorem ahl (b:List Int) (hb:b.length≤1048576) (i h:Int) (hi:0≤i):∃p i' h',Ev (fun k=>spec_l19Plan.f k b i h) (p,i',h')∧gPlan p∧0≤i':=by
  have key:∀j:Nat,j≤11→∀L:List ar,L.length=11→gPlan L→∀i h:Int,0≤i→∃p i' h',Ev (fun k=>spec_l19Plan.l0 k L (j:Int) b i h) (p,i',h')∧gPlan p∧0≤i':=by
    refine down (P:=fun j=>∀L:List ar,L.length=11→gPlan L→∀i h:Int,0≤i→∃p i' h',Ev (fun k=>spec_l19Plan.l0 k L (j:Int) b i h) (p,i',h')∧gPlan p∧0≤i') (n:=11) ?_ ?_
    · intro L hL g i h hi;obtain⟨v,i1,h1,e1,v0,v1,_,j1⟩:=kZ b hb i h 12 hi;obtain⟨u,i2,h2,e2,hu,j2⟩:=Vs b hb i1 h1 [11,11,11,v] j1 (by simp);have Uf:0≤u∧u≤11:=(by simp at hu;have:=v1 (by omega);omega);refine⟨L.take u.toNat,i2,h2,?_,ac8 g _,j2⟩;refine Ev.step (fun k=>by rw[spec_l19Plan.l0]) ?_;refine aT (by omega) (bR e1 ?_);dsimp only;refine bR e2 ?_;dsimp only;refine evp Uf.1 ?_;refine evp (by omega) ?_;exact Ev.now _
    · intro j hj ih L hL g i h hi;obtain⟨v,i1,h1,e1,v0,v1,_,j1⟩:=kZ b hb i h 1500 hi;obtain⟨o,i2,h2,e2,j2⟩:=Vo b hb i1 h1 5 j1;have hr:∀M:List ar,M.length=11→au M (j:Int)=M.getD j gb:=fun M hM=>by rw[se M j (by omega)];simp[List.getD_eq_getElem?_getD,show j<M.length by omega]
      have gs:∀M:List ar,M.length=11→gPlan M→∀x,LM j x→gPlan (M.set j x):=fun M hM gM x gx=>by
        refine⟨by simp;omega,fun i hi=> ?_⟩;rw[List.getElem_set]
        split
        · rename_i e;subst e;exact gx
        · exact gM.2 i _
      have gd:∀M:List ar,M.length=11→gPlan M→LM j (M.getD j gb):=fun M hM gM=>by
        have hj2:j<M.length:=(by omega);have:=gM.2 j hj2;simpa[List.getD_eq_getElem?_getD,hj2]using this
      have g1:=gd L hL g;have gy:=gs L hL g (⟨(L.getD j gb).f0,(L.getD j gb).f1,(L.getD j gb).f2,v⟩:ar) ⟨g1.1,g1.2.1,g1.2.2.1,v0,v1 (by omega)⟩;obtain⟨Y,hY⟩:∃Y,L.set j (⟨(L.getD j gb).f0,(L.getD j gb).f1,(L.getD j gb).f2,v⟩:ar)=Y:=⟨_,rfl⟩;rw[hY]at gy;have C0:Y.length=11:=(by rw[←hY];simpa using hL);have g2:=gd Y C0 gy;have gz:=gs Y C0 gy (⟨(Y.getD j gb).f0,(Y.getD j gb).f1,2,(Y.getD j gb).f3⟩:ar) ⟨g2.1,g2.2.1,.inl rfl,g2.2.2.2.1,g2.2.2.2.2⟩;have w1:wrap64 ((j:Int)+1)=((j+1:Nat):Int):=eH (by omega) (by omega);have e3:(some (L.set (j:Int).toNat (⟨(au L (j:Int)).f0,(au L (j:Int)).f1,(au L (j:Int)).f2,v⟩:ar):List ar))=some Y:=(by rw[hr L hL,Int.toNat_natCast,hY]);cases ho:o with
      |true=>
       obtain⟨p,i',h',ep,gp,jp⟩:=ih _ (by simpa using C0) gz i2 h2 j2;refine⟨p,i',h',?_,gp,jp⟩;refine Ev.step (fun k=>by rw[spec_l19Plan.l0]) ?_;refine evp (by omega) (bR e1 ?_);refine evp (by omega) (bR e3 ?_);refine bR e2 ?_;refine evp ho ?_;rw[hr Y C0,Int.toNat_natCast,w1];exact ep
      |false=>
       obtain⟨p,i',h',ep,gp,jp⟩:=ih Y C0 gy i2 h2 j2;refine⟨p,i',h',?_,gp,jp⟩;refine Ev.step (fun k=>by rw[spec_l19Plan.l0]) ?_;refine evp (by omega) (bR e1 ?_);refine evp (by omega) (bR e3 ?_);refine bR e2 ?_;refine aT (by rw[ho];simp) ?_;rw[w1];exact ep
  unfold spec_l19Plan.f;obtain⟨g,hg⟩:=SD 0 (by omega);obtain⟨p,i',h',e,g',j⟩:=key 0 (Nat.zero_le _) (nK 0) hg g i h hi;exact⟨p,i',h',Ev.bind (WN 0) e,g',j⟩
end Go.Proofs.YtnjfiaekdcekgaaGreatDoor.Q
namespace Go.Proofs.YtnjfiaekdcekgaaGreatDoor.V
open Go.RowKit Go.Proofs.YtnjfiaekdcekgaaGreatDoorW.bS
class From (w0 W:World):Prop where out:Below w0.heap.size w0 W
class aK (w:outParam World) (W:World):Prop where out:Below w.heap.size w W
class ma (w:outParam World) (g:Nat):Prop where out:g=w.heap.size
class a7 (W:World) (g:Nat) (cs:outParam (Array Value)) (t:outParam TypeId):Prop where out:W.heap[g]? =some (.cells cs t (0,0))
class Sz (w0 W:World):Prop where out:w0.heap.size≤W.heap.size
class Nw (w0:World) (g:Nat):Prop where out:w0.heap.size≤g
class iL (g g':Nat):Prop where out:g≠g'
class az (n c:Nat):Prop where out:n≤c
class cg {α:Type} (d:Kd α) (w0:outParam World) (A:Option Addr) (xs:outParam (List α)):Prop where out:d.C w0 A xs.length xs
class Rd {α:Type} (d:Kd α) (W:World) (A:Option Addr) (xs:List α):Prop where out:d.C W A xs.length xs
class gF {α:Type} (d:Kd α) (e:outParam Nat) (w1 w2:outParam World) (A:Option Addr) (c:outParam Nat) (xs:outParam (List α)):Prop where out:d.R e w2 w1.heap.size (fun _=>True) (.slice A xs.length c) xs
class gu (w1 w2 W:World):Prop where out:∀k,w1.heap.size≤k→k<w2.heap.size→W.heap[k]? =w2.heap[k]?
class tR (w1 w2:World) (g:Nat):Prop where out:g<w1.heap.size∨w2.heap.size≤g
section
variable {w0 w1 w2 w W W':World} {g g':Nat} {cs cs':Array Value} {t t':TypeId} {o:Obj} {n i:Nat} {v:Value}
instance:From w w:=⟨Below.refl _ _⟩
instance [h:From w0 W]:From w0 (W.alloc o):=⟨dB h.out _⟩
instance [h:From w0 W]:From w0 W.drew:=⟨fC h.out⟩
instance [h:From w0 W]:From w0 (W.drewN n):=⟨pw_below_drewN h.out _⟩
instance [h:From w0 W] [hg:Nw w0 g]:From w0 (W.setCell ⟨g,i,none⟩ v):=⟨nZ h.out hg.out⟩
instance [h:aK w W] [k:From w0 w]:From w0 W:=⟨bz k.out h.out⟩
instance:Sz w w:=⟨Nat.le_refl _⟩
instance [h:Sz w0 W]:Sz w0 (W.alloc o):=⟨Nat.le_trans h.out (by simp)⟩
instance [h:Sz w0 W]:Sz w0 W.drew:=⟨h.out⟩
instance [h:Sz w0 W]:Sz w0 (W.drewN n):=⟨h.out⟩
instance {p:Addr} [h:Sz w0 W]:Sz w0 (W.setCell p v):=⟨by simpa using h.out⟩
instance [h:aK w W] [k:Sz w0 w]:Sz w0 W:=⟨Nat.le_trans k.out h.out.size⟩
instance [h:ma W g] [k:Sz w0 W]:Nw w0 g:=⟨by rw[h.out];exact k.out⟩
instance [h:a7 W g cs t]:a7 (W.alloc o) g cs t:=⟨bC h.out _⟩
instance [h:a7 W g cs t]:a7 W.drew g cs t:=⟨h.out⟩
instance [h:a7 W g cs t]:a7 (W.drewN n) g cs t:=⟨h.out⟩
instance [h:a7 W g cs t] [k:iL g g']:a7 (W.setCell ⟨g',i,none⟩ v) g cs t:=⟨blk_far h.out k.out _⟩
instance [h:a7 W g cs t]:a7 (W.setCell ⟨g,i,none⟩ v) g (cs.setIfInBounds i v) t:=⟨Cy h.out _ _⟩
instance [h:aK w W] [k:a7 w g cs t]:a7 W g cs t:=⟨oG k.out h.out⟩
instance [h:ma W g'] [k:a7 W g cs t]:iL g g':=⟨by rw[h.out];exact Nat.ne_of_lt (iD k.out)⟩
instance [h:ma W g] [k:a7 W g' cs t]:iL g g':=⟨by rw[h.out];exact Nat.ne_of_gt (iD k.out)⟩
theorem fV (W:World) (g i:Nat) [h:a7 W g cs t]:W.cell? ⟨g,i,none⟩=cs[i]? :=fQ h.out i
theorem fW (W:World) (g i:Nat) [h:a7 W g cs t]:W.frozen? ⟨g,i,none⟩=false:=aJ h.out i
instance:gu w1 w2 w2:=⟨fun _ _ _=>rfl⟩
theorem keep_lt (h:gu w1 w2 W) {k:Nat} (h1:w1.heap.size≤k) (h2:k<w2.heap.size):k<W.heap.size:=by
  have:=h.out k h1 h2;rw[Array.getElem?_eq_getElem h2]at this;exact(Array.getElem?_eq_some_iff.1 this).1
instance [h:gu w1 w2 W]:gu w1 w2 (W.alloc o):=⟨fun k h1 h2=>(Below.heap_alloc W o k (keep_lt h h1 h2)).trans (h.out k h1 h2)⟩
instance [h:gu w1 w2 W]:gu w1 w2 W.drew:=⟨h.out⟩
instance [h:gu w1 w2 W]:gu w1 w2 (W.drewN n):=⟨h.out⟩
instance [h:aK w W] [k:gu w1 w2 w]:gu w1 w2 W:=⟨fun j h1 h2=>(h.out.block j (keep_lt k h1 h2)).trans (k.out j h1 h2)⟩
instance [h:gu w1 w2 W] [k:tR w1 w2 g]:gu w1 w2 (W.setCell ⟨g,i,none⟩ v):=⟨fun j h1 h2=>(Below.heap_setCell W _ v j (by have:=k.out;show j≠g;omega)).trans (h.out j h1 h2)⟩
instance [h:a7 w1 g cs t]:tR w1 w2 g:=⟨.inl (iD h.out)⟩
instance [h:Nw w2 g]:tR w1 w2 g:=⟨.inr h.out⟩
section
variable {α:Type} {d:Kd α} {e:Nat} {A:Option Addr} {c:Nat} {xs:List α}
instance [h:cg d w0 A xs] [k:From w0 W]:Rd d W A xs:=⟨Kd.zH h.out k.out⟩
theorem Fh [h:gF d e w1 w2 A c xs] [k:gu w1 w2 W]:d.R e W w1.heap.size (fun _=>True) (.slice A xs.length c) xs:=
  Kd.bN (Kd.xt (Kd.R_bound h.out) (fun j hj=>k.out j hj.2.1 hj.2.2.1)) (fun _ _=>trivial)
theorem I4 [h:gF d e w1 w2 A c xs] [k:gu w1 w2 W]:d.C W A xs.length xs:=(Kd.ct (Fh (h:=h) (k:=k))).2.2
instance [h:gF d e w1 w2 A c xs] [k:gu w1 w2 W]:Rd d W A xs:=⟨I4 (h:=h) (k:=k)⟩
theorem pI (h:gF d e w1 w2 A c xs):xs.length≤c:=(Kd.ct h.out).2.1
theorem cn [h:gF d e w1 w2 A c xs] [k:gu w1 w2 W] [l:From w w1]:d.R e W w.heap.size (fun _=>True) (.slice A xs.length c) xs:=Kd.dr (Fh (h:=h) (k:=k)) l.out.size
end
class Sin (w0:outParam World) (W:World):Prop where out:Below w0.heap.size w0 W
instance {w0 w W:World} [h:Sin w0 W] [k:Sz w w0]:Sz w W:=⟨Nat.le_trans k.out h.out.size⟩
instance {w0 w W:World} [h:Sin w0 W] [k:From w w0]:From w W:=⟨bz k.out h.out⟩
instance {w0 W:World} {g:Nat} {cs:Array Value} {t:TypeId} [h:Sin w0 W] [k:a7 w0 g cs t]:a7 W g cs t:=⟨oG k.out h.out⟩
instance {w0 w1 w2 W:World} [h:Sin w0 W] [k:gu w1 w2 w0]:gu w1 w2 W:=⟨fun j h1 h2=>(h.out.block j (keep_lt k h1 h2)).trans (k.out j h1 h2)⟩
class xv (B:outParam Nat) (w0:outParam World) (W:World):Prop where out:B≤w0.heap.size∧Below B w0 W
class J_ (g B:Nat):Prop where out:g<B
class mv (B:Nat) (w0 W:World):Prop where out:B≤w0.heap.size∧Below B w0 W
section
variable {w0 w W W1:World} {g g' B i n:Nat} {cs:Array Value} {t:TypeId} {o:Obj} {v:Value}
instance [h:ma W g'] [k:a7 W g cs t]:J_ g g':=⟨by rw[h.out];exact iD k.out⟩
instance [h:xv B w0 W] [k:a7 w0 g cs t] [l:J_ g B]:a7 W g cs t:=⟨(h.out.2.block g l.out).trans k.out⟩
instance [h:xv B w0 W] [k:Sz w w0]:Sz w W:=⟨Nat.le_trans k.out h.out.2.size⟩
instance [h:xv B w0 W] [k:From w w0] [l:Nw w B]:From w W:=⟨RG k.out l.out h.out.2⟩
instance [k:a7 w0 g cs t]:mv g w0 w0:=⟨⟨Nat.le_of_lt (iD k.out),Below.refl _ _⟩⟩
instance [h:mv B w0 W]:mv B w0 (W.alloc o):=⟨⟨h.out.1,h.out.2.alloc (Nat.le_trans h.out.1 h.out.2.size) _⟩⟩
instance [h:mv B w0 W]:mv B w0 W.drew:=⟨⟨h.out.1,h.out.2.drew⟩⟩
instance [h:mv B w0 W]:mv B w0 (W.drewN n):=⟨⟨h.out.1,pw_below_drewN h.out.2 _⟩⟩
instance [k:aK w W] [h:mv B w0 w]:mv B w0 W:=⟨⟨h.out.1,RF h.out.2 (Nat.le_trans h.out.1 h.out.2.size) k.out⟩⟩
instance [h:mv g w0 W]:mv g w0 (W.setCell ⟨g,i,none⟩ v):=⟨⟨h.out.1,h.out.2.setCell (Nat.le_refl _) _⟩⟩
instance [h:mv B w0 W] [l:J_ B g']:mv B w0 (W.setCell ⟨g',i,none⟩ v):=⟨⟨h.out.1,h.out.2.setCell (Nat.le_of_lt l.out) _⟩⟩
instance [k:xv B w0 W]:mv B w0 W:=⟨k.out⟩
end
theorem NM {P:Program} {id:Nat} {ops:Array Oper} {Q:Exit→Act→World→Prop} {a:Act} {W:World} (N:Nat) {g:Nat} (hp:a.tmps.getD N undef= .pointer (some ⟨g,0,none⟩))
    (h:∀g',g'=g→∀w3,aK W w3→(Code.region id ops true).wp P Q a w3):(Code.region id ops true).wp P Q a W:=h g rfl W ⟨Below.refl _ _⟩
theorem Fg {P:Program} {id:Nat} {ops:Array Oper} {Q:Exit→Act→World→Prop} {a:Act} {W:World} (h:∀w3,aK W w3→(Code.region id ops true).wp P Q a w3):(Code.region id ops true).wp P Q a W:=h W ⟨Below.refl _ _⟩
class Mk (W:outParam World) (W':World) (w1 w2:outParam World):Prop where out:Kept W W' (fun k=>w1.heap.size≤k∧k<w2.heap.size)
class GA (a b w1 w2:World):Prop where out:b.heap.size≤w1.heap.size∨w2.heap.size≤a.heap.size
section
variable {a b w1 w2 W W':World} {g:Nat} {cs:Array Value} {t:TypeId}
instance [h:Sz b w1]:GA a b w1 w2:=⟨.inl h.out⟩
instance [h:Sz w2 a]:GA a b w1 w2:=⟨.inr h.out⟩
instance {w0:World} [m:Mk W W' a b] [h:Sz w0 W]:Sz w0 W':=⟨Nat.le_trans h.out m.out.1⟩
instance [m:Mk W W' a b] [h:gu w1 w2 W] [d:GA a b w1 w2]:gu w1 w2 W':=
  ⟨fun k h1 h2=>(m.out.2 k (keep_lt h h1 h2) (fun hk=>by have:=d.out;omega)).trans (h.out k h1 h2)⟩
instance [m:Mk W W' a b] [h:a7 W g cs t] [d:tR a b g]:a7 W' g cs t:=⟨(m.out.2 g (iD h.out) (fun hk=>by have:=d.out;omega)).trans h.out⟩
end
theorem br {b:Bool} (h:¬b=true):b=false:=Bool.eq_false_iff.mpr h
theorem ey {b:Bool} (h:(!b)=true):b=false:=(Bool.not_eq_true' _).mp h
theorem hH_ {b:Bool} (h:¬(!b)=true):b=true:=(Bool.not_eq_false' _).mp (Bool.eq_false_iff.mpr h)
theorem hI_ {α:Type} [BEq α] [LawfulBEq α] {a b:α} (h:a=b):(a==b)=true:=beq_iff_eq.mpr h
theorem cD {α:Type} [BEq α] [LawfulBEq α] {a b:α} (h:a=b):(a != b)=false:=bne_eq_false_iff_eq.mpr h
theorem cE {α:Type} [BEq α] [LawfulBEq α] {a b:α} (h:a≠b):(a==b)=false:=beq_eq_false_iff_ne.mpr h
theorem hL_ {α:Type} [BEq α] [LawfulBEq α] {a b:α} (h:a≠b):(a != b)=true:=bne_iff_ne.mpr h
theorem none_some {α:Type} {r:α} (h:none=some r):False:=by cases h
theorem cG {α:Type} {c:Prop} [Decidable c] {x y:Option α} {r:α} (h:(if c then x else y)=some r):(c∧x=some r)∨(¬c∧y=some r):=by
  by_cases hc:c
  · exact .inl ⟨hc,by rwa [if_pos hc]at h⟩
  · exact .inr ⟨hc,by rwa [if_neg hc]at h⟩
end
end Go.Proofs.YtnjfiaekdcekgaaGreatDoor.V
namespace Go.Proofs.YtnjfiaekdcekgaaGreatDoor.V
open Go.RowKit Go.Proofs.YtnjfiaekdcekgaaGreatDoorW.bS
theorem bV {P:Program} {ops:Array Oper} {rest:List Oper} {o:Oper} {a:Act} {Q:Exit→Act→World→Prop} {W:World} {N:Tmp} (cs:Array Value) (t:TypeId) (h:∀g w1,ma W g→aK W w1→a7 w1 g cs t→wpList P ops Q rest (a.put o.dst (.pointer (some ⟨g,0,none⟩))) w1)
    (hgd:o.guard=none:=by rfl) (hd:o.dst=some N:=by rfl) (hrun:(execOp a.eval o).run P W= .ok (.value (.pointer (some ⟨W.heap.size,0,none⟩))) (W.alloc (.cells cs t (0,0))):=by first|(go_simp;done)|(go_simp;rfl)):wpList P ops Q (o::rest) a W:=
  Go.Proofs.YtnjfiaekdcekgaaGreatDoor.P.bX (N:=N) (fun g hg w1 hk hb=>h g w1 ⟨hg⟩ ⟨hb⟩ ⟨hk⟩) hgd hd hrun
theorem aX {α:Type} {d:Kd α} {e:Nat} {w1 w2:World} {v:Value} {xs:List α} (h:d.R e w2 w1.heap.size (fun _=>True) v xs):∃A c,v= .slice A xs.length c∧gF d e w1 w2 A c xs∧az xs.length c:=by
  obtain⟨A,c,rfl⟩:=Kd.dp h;exact⟨A,c,rfl,⟨h⟩,⟨(Kd.ct h).2.1⟩⟩
theorem bI {α β:Type} {x:Option α} {f:α→Option β} {b:β} (h:x.bind f=some b):∃a,x=some a∧f a=some b:=Option.bind_eq_some_iff.mp h
end Go.Proofs.YtnjfiaekdcekgaaGreatDoor.V
namespace Go.Proofs.YtnjfiaekdcekgaaGreatDoor.P
set_option maxHeartbeats 8000000
set_option maxRecDepth 100000
set_option synthInstance.maxHeartbeats 400000
set_option synthInstance.maxSize 100000
open Go.RowKit Go.Proofs.YtnjfiaekdcekgaaGreatDoorW.bS Go.Proofs.YtnjfiaekdcekgaaGreatDoorW.dU Go.Proofs.YtnjfiaekdcekgaaGreatDoorW.dX Go.Proofs.YtnjfiaekdcekgaaGreatDoor.V
attribute [local go_sem] fV fW
attribute [local go_sem] fE fI fH fL fG fK fF fJ
def oX.f (ak:List (ar)) (ax:Int) (aq:List Int):Option ((List (ar))×Int×List Int):=(spec_l19Copy.f ak).bind fun t216=>((Bq.f aq).bind fun t219=>(some (t216,ax,t219)))
theorem oX.calls (aU:Option Addr) (c0_0:Nat) (ak:List (ar)) (ax:Int) (a6:Option Addr) (aW:Nat) (aq:List Int) (r1:List (ar)) (r2:Int) (r3:List Int) (w:World) (cp:Kd.C bl w aU ak.length ak) (cx:ak.length≤c0_0) (cv:Kd.C (Kd.int .i64) w a6 aq.length aq) (cA:aq.length≤aW) (h:oX.f ak ax aq=some (r1,r2,r3)):
  Calls Tryz.prog 68 #[.agg #[.slice aU ak.length c0_0,.int .i64 ax,.slice a6 aq.length aW]] w fun e w'=>∃v0_ cB:Value,e= .returned (.agg #[v0_,.int .i64 r2,cB])∧Kd.R bl 110 w' w.heap.size (fun _=>True) v0_ r1∧Kd.R (Kd.int .i64) 3 w' w.heap.size (fun _=>True) cB r3∧Below w.heap.size w w':=by
 replace cp:=cg.mk cp;replace cx:=az.mk cx;replace cv:=cg.mk cv;replace cA:=az.mk cA;unfold oX.f at h;have lR:=Tryz.underlying27
 (repeat' first|((with_reducible replace h:=cG h);rcases h with ⟨hc,h⟩|⟨hc,h⟩<;>first|exact(none_some h).elim|exact absurd hc (by decide)|subst hc|(replace hc:=br hc;subst hc)|(have hd:=hI_ hc;have he:=cD hc;clear hc)|(have hd:=cE hc;have he:=hL_ hc)|(have hd:=decide_eq_false hc)|(have hd:=decide_eq_true hc)|skip))
 all_goals go_enter Tryz.func68,Tryz.ntmps68
 all_goals go_wp2_with ((first
  |((with_reducible refine gate_dst (N:=1) rfl ?_);refine bV #[.slice aU ak.length c0_0,.int .i64 ax,.slice a6 aq.length aW] 27 fun g w1 j1 j2 j3=> ?_)
  |((with_reducible refine gate_dst (N:=2) rfl ?_);refine bV #[.slice none 0 0,.int .i64 0,.slice none 0 0] 27 fun g w1 j1 j2 j3=> ?_)
  |((with_reducible refine Fg ?_);intro w3 jw;refine NM 2 (by rfl) ?_;intro g hg w4 jv;subst hg;go_region_held3 (fun w'=>xv g w4 w') (first|exact⟨mv.out⟩|skip) (first|(go_at_call 107;replace h:=bI h;obtain⟨t,A,h⟩:=h;(try dsimp only at h);refine(spec_l19Copy.calls _ _ _ _ _ Rd.out az.out A).mono ?_;rintro e w2 ⟨v0,rfl,ho0,hb⟩;obtain⟨B0,b0,rfl,j0,q0⟩:=aX ho0;have jb:=aK.mk hb;clear A ho0 hb;(repeat' first|((with_reducible replace h:=cG h);rcases h with ⟨hc,h⟩|⟨hc,h⟩<;>first|exact(none_some h).elim|exact absurd hc (by decide)|subst hc|(replace hc:=br hc;subst hc)|(have hd:=hI_ hc;have he:=cD hc;clear hc)|(have hd:=cE hc;have he:=hL_ hc)|(have hd:=decide_eq_false hc)|(have hd:=decide_eq_true hc)|skip));(try have hn:decide (0<t.length)=true:=decide_eq_true (by omega));(try have hn:decide (0<t.length)=false:=decide_eq_false (by omega)))|(go_at_call 108;replace h:=bI h;obtain⟨t,A,h⟩:=h;(try dsimp only at h);refine(Bq.calls _ _ _ _ _ Rd.out az.out A).mono ?_;rintro e w2 ⟨v0,rfl,ho0,hb⟩;obtain⟨B0,b0,rfl,j0,q0⟩:=aX ho0;have jb:=aK.mk hb;clear A ho0 hb));(repeat' first|((with_reducible replace h:=cG h);rcases h with ⟨hc,h⟩|⟨hc,h⟩<;>first|exact(none_some h).elim|exact absurd hc (by decide)|subst hc|(replace hc:=br hc;subst hc)|(have hd:=hI_ hc;have he:=cD hc;clear hc)|(have hd:=cE hc;have he:=hL_ hc)|(have hd:=decide_eq_false hc)|(have hd:=decide_eq_true hc)|skip));all_goals(try have hn:decide (0<t.length)=true:=decide_eq_true (by omega));all_goals(try have hn:decide (0<t.length)=false:=decide_eq_false (by omega)))))
 all_goals simp only[Option.some.injEq,Prod.mk.injEq]at h
 all_goals obtain⟨rfl,rfl,rfl⟩:=h
 all_goals refine bodyPost_ret (results_cell_row rfl _ _ _ _ _ (0,0) _ rfl a7.out Tryz.underlying27 rfl (by kernel_rfl)) rfl ?_
 all_goals exact⟨_,_,rfl,(by first|exact cn|exact Kd.bM _ _ _ _ _),(by first|exact cn|exact Kd.bM _ _ _ _ _),From.out⟩
def nI.f (ak:List (ar)) (ax:Int) (aq:List Int) (aN:Int) (a0_4:Int) (aD:List (S64)):Option ((List (ar))×Int×List Int×Int×Int×(List (S64))):=(oX.f ak ax aq).bind fun KI=>((qM.f aD).bind fun t237=>(some (KI.1,KI.2.1,KI.2.2,aN,a0_4,t237)))
theorem nI.calls (aU:Option Addr) (c0_0:Nat) (ak:List (ar)) (ax:Int) (a6:Option Addr) (aW:Nat) (aq:List Int) (aN:Int) (a0_4:Int) (cy:Option Addr) (cu:Nat) (aD:List (S64)) (r1:List (ar)) (r2:Int) (r3:List Int) (r4:Int) (r5:Int) (r6:List (S64)) (w:World) (cp:Kd.C bl w aU ak.length ak) (cx:ak.length≤c0_0) (cv:Kd.C (Kd.int .i64) w a6 aq.length aq) (cA:aq.length≤aW) (dW:Kd.C k64 w cy aD.length aD) (eC:aD.length≤cu) (h:nI.f ak ax aq aN a0_4 aD=some (r1,r2,r3,r4,r5,r6)):
  Calls Tryz.prog 30 #[.agg #[.slice aU ak.length c0_0,.int .i64 ax,.slice a6 aq.length aW,.int .i64 aN,.int .i64 a0_4,.slice cy aD.length cu]] w fun e w'=>∃v0_ cB dL:Value,e= .returned (.agg #[v0_,.int .i64 r2,cB,.int .i64 r4,.int .i64 r5,dL])∧Kd.R bl 110 w' w.heap.size (fun _=>True) v0_ r1∧Kd.R (Kd.int .i64) 3 w' w.heap.size (fun _=>True) cB r3∧Kd.R k64 64 w' w.heap.size (fun _=>True) dL r6∧Below w.heap.size w w':=by
 replace cp:=cg.mk cp;replace cx:=az.mk cx;replace cv:=cg.mk cv;replace cA:=az.mk cA;replace dW:=cg.mk dW;replace eC:=az.mk eC;unfold nI.f at h;have kp:=Tryz.underlying30
 (repeat' first|((with_reducible replace h:=cG h);rcases h with ⟨hc,h⟩|⟨hc,h⟩<;>first|exact(none_some h).elim|exact absurd hc (by decide)|subst hc|(replace hc:=br hc;subst hc)|(have hd:=hI_ hc;have he:=cD hc;clear hc)|(have hd:=cE hc;have he:=hL_ hc)|(have hd:=decide_eq_false hc)|(have hd:=decide_eq_true hc)|skip))
 all_goals go_enter Tryz.func30,Tryz.ntmps30
 all_goals go_wp2_with ((first
  |((with_reducible refine gate_dst (N:=1) rfl ?_);refine bV #[.slice aU ak.length c0_0,.int .i64 ax,.slice a6 aq.length aW,.int .i64 aN,.int .i64 a0_4,.slice cy aD.length cu] 30 fun g w1 j1 j2 j3=> ?_)
  |((with_reducible refine gate_dst (N:=2) rfl ?_);refine bV #[.slice none 0 0,.int .i64 0,.slice none 0 0,.int .i64 0,.int .i64 0,.slice none 0 0] 30 fun g w1 j1 j2 j3=> ?_)
  |((with_reducible refine Fg ?_);intro w3 jw;refine NM 2 (by rfl) ?_;intro g hg w4 jv;subst hg;go_region_held3 (fun w'=>xv g w4 w') (first|exact⟨mv.out⟩|skip) (first|(go_at_call 68;replace h:=bI h;obtain⟨⟨t1,t2,t3⟩,A,h⟩:=h;(try dsimp only at h);refine(oX.calls _ _ _ _ _ _ _ _ _ _ _ Rd.out az.out Rd.out az.out A).mono ?_;rintro e w2 ⟨v0,v1,rfl,ho0,aY,hb⟩;obtain⟨B0,b0,rfl,j0,q0⟩:=aX ho0;obtain⟨B1,b1,rfl,j1,q1⟩:=aX aY;have jb:=aK.mk hb;clear A ho0 aY hb;(repeat' first|((with_reducible replace h:=cG h);rcases h with ⟨hc,h⟩|⟨hc,h⟩<;>first|exact(none_some h).elim|exact absurd hc (by decide)|subst hc|(replace hc:=br hc;subst hc)|(have hd:=hI_ hc;have he:=cD hc;clear hc)|(have hd:=cE hc;have he:=hL_ hc)|(have hd:=decide_eq_false hc)|(have hd:=decide_eq_true hc)|skip)))|(go_at_call 69;replace h:=bI h;obtain⟨t,A,h⟩:=h;(try dsimp only at h);refine(qM.calls _ _ _ _ _ Rd.out az.out A).mono ?_;rintro e w2 ⟨v0,rfl,ho0,hb⟩;obtain⟨B0,b0,rfl,j0,q0⟩:=aX ho0;have jb:=aK.mk hb;clear A ho0 hb));(repeat' first|((with_reducible replace h:=cG h);rcases h with ⟨hc,h⟩|⟨hc,h⟩<;>first|exact(none_some h).elim|exact absurd hc (by decide)|subst hc|(replace hc:=br hc;subst hc)|(have hd:=hI_ hc;have he:=cD hc;clear hc)|(have hd:=cE hc;have he:=hL_ hc)|(have hd:=decide_eq_false hc)|(have hd:=decide_eq_true hc)|skip));all_goals(try have hn:decide (0<t.length)=true:=decide_eq_true (by omega));all_goals(try have hn:decide (0<t.length)=false:=decide_eq_false (by omega)))))
 all_goals simp only[Option.some.injEq,Prod.mk.injEq]at h
 all_goals obtain⟨rfl,rfl,rfl,rfl,rfl,rfl⟩:=h
 all_goals refine bodyPost_ret (results_cell_row rfl _ _ _ _ _ (0,0) _ rfl a7.out Tryz.underlying30 rfl (by kernel_rfl)) rfl ?_
 all_goals exact⟨_,_,_,rfl,(by first|exact cn|exact Kd.bM _ _ _ _ _),(by first|exact cn|exact Kd.bM _ _ _ _ _),(by first|exact cn|exact Kd.bM _ _ _ _ _),From.out⟩
def jO.f (ak:List (ar)) (ax:Int) (aq:List Int) (aN:Int) (a0_4:Int) (aD:List (S64)):Option ((List (ar))×Int×List Int×Int×Int×(List (S64))):=(kI.f ak ax aq).bind fun K3=>((oP.f aD).bind fun ajq=>(some (K3.1,K3.2.1,K3.2.2,aN,a0_4,ajq)))
theorem jO.calls (aU:Option Addr) (c0_0:Nat) (ak:List (ar)) (ax:Int) (a6:Option Addr) (aW:Nat) (aq:List Int) (aN:Int) (a0_4:Int) (cy:Option Addr) (cu:Nat) (aD:List (S64)) (r1:List (ar)) (r2:Int) (r3:List Int) (r4:Int) (r5:Int) (r6:List (S64)) (w:World) (cp:Kd.C bl w aU ak.length ak) (cx:ak.length≤c0_0) (cv:Kd.C (Kd.int .i64) w a6 aq.length aq) (cA:aq.length≤aW) (dW:Kd.C k64 w cy aD.length aD) (eC:aD.length≤cu) (h:jO.f ak ax aq aN a0_4 aD=some (r1,r2,r3,r4,r5,r6)):
  Calls Tryz.prog 27 #[.agg #[.slice aU ak.length c0_0,.int .i64 ax,.slice a6 aq.length aW,.int .i64 aN,.int .i64 a0_4,.slice cy aD.length cu]] w fun e w'=>∃v0_ cB dL:Value,e= .returned (.agg #[v0_,.int .i64 r2,cB,.int .i64 r4,.int .i64 r5,dL])∧Kd.R bl 110 w' w.heap.size (fun _=>True) v0_ r1∧Kd.R (Kd.int .i64) 3 w' w.heap.size (fun _=>True) cB r3∧Kd.R k64 64 w' w.heap.size (fun _=>True) dL r6∧Below w.heap.size w w':=by
 replace cp:=cg.mk cp;replace cx:=az.mk cx;replace cv:=cg.mk cv;replace cA:=az.mk cA;replace dW:=cg.mk dW;replace eC:=az.mk eC;unfold jO.f at h;have kp:=Tryz.underlying30
 (repeat' first|((with_reducible replace h:=cG h);rcases h with ⟨hc,h⟩|⟨hc,h⟩<;>first|exact(none_some h).elim|exact absurd hc (by decide)|subst hc|(replace hc:=br hc;subst hc)|(have hd:=hI_ hc;have he:=cD hc;clear hc)|(have hd:=cE hc;have he:=hL_ hc)|(have hd:=decide_eq_false hc)|(have hd:=decide_eq_true hc)|skip))
 all_goals go_enter Tryz.func27,Tryz.ntmps27
 all_goals go_wp2_with ((first
  |((with_reducible refine gate_dst (N:=1) rfl ?_);refine bV #[.slice aU ak.length c0_0,.int .i64 ax,.slice a6 aq.length aW,.int .i64 aN,.int .i64 a0_4,.slice cy aD.length cu] 30 fun g w1 j1 j2 j3=> ?_)
  |((with_reducible refine gate_dst (N:=2) rfl ?_);refine bV #[.slice none 0 0,.int .i64 0,.slice none 0 0,.int .i64 0,.int .i64 0,.slice none 0 0] 30 fun g w1 j1 j2 j3=> ?_)
  |((with_reducible refine Fg ?_);intro w3 jw;refine NM 2 (by rfl) ?_;intro g hg w4 jv;subst hg;go_region_held3 (fun w'=>xv g w4 w') (first|exact⟨mv.out⟩|skip) (first|(go_at_call 53;replace h:=bI h;obtain⟨⟨t1,t2,t3⟩,A,h⟩:=h;(try dsimp only at h);refine(kI.calls _ _ _ _ _ _ _ _ _ _ _ Rd.out az.out Rd.out az.out A).mono ?_;rintro e w2 ⟨v0,v1,rfl,ho0,aY,hb⟩;obtain⟨B0,b0,rfl,j0,q0⟩:=aX ho0;obtain⟨B1,b1,rfl,j1,q1⟩:=aX aY;have jb:=aK.mk hb;clear A ho0 aY hb;(repeat' first|((with_reducible replace h:=cG h);rcases h with ⟨hc,h⟩|⟨hc,h⟩<;>first|exact(none_some h).elim|exact absurd hc (by decide)|subst hc|(replace hc:=br hc;subst hc)|(have hd:=hI_ hc;have he:=cD hc;clear hc)|(have hd:=cE hc;have he:=hL_ hc)|(have hd:=decide_eq_false hc)|(have hd:=decide_eq_true hc)|skip)))|(go_at_call 54;replace h:=bI h;obtain⟨t,A,h⟩:=h;(try dsimp only at h);refine(oP.calls _ _ _ _ _ Rd.out az.out A).mono ?_;rintro e w2 ⟨v0,rfl,ho0,hb⟩;obtain⟨B0,b0,rfl,j0,q0⟩:=aX ho0;have jb:=aK.mk hb;clear A ho0 hb));(repeat' first|((with_reducible replace h:=cG h);rcases h with ⟨hc,h⟩|⟨hc,h⟩<;>first|exact(none_some h).elim|exact absurd hc (by decide)|subst hc|(replace hc:=br hc;subst hc)|(have hd:=hI_ hc;have he:=cD hc;clear hc)|(have hd:=cE hc;have he:=hL_ hc)|(have hd:=decide_eq_false hc)|(have hd:=decide_eq_true hc)|skip));all_goals(try have hn:decide (0<t.length)=true:=decide_eq_true (by omega));all_goals(try have hn:decide (0<t.length)=false:=decide_eq_false (by omega)))))
 all_goals simp only[Option.some.injEq,Prod.mk.injEq]at h
 all_goals obtain⟨rfl,rfl,rfl,rfl,rfl,rfl⟩:=h
 all_goals refine bodyPost_ret (results_cell_row rfl _ _ _ _ _ (0,0) _ rfl a7.out Tryz.underlying30 rfl (by kernel_rfl)) rfl ?_
 all_goals exact⟨_,_,_,rfl,(by first|exact cn|exact Kd.bM _ _ _ _ _),(by first|exact cn|exact Kd.bM _ _ _ _ _),(by first|exact cn|exact Kd.bM _ _ _ _ _),From.out⟩
end Go.Proofs.YtnjfiaekdcekgaaGreatDoor.P
namespace Go.Proofs.YtnjfiaekdcekgaaGreatDoor.P
open Go.RowKit Go.Proofs.YtnjfiaekdcekgaaGreatDoorW.bS Go.Proofs.YtnjfiaekdcekgaaGreatDoor.V
abbrev rr (w:World):Prop:=Go.Lib.TabIs Tryz.prog w "internal/strconv.uint64pow10" .u64 Go.Lib.pow10Tab
theorem mY {w W:World} (h:rr w) (hb:Below w.heap.size w W):rr W:=Go.Lib.tabBelow_of_tabIs h W hb
theorem FQ {w W:World} [k:From w W] (h:aj (rr w)):rr W:=mY h.out k.out
end Go.Proofs.YtnjfiaekdcekgaaGreatDoor.P
namespace Go.Proofs.YtnjfiaekdcekgaaGreatDoor.P
open Go.RowKit Go.Proofs.YtnjfiaekdcekgaaGreatDoorW.bS Go.Proofs.YtnjfiaekdcekgaaGreatDoor.V
open Go.Maps (Keyed)
theorem Wk:Keyed Tryz.prog 9:=Keyed.of_law (WideMaps.string_law Tryz.underlying9)
theorem keyOf_str {s:ByteArray} (hs:s.size≤maxLen):keyOf Tryz.prog 9 (.string s)=some (.string s.data.toList):=WideMaps.keyOf_string_mk Tryz.underlying9 hs
abbrev AY (v:Value):Option (DataW Unit×List MemPlace):=
  match v with
  | .int .i64 a=>some (.lit (.int .i64 a),[])
  |_=>none
theorem afj {v:Value} {y:DataW Unit×List MemPlace} (h:AY v=some y):∃x:Int,v= .int .i64 x∧y=(.lit (.int .i64 x),[]):=by
  unfold AY at h
  split at h
  · exact⟨_,rfl,(Option.some.inj h).symm⟩
  · cases h
structure Cf (D:DataW Unit) (m:List UInt8→Int):Prop where
  isMap:Maps.IsMap D
  at_:∀l:List UInt8,D.atKey (.string l) (.lit (.int .i64 0))= .lit (.int .i64 (m l))
theorem afN:Cf (.map []) (fun _=>0):=⟨Maps.isMap_empty,fun _=>rfl⟩
theorem Cf.put {D:DataW Unit} {m:List UInt8→Int} (h:Cf D m) (l:List UInt8) (c:Int):Cf (D.put (.string l) (.lit (.int .i64 c))) (fun x=>if x=l then c else m x):=by
  refine⟨h.isMap.put _ _,fun x=> ?_⟩;by_cases e:x=l
  · subst e;rw[Maps.atKey_put_same h.isMap (show WideAt.IsKeyLit (.string x)from trivial)];simp
  · rw[Maps.atKey_put_other (by simpa using e),h.at_ x];simp[e]
abbrev EZ (w:World) (b n:Nat) (m:List UInt8→Int):Prop:=∃D,w.ownsMap Tryz.prog 9 AY b n D∧Cf D m
theorem yn {ops:Array Oper} {rest:List Oper} {o:Oper} {a:Act} {Q:Exit→Act→World→Prop} {w:World} {x:Operand} {bs:ByteArray} {c:Int} {b n:Nat} {m:List UInt8→Int}
    (hM:aj (EZ w b n m)) (hg:o.guard=none) (hop:o.op=Op.insert 106 x (.const (.string bs)) (.const (.int .i64 c))) (hm:a.eval x= .map (some b)) (hn:n<100) (hb:bs.size≤100)
    (h:∀w',aj (EZ w' b (n+1) (fun y=>if y=bs.data.toList then c else m y))→w.grownBy w' (some b)→wpList Tryz.prog ops Q rest (a.put o.dst undef) w'):wpList Tryz.prog ops Q (o::rest) a w:=by
  obtain⟨D,h1,h2⟩:=hM.out;have hl:maxLen=9223372036854775807:=by decide
  obtain⟨w',hrun,r1,r2⟩:=h1.update Wk Tryz.underlying106 (by omega) (keyOf_str (s:=bs) (by omega)) (show AY (.int .i64 c)=some (.lit (.int .i64 c),[])from rfl);have e1:a.eval (.const (.string bs))= .string bs:=rfl;have e2:a.eval (.const (.int .i64 c))= .int .i64 c:=rfl;refine wpList_plain hg fun K' hK'=> ?_;unfold Oper.wp;simp[execOp,hop,hm,e1,e2,hrun,Result.andThen];exact hK' _ _ (h w' ⟨_,r1,h2.put _ _⟩ r2)
def lT (l:List UInt8):Int:=
  if l=(⟨#[104,101,97,114,100]⟩:ByteArray).data.toList then 7 else
  if l=(⟨#[108,101,102,116]⟩:ByteArray).data.toList then 6 else
  if l=(⟨#[114,101,112,97,105,114]⟩:ByteArray).data.toList then 5 else
  if l=(⟨#[107,110,111,99,107]⟩:ByteArray).data.toList then 4 else
  if l=(⟨#[102,97,117,108,116]⟩:ByteArray).data.toList then 3 else
  if l=(⟨#[119,97,114,109]⟩:ByteArray).data.toList then 2 else
  if l=(⟨#[116,117,110,101]⟩:ByteArray).data.toList then 1 else 0
theorem afQ {ops:Array Oper} {rest:List Oper} {o o1 o2 o3 o4 o5 o6 o7:Oper} {a:Act} {Q:Exit→Act→World→Prop} {w:World} {x:Operand}
    (h:∀b W,Below w.heap.size w W→aj (EZ W b 7 lT)→wpList Tryz.prog ops Q rest (a.put o.dst (.map (some b))) W)
    (hx:∀v,(a.put o.dst v).eval x=v)
    (g0:o.guard=none) (p0:o.op=Op.makeMap 106 none)
    (g1:o1.guard=none) (d1:o1.dst=none) (p1:o1.op=Op.insert 106 x (.const (.string ⟨#[116,117,110,101]⟩)) (.const (.int .i64 1)))
    (g2:o2.guard=none) (d2:o2.dst=none) (p2:o2.op=Op.insert 106 x (.const (.string ⟨#[119,97,114,109]⟩)) (.const (.int .i64 2)))
    (g3:o3.guard=none) (d3:o3.dst=none) (p3:o3.op=Op.insert 106 x (.const (.string ⟨#[102,97,117,108,116]⟩)) (.const (.int .i64 3)))
    (g4:o4.guard=none) (d4:o4.dst=none) (p4:o4.op=Op.insert 106 x (.const (.string ⟨#[107,110,111,99,107]⟩)) (.const (.int .i64 4)))
    (g5:o5.guard=none) (d5:o5.dst=none) (p5:o5.op=Op.insert 106 x (.const (.string ⟨#[114,101,112,97,105,114]⟩)) (.const (.int .i64 5)))
    (g6:o6.guard=none) (d6:o6.dst=none) (p6:o6.op=Op.insert 106 x (.const (.string ⟨#[108,101,102,116]⟩)) (.const (.int .i64 6)))
    (g7:o7.guard=none) (d7:o7.dst=none) (p7:o7.op=Op.insert 106 x (.const (.string ⟨#[104,101,97,114,100]⟩)) (.const (.int .i64 7))):
    wpList Tryz.prog ops Q (o::o1::o2::o3::o4::o5::o6::o7::rest) a w:=by
  have st:∀{W W':World},Below w.heap.size w W→w.heap.size≤W.heap.size→W.grownBy W' (some w.heap.size)→Below w.heap.size w W'∧w.heap.size≤W'.heap.size:=fun hb hs hg=>
    ⟨hb.grown hg hs (fun k hk=>by cases hk;exact Nat.le_refl _),Nat.le_trans hs hg.size⟩
  refine Kd.HJ g0 (show(execOp a.eval o).run Tryz.prog w= .ok (.value (.map (some w.heap.size))) (w.alloc (.map #[] 0))by simp[execOp,p0,run_makeMap]) ?_;have B0:Below w.heap.size w (w.alloc (.map #[] 0))∧w.heap.size≤(w.alloc (.map #[] 0)).heap.size:=⟨dB (Below.refl _ _) _,by simp⟩;have M0:aj (EZ (w.alloc (.map #[] 0)) w.heap.size 0 (fun _=>0)):=⟨⟨_,World.ownsMap_made w Tryz.prog 9 AY,afN⟩⟩;refine yn M0 g1 p1 (hx _) (by omega) (by decide) (fun W1 M1 G1=> ?_);rw[d1];have B1:=st B0.1 B0.2 G1;refine yn M1 g2 p2 (hx _) (by omega) (by decide) (fun W2 M2 G2=> ?_);rw[d2];have B2:=st B1.1 B1.2 G2;refine yn M2 g3 p3 (hx _) (by omega) (by decide) (fun W3 M3 G3=> ?_);rw[d3];have B3:=st B2.1 B2.2 G3;refine yn M3 g4 p4 (hx _) (by omega) (by decide) (fun W4 M4 G4=> ?_);rw[d4];have B4:=st B3.1 B3.2 G4;refine yn M4 g5 p5 (hx _) (by omega) (by decide) (fun W5 M5 G5=> ?_);rw[d5];have B5:=st B4.1 B4.2 G5;refine yn M5 g6 p6 (hx _) (by omega) (by decide) (fun W6 M6 G6=> ?_);rw[d6];have B6:=st B5.1 B5.2 G6;refine yn M6 g7 p7 (hx _) (by omega) (by decide) (fun W7 M7 G7=> ?_);rw[d7];exact h _ _ (st B6.1 B6.2 G7).1 M7
theorem ak2 (w:World):(zeroValue 3).run Tryz.prog w= .ok (.int .i64 0) w:=by kernel_rfl
theorem afO {w:World} {b n:Nat} {m:List UInt8→Int} (hM:EZ w b n m) (s:ByteArray) (hs:s.size≤maxLen):(Instr.lookup 106 (.map (some b)) (.string s) false).run Tryz.prog w= .ok (.int .i64 (m s.data.toList)) w:=by
  obtain⟨D,h1,h2⟩:=hM;obtain⟨v,ps,hrun,hv⟩:=h1.lookup Wk Tryz.underlying106 (ak2 w) (show AY (.int .i64 0)=some (.lit (.int .i64 0),[])from rfl) (keyOf_str hs);obtain⟨x,rfl,e⟩:=afj hv;rw[h2.at_]at e;simp only[Prod.mk.injEq,DataW.lit.injEq,Lit.int.injEq]at e;rw[hrun,e.1.2]
def ErrV (w:World):Prop:=(∃tp p,w.var? Tryz.prog "strconv.ErrSyntax" =some #[.iface tp p])∧(∃tp p,w.var? Tryz.prog "strconv.ErrRange" =some #[.iface tp p])
theorem WQ {w W:World} {n:String} {g:Nat} {v:Value} (hg:(Tryz.prog).globalNamed n=some g) (h:w.var? Tryz.prog n=some #[v]) (hb:Below w.heap.size w W):W.var? Tryz.prog n=some #[v]:=by
  have hc:=World.var?_cell hg h 0;exact var?_below hb hg (World.block_lt_of_cell? _ _ (show w.cell? ⟨g,0,none⟩=some v by simpa using hc)) h
theorem LJ {w W:World} (h:ErrV w) (hb:Below w.heap.size w W):ErrV W:=by
  obtain⟨⟨t1,p1,h1⟩,t2,p2,h2⟩:=h;exact⟨⟨t1,p1,WQ zr.m15 h1 hb⟩,t2,p2,WQ zr.m16 h2 hb⟩
abbrev TabE (w:World):Prop:=rr w∧ErrV w
theorem Oo {w W:World} (h:TabE w) (hb:Below w.heap.size w W):TabE W:=⟨mY h.1 hb,LJ h.2 hb⟩
def ry (s:ByteArray):Option Int:=match Go.Lib.atoiAll s.data.toList with
  | .ok v=>some v
  |_=>none
theorem atoi_ok (s:ByteArray) (v:Int) (w:World) (hs:s.size≤281474976710656) (h:ry s=some v):
    Calls Tryz.prog 86 #[.string s] w fun e w'=>e= .returned (.tuple #[.int .i64 v,.nilIface])∧Below w.heap.size w w':=by
  have h':Go.Lib.atoiAll s.data.toList= .ok v:=by
    unfold ry at h
    split at h
    · next x e=>rw[e,Option.some.inj h]
    · cases h
  exact(Any.strconv_Atoi_ok zr s (by omega) v h' w).mono fun e w' hh=>by
    obtain⟨h1,rfl|⟨t,rfl⟩⟩:=hh
    · exact⟨h1,Below.refl _ _⟩
    · exact⟨h1,abF (Below.refl _ _) (Nat.le_refl _) _ _⟩
theorem Ry (s:ByteArray) (w:World) (hs:s.size≤281474976710656) (h:ry s=none) (hv:ErrV w):
    Calls Tryz.prog 86 #[.string s] w fun e w'=>∃(n:Int) (t:TypeId) (p:Value),e= .returned (.tuple #[.int .i64 n,.iface t p])∧Below w.heap.size w w':=by
  obtain⟨⟨t1,p1,h1⟩,t2,p2,h2⟩:=hv;cases e:Go.Lib.atoiAll s.data.toList with
  |ok v=>unfold ry at h;rw[e]at h;cases h
  | «syntax» =>exact(Any.strconv_Atoi_syntax_var zr s hs e t1 p1 w h1).mono fun e w' ⟨N,h1,_,_,hb⟩=>⟨_,_,_,h1,hb⟩
  |range=>exact(Any.strconv_Atoi_range_var zr s hs e t2 p2 w h2).mono fun e w' ⟨N,h1,_,_,hb⟩=>⟨_,_,_,h1,hb⟩
end Go.Proofs.YtnjfiaekdcekgaaGreatDoor.P
namespace Go.Proofs.YtnjfiaekdcekgaaGreatDoor.V
open Go.RowKit Go.Proofs.YtnjfiaekdcekgaaGreatDoorW.bS
class fx (W:World) (a:Addr) (v:outParam Value):Prop where out:W.cell? a=some v
class P2 (a:Addr) (g:Nat):Prop where out:a.block≠g
section
variable {w w0 W:World} {a:Addr} {v u:Value} {o:Obj} {n g i:Nat}
theorem Hq (h:fx W a v):a.block<W.heap.size:=World.block_lt_of_cell? W a h.out
instance [h:fx W a v]:fx (W.alloc o) a v:=⟨((dB (RowKit.Below.refl W.heap.size W) o).cell (Hq h)).trans h.out⟩
instance [h:fx W a v]:fx W.drew a v:=⟨h.out⟩
instance [h:fx W a v]:fx (W.drewN n) a v:=⟨h.out⟩
instance [b:aK w W] [h:fx w a v]:fx W a v:=⟨(b.out.cell (Hq h)).trans h.out⟩
instance [b:Sin w0 W] [h:fx w0 a v]:fx W a v:=⟨(b.out.cell (Hq h)).trans h.out⟩
instance [h:ma W g] [k:fx W a v]:P2 a g:=⟨by rw[h.out];exact Nat.ne_of_lt (Hq k)⟩
instance [h:fx W a v] [k:P2 a g]:fx (W.setCell ⟨g,i,none⟩ u) a v:=⟨(cell_far k.out u).trans h.out⟩
theorem cellR_c (W:World) (a:Addr) {v:Value} [h:fx W a v]:W.cell? a=some v:=h.out
end
class Cc (w1 w2:outParam World) (g:Nat):Prop where out:w1.heap.size≤g∧g<w2.heap.size
class IRow (e:outParam Nat) (w1:outParam World) (W:World) (g:Nat) (c:outParam Nat) (xs:outParam (List Int)):Prop where out:(Kd.int .i64).R e W w1.heap.size (fun _=>True) (.slice (some ⟨g,0,none⟩) xs.length c) xs
class At {α:Type} (d:Kd α) (e:outParam Nat) (w1:outParam World) (W:World) (A:Option Addr) (c:outParam Nat) (xs:outParam (List α)):Prop where out:d.R e W w1.heap.size (fun _=>True) (.slice A xs.length c) xs
class Ce (i:Int) (xs:List Int):Prop where out:0≤i∧i<xs.length
class cK (w0:outParam World) (a:Addr) (v:outParam Value):Prop where out:w0.cell? a=some v
class en {α:Type} (d:Kd α) (e t:Nat):Prop where out:∀q,q∈e::d.E→q≠t
section
variable {w0 w1 w2 a b w W:World} {g g' e c i n t B:Nat} {A:Option Addr} {xs ys:List Int} {v:Int} {u:Value} {o:Obj} {cs:Array Value}
instance [h:gF (Kd.int .i64) e w1 w2 (some ⟨g,0,none⟩) c xs]:Cc w1 w2 g:=⟨by
  have:=(Kd.R_bound h.out).1 g (by simp[Value.ownBlock]);exact⟨this.2.1,this.2.2.1⟩⟩
instance [h:Cc w1 w2 g] [k:tR w1 w2 g']:iL g' g:=⟨by have:=h.out;have:=k.out;omega⟩
instance [h:Cc w1 w2 g] [k:tR w1 w2 g']:iL g g':=⟨by have:=h.out;have:=k.out;omega⟩
instance [h:Cc w1 w2 g] [k:Sz w0 w1]:Nw w0 g:=⟨Nat.le_trans k.out h.out.1⟩
instance [h:Cc w1 w2 g] [k:GA w1 w2 a b]:tR a b g:=⟨by have:=h.out;have:=k.out;omega⟩
instance [h:gF (Kd.int .i64) e w1 w2 (some ⟨g,0,none⟩) c xs] [k:gu w1 w2 W]:IRow e w1 W g c xs:=⟨Fh (h:=h) (k:=k)⟩
instance [h:IRow e w1 W g c xs]:IRow e w1 (W.alloc o) g c xs:=⟨Kd.bY h.out o⟩
instance [h:IRow e w1 W g c xs]:IRow e w1 W.drew g c xs:=⟨Kd.R_drew h.out⟩
instance [h:IRow e w1 W g c xs]:IRow e w1 (W.drewN n) g c xs:=⟨Kd.R_drewN h.out n⟩
instance [k:aK w W] [h:IRow e w1 w g c xs]:IRow e w1 W g c xs:=⟨Kd.bh h.out k.out⟩
instance [k:Sin w W] [h:IRow e w1 w g c xs]:IRow e w1 W g c xs:=⟨Kd.bh h.out k.out⟩
instance [h:IRow e w1 W g c xs]:IRow e w1 (W.setCell ⟨g,i,none⟩ (.int .i64 v)) g c (xs.set i v):=⟨by
  have:=Kd.Kp h.out (i:Int) v;rw[List.length_set];exact this⟩
instance [h:IRow e w1 W g c xs] [k:iL g g']:IRow e w1 (W.setCell ⟨g',i,none⟩ u) g c xs:=⟨Kd.bN (Kd.aM (p:=⟨g',i,none⟩) (ok:=fun k=>k=g) (Kd.Kn (Kd.own_of_R h.out) (fun k hk=>by simp[Value.ownBlock]at hk;exact hk.symm)) (fun j hj=>by rw[hj];exact k.out) u) (fun _ _=>trivial)⟩
theorem sT (W:World) (g:Nat) (i:Int) [h:IRow e w1 W g c xs] [k:Ce i xs]:W.cell? ⟨g,i.toNat,none⟩=some (.int .i64 (rd xs i)):=(Kd.nW 0 h.out i k.out.1 k.out.2).1
theorem sU (W:World) (g:Nat) (i:Int) [h:IRow e w1 W g c xs] [k:Ce i xs]:W.frozen? ⟨g,i.toNat,none⟩=false:=(Kd.nW 0 h.out i k.out.1 k.out.2).2
theorem uh (W:World) (g:Nat) [h:IRow e w1 W g c xs] [k:Ce 0 xs]:W.cell? ⟨g,0,none⟩=some (.int .i64 (rd xs 0)):=sT W g 0
theorem uq (W:World) (g:Nat) [h:IRow e w1 W g c xs] [k:Ce 0 xs]:W.frozen? ⟨g,0,none⟩=false:=sU W g 0
theorem ew {i:Int} (j:gF (Kd.int .i64) e w1 w2 A c xs) (h0:0≤i) (h1:i<(xs.length:Int)):∃g,A=some ⟨g,0,none⟩∧Ce i xs:=by
  obtain⟨g,c',h,_⟩:=Kd.xr j.out (by omega);injection h with h _ _;exact⟨g,h,⟨⟨h0,h1⟩⟩⟩
theorem er {i:Int} (j:cg (Kd.int .i64) w0 A xs) (h0:0≤i) (h1:i<(xs.length:Int)):∃ad,A=some ad∧cK w0 (ad.add i.toNat) (.int .i64 (rd xs i)):=by
  obtain⟨ad,e,h⟩:=Kd.jZ j.out i h0 h1;exact⟨ad,e,⟨h⟩⟩
instance {p:Addr} [h:cK w0 p u] [k:From w0 W]:fx W p u:=⟨(k.out.cell (World.block_lt_of_cell? w0 p h.out)).trans h.out⟩
theorem eu {β:Type} {i:Nat} {f:List Int→Option β} {r:β} (h:(some (xs.set i v)).bind f=some r):xs.length=(xs.set i v).length∧f (xs.set i v)=some r:=⟨(List.length_set ..).symm,h⟩
instance [h:az xs.length c]:az (xs.set i v).length c:=⟨by rw[List.length_set];exact h.out⟩
theorem afn [h:IRow e w1 W g c xs] [l:From w w1]:(Kd.int .i64).R e W w.heap.size (fun _=>True) (.slice (some ⟨g,0,none⟩) xs.length c) xs:=Kd.dr h.out l.out.size
theorem irowFin' {m:Nat} [h:IRow e w1 W g c xs] [l:From w w1] (hm:m=xs.length):(Kd.int .i64).R e W w.heap.size (fun _=>True) (.slice (some ⟨g,0,none⟩) m c) xs:=by rw[hm];exact afn
instance [h:IRow e w1 W g c xs]:Rd (Kd.int .i64) W (some ⟨g,0,none⟩) xs:=⟨(Kd.ct h.out).2.2⟩
section
variable {α:Type} {d:Kd α} {zs:List α} {c':Nat}
instance [h:gF d t w1 w2 A c zs] [k:gu w1 w2 W] [l:IRow e w W g c' ys] [m:en d t e]:At d t w1 (W.setCell ⟨g,i,none⟩ (.int .i64 v)) A c zs:=⟨Kd.iM (v:= .slice (some ⟨g,0,none⟩) ys.length c') (Fh (h:=h) (k:=k)) (Kd.iN l.out) m.out (Kd.xu l.out (i:Int) v).2⟩
instance [h:At d t w1 W A c zs] [l:IRow e w W g c' ys] [m:en d t e]:At d t w1 (W.setCell ⟨g,i,none⟩ (.int .i64 v)) A c zs:=⟨Kd.iM (v:= .slice (some ⟨g,0,none⟩) ys.length c') h.out (Kd.iN l.out) m.out (Kd.xu l.out (i:Int) v).2⟩
instance [h:At d t w1 W A c zs]:At d t w1 (W.alloc o) A c zs:=⟨Kd.bY h.out o⟩
instance [h:At d t w1 W A c zs]:At d t w1 W.drew A c zs:=⟨Kd.R_drew h.out⟩
instance [h:At d t w1 W A c zs]:At d t w1 (W.drewN n) A c zs:=⟨Kd.R_drewN h.out n⟩
instance [k:aK w W] [h:At d t w1 w A c zs]:At d t w1 W A c zs:=⟨Kd.bh h.out k.out⟩
instance [k:Sin w W] [h:At d t w1 w A c zs]:At d t w1 W A c zs:=⟨Kd.bh h.out k.out⟩
instance [h:At d t w1 W A c zs] [k:a7 W g cs e] [m:en d t e]:At d t w1 (W.setCell ⟨g,i,none⟩ u) A c zs:=⟨Kd.bN (Kd.aM (p:=⟨g,i,none⟩) (Kd.fN h.out k.out m.out) (fun _ hk=>hk.2) u) (fun _ _=>trivial)⟩
theorem eB [h:At d t w1 W A c zs] [l:From w w1]:d.R t W w.heap.size (fun _=>True) (.slice A zs.length c) zs:=Kd.dr h.out l.out.size
instance [h:At d t w1 W A c zs]:Rd d W A zs:=⟨(Kd.ct h.out).2.2⟩
end
end
end Go.Proofs.YtnjfiaekdcekgaaGreatDoor.V
namespace Go.Proofs.YtnjfiaekdcekgaaGreatDoor.V
open Go.RowKit Go.Proofs.YtnjfiaekdcekgaaGreatDoorW.bS Go.Proofs.YtnjfiaekdcekgaaGreatDoorW.dU
section
variable {P:Program} {ops:Array Oper} {Q:Exit→Act→World→Prop} {T:Bool×List (List Nat×List Nat)} {B:List Nat} {oi:Oper} {v:Value} {fuel:Nat} {l l':Array Bool} {ds:List Nat} {a a':Act} {w w1 w3:World}
abbrev Sb (w3:World):World→Prop:=fun w'=>Below w3.heap.size w3 w'
theorem qR {id n:Nat} (hT:rtab .any ops=T) (hB:eN T.2 B=true) (h:aj (rtab .any ops=T)→aj (eN T.2 B=true)→∀w3,aK w w3→∀u,aK w3 u→Sb w3 u→cr P .any ops Q (Sb w3) ds n l a u)
    (hn:ops.size=n:=by rfl) (hl:Array.replicate n false=l:=by rfl) (hm:P.follows .mixedOrders=true:=by kernel_rfl):(Code.region id ops true).wp P Q a w:=
  pJ (S:=Sb w) (ds:=ds) l hm hn hl (fC (Below.refl _ _)) fun hS=>h ⟨hT⟩ ⟨hB⟩ w ⟨Below.refl _ _⟩ w.drew ⟨hS⟩ hS
theorem qA (i:Nat) (N:Option Tmp) (HT:aj (rtab .any ops=T)) (h:cr P .any ops Q (Sb w3) ds fuel l' a' w) (hi:ops[i]? =some oi:=by rfl) (hN:oi.dst=N:=by rfl)
    (hl:l.setIfInBounds i true=l':=by simp only[List.setIfInBounds_toArray,List.set_cons_zero,List.set_cons_succ];rfl) (hc:anyT T l.toList l'.toList i=true:=by kernel_rfl)
    (hQ:∀c a w,Q (.panic c) (a.put oi.dst v) w→Q (.panic c) a w:=by exact fun _ _ _ h=>h) (hw:Region.wanted oi (yielded ops a.tmps)=true:=by rfl)
    (hy:∀w',(execOp a.eval oi).run P w'= .ok (.value v) w':=by intro w';go_simp;with_reducible rfl) (ha:a.put N v=a':=by simp only[Act.put,List.setIfInBounds_toArray,List.set_cons_zero,List.set_cons_succ,eJ,gj];rfl):
    cr P .any ops Q (Sb w3) ds (fuel+1) l a w:=I3 l' hi hN (any_of HT.out hc) hQ (Or.inl ⟨hw,hy⟩) ha h
theorem qT (i:Nat) (N:Option Tmp) (HT:aj (rtab .any ops=T)) (HW:aj (eN T.2 B=true)) (hS:Sb w3 w) (h:cr P .any ops Q (Sb w3) ds fuel l' a' w) (hi:ops[i]? =some oi:=by rfl) (hN:oi.dst=N:=by rfl)
    (hl:l.setIfInBounds i true=l':=by simp only[List.setIfInBounds_toArray,List.set_cons_zero,List.set_cons_succ];rfl) (hc:FT T B ds l.toList l'.toList i=true:=by kernel_rfl)
    (hQ:∀c a w,Q (.panic c) (a.put oi.dst v) w→Q (.panic c) a w:=by exact fun _ _ _ h=>h) (hw:Region.wanted oi (yielded ops a.tmps)=true:=by rfl)
    (hy:∀w',Sin w3 w'→(execOp a.eval oi).run P w'= .ok (.value v) w':=by intro w' jS;go_simp;with_reducible rfl) (ha:a.put N v=a':=by simp only[Act.put,List.setIfInBounds_toArray,List.set_cons_zero,List.set_cons_succ,eJ,gj];rfl):
    cr P .any ops Q (Sb w3) ds (fuel+1) l a w:=FU l' hi hN (Ot HT.out HW.out hc) hQ (Or.inl ⟨hw,fun w' hS=>hy w' ⟨hS⟩⟩) hS ha h
theorem qB {a':Nat→Act} (i N:Nat) (cs:Array Value) (t:TypeId) (HT:aj (rtab .any ops=T)) (hS:Sb w3 w) (h:∀g,ma w g→∀w1,aK w w1→a7 w1 g cs t→Sb w3 w1→cr P .any ops Q (Sb w3) ds fuel l' (a' g) w1) (hi:ops[i]? =some oi:=by rfl) (hN:oi.dst=some N:=by rfl)
    (hl:l.setIfInBounds i true=l':=by simp only[List.setIfInBounds_toArray,List.set_cons_zero,List.set_cons_succ];rfl) (hc:(kO T.2 l.toList==[i]&&l.toList.set i true==l'.toList)=true:=by kernel_rfl) (hd:i∉ds:=by decide) (hw:Region.wanted oi (yielded ops a.tmps)=true:=by rfl)
    (hr:(execOp a.eval oi).run P w= .ok (.value (.pointer (some ⟨w.heap.size,0,none⟩))) (w.alloc (.cells cs t (0,0))):=by first|(go_simp;done)|(go_simp;rfl))
    (ha:∀g,a.put (some N) (.pointer (some ⟨g,0,none⟩))=a' g:=by intro g;simp only[Act.put,List.setIfInBounds_toArray,List.set_cons_zero,List.set_cons_succ,eJ,gj];rfl):
    cr P .any ops Q (Sb w3) ds (fuel+1) l a w:=one_ l' hi hN (ji HT.out hc) hd fun K hK=>by
  rw[←hN];refine RI hw hN hr fun g hg w1 hb hk=> ?_;have h1:Sb w3 w1:=bz hS hk;exact hK.out _ _ h1 fun _=>by rw[hN,ha];exact h g ⟨hg⟩ w1 ⟨hk⟩ ⟨hb⟩ h1
theorem qS (i:Nat) (HT:aj (rtab .any ops=T)) (h:Sb w3 w1→cr P .any ops Q (Sb w3) ds fuel l' a w1) (hi:ops[i]? =some oi:=by rfl) (hN:oi.dst=none:=by rfl)
    (hl:l.setIfInBounds i true=l':=by simp only[List.setIfInBounds_toArray,List.set_cons_zero,List.set_cons_succ];rfl) (hc:(kO T.2 l.toList==[i]&&l.toList.set i true==l'.toList)=true:=by kernel_rfl) (hd:i∉ds:=by decide) (hw:Region.wanted oi (yielded ops a.tmps)=true:=by rfl)
    (hr:(execOp a.eval oi).run P w= .ok .skip w1:=by go_simp;rfl) (hS:From w3 w1:=by infer_instance):
    cr P .any ops Q (Sb w3) ds (fuel+1) l a w:=one_ l' hi hN (ji HT.out hc) hd fun K hK=>Bp hw hN hr (hK.out _ _ hS.out fun _=>h hS.out)
theorem qL (i:Nat) (HT:aj (rtab .any ops=T)) (h:cr P .any ops Q (Sb w3) ds fuel l' a w1) (hi:ops[i]? =some oi:=by rfl) (hN:oi.dst=none:=by rfl)
    (hl:l.setIfInBounds i true=l':=by simp only[List.setIfInBounds_toArray,List.set_cons_zero,List.set_cons_succ];rfl) (hc:(kO T.2 l.toList==[i]&&l.toList.set i true==l'.toList)=true:=by kernel_rfl) (hd:i∈ds:=by decide) (hw:Region.wanted oi (yielded ops a.tmps)=true:=by rfl)
    (hr:(execOp a.eval oi).run P w= .ok .skip w1:=by go_simp;rfl):
    cr P .any ops Q (Sb w3) ds (fuel+1) l a w:=II l' hi hN (ji HT.out hc) hd fun K hK=>Bp hw hN hr (hK.out _ _ h)
theorem qC {f:FuncId} {args:Array Value} {xs:Array Operand} {ts:Array TypeId} (i N:Nat) {fn:Func} (hf:P.funcs[f]? =some fn) (HT:aj (rtab .any ops=T)) (h:∀K:Act→World→Prop,(∀a' w',Sb w3 w'→(Sb w3 w'→cr P .any ops Q (Sb w3) ds fuel l' a' w')→K a' w')→Calls P f args w fun e w'=>∃v,e= .returned v∧K (a.put (some N) v) w') (hi:ops[i]? =some oi:=by rfl) (hN:oi.dst=some N:=by rfl)
    (hl:l.setIfInBounds i true=l':=by simp only[List.setIfInBounds_toArray,List.set_cons_zero,List.set_cons_succ];rfl) (hc:(kO T.2 l.toList==[i]&&l.toList.set i true==l'.toList)=true:=by kernel_rfl) (hd:i∉ds:=by decide) (hw:Region.wanted oi (yielded ops a.tmps)=true:=by rfl)
    (hop:oi.op= .call {callee:= .value (.func f),args:=xs,argTypes:=ts}:=by rfl) (hname:(fn.name== "runtime.NumGoroutine")=false:=by kernel_rfl) (hb:fn.body.isSome=true:=by rfl)
    (hargs:xs.map a.eval=args:=by(try simp only[List.map_toArray,List.map_cons,List.map_nil]);first|done|rfl):
    cr P .any ops Q (Sb w3) ds (fuel+1) l a w:=one_ l' hi hN (ji HT.out hc) hd fun K hK=>gH hf hname hb args hw hN hop hargs (h K (fun a' w' h1 h2=>hK.out a' w' h1 h2))
theorem qN (h:cr P .any ops Q (Sb w3) ds fuel l a' w) (ha:a=a':=by show Act.put _ (some _) _=_;simp only[Act.put,List.setIfInBounds_toArray,List.set_cons_zero,List.set_cons_succ,eJ,gj];rfl):cr P .any ops Q (Sb w3) ds fuel l a w:=kM ha h
theorem qD (HT:aj (rtab .any ops=T)) (h:Q .normal a w) (hr:(kO T.2 l.toList==[])=true:=by kernel_rfl):cr P .any ops Q (Sb w3) ds fuel l a w:=done_ (done_of HT.out hr) h
theorem pH (i:Nat) (Ni:Option Tmp) (HT:aj (rtab .any ops=T))
    (h:∀K:Act→World→Prop,Shut (∀a' w',Sb w3 w'→(Sb w3 w'→cr P .any ops Q (Sb w3) ds fuel l' a' w')→K a' w')→if Region.wanted oi (yielded ops a.tmps)=true then Oper.wp P oi a w K Q else K (a.put Ni undef) w)
    (hi:ops[i]? =some oi:=by rfl) (hN:oi.dst=Ni:=by rfl) (hl:l.setIfInBounds i true=l':=by simp only[List.setIfInBounds_toArray,List.set_cons_zero,List.set_cons_succ];rfl) (hc:(kO T.2 l.toList==[i]&&l.toList.set i true==l'.toList)=true:=by kernel_rfl) (hd:i∉ds:=by decide):
    cr P .any ops Q (Sb w3) ds (fuel+1) l a w:=one_ l' hi hN (ji HT.out hc) hd h
theorem VN {oj ok:Oper} {li lj lk:Array Bool} (i j k:Nat) (Ni Nj Nk:Option Tmp) (HT:aj (rtab .any ops=T))
    (h1:∀K:Act→World→Prop,Shut (∀a' w',Sb w3 w'→(Sb w3 w'→cr P .any ops Q (Sb w3) ds fuel li a' w')→K a' w')→if Region.wanted oi (yielded ops a.tmps)=true then Oper.wp P oi a w K Q else K (a.put Ni undef) w)
    (h2:∀K:Act→World→Prop,Shut (∀a' w',Sb w3 w'→(Sb w3 w'→cr P .any ops Q (Sb w3) ds fuel lj a' w')→K a' w')→if Region.wanted oj (yielded ops a.tmps)=true then Oper.wp P oj a w K Q else K (a.put Nj undef) w)
    (h3:∀K:Act→World→Prop,Shut (∀a' w',Sb w3 w'→(Sb w3 w'→cr P .any ops Q (Sb w3) ds fuel lk a' w')→K a' w')→if Region.wanted ok (yielded ops a.tmps)=true then Oper.wp P ok a w K Q else K (a.put Nk undef) w)
    (hi:ops[i]? =some oi:=by rfl) (hj:ops[j]? =some oj:=by rfl) (hk:ops[k]? =some ok:=by rfl) (xY:oi.dst=Ni:=by rfl) (xZ:oj.dst=Nj:=by rfl) (LS:ok.dst=Nk:=by rfl)
    (hli:l.setIfInBounds i true=li:=by simp only[List.setIfInBounds_toArray,List.set_cons_zero,List.set_cons_succ];rfl) (hlj:l.setIfInBounds j true=lj:=by simp only[List.setIfInBounds_toArray,List.set_cons_zero,List.set_cons_succ];rfl) (hlk:l.setIfInBounds k true=lk:=by simp only[List.setIfInBounds_toArray,List.set_cons_zero,List.set_cons_succ];rfl)
    (hc:(kO T.2 l.toList==[i,j,k]&&l.toList.set i true==li.toList&&l.toList.set j true==lj.toList&&l.toList.set k true==lk.toList)=true:=by kernel_rfl) (sW:i∉ds:=by decide) (hdj:j∉ds:=by decide) (hdk:k∉ds:=by decide):
    cr P .any ops Q (Sb w3) ds (fuel+1) l a w:=ajU li lj lk hi hj hk xY xZ LS (ajV HT.out hc) sW hdj hdk h1 h2 h3
theorem tk {K:Act→World→Prop} (N:Nat) (cs:Array Value) (t:TypeId) (h:∀g,ma w g→∀w1,aK w w1→a7 w1 g cs t→K (a.put (some N) (.pointer (some ⟨g,0,none⟩))) w1) (hN:oi.dst=some N:=by rfl) (hw:Region.wanted oi (yielded ops a.tmps)=true:=by rfl)
    (hr:(execOp a.eval oi).run P w= .ok (.value (.pointer (some ⟨w.heap.size,0,none⟩))) (w.alloc (.cells cs t (0,0))):=by first|(go_simp;done)|(go_simp;rfl)):if Region.wanted oi (yielded ops a.tmps)=true then Oper.wp P oi a w K Q else K (a.put (some N) undef) w:=by
  rw[←hN];refine RI hw hN hr fun g hg w1 hb hk=> ?_;rw[hN];exact h g ⟨hg⟩ w1 ⟨hk⟩ ⟨hb⟩
theorem tj {K:Act→World→Prop} (e N:Nat) (t:TypeId) (x y:Operand) (m:Nat) (bytes:Nat) (hu:P.underlying t=some (.slice e)) (hinfo:(P.info? e).map (fun i=>(i.zero,i.size,i.bytes))=some (some (.int .i64 0),1,bytes)) (hb0:0<bytes) (hl:m*bytes≤281474976710656)
    (h:∀A c w1,gF (Kd.int .i64) e w w1 A c (List.replicate m 0)→aK w w1→K (a.put (some N) (.slice A (List.replicate m (0:Int)).length c)) w1) (hN:oi.dst=some N:=by rfl) (hw:Region.wanted oi (yielded ops a.tmps)=true:=by rfl)
    (ho:oi.op= .makeSlice t x y:=by rfl) (hx:a.eval x= .int .i64 (m:Int):=by rfl) (hy:a.eval y= .int .i64 (m:Int):=by rfl):if Region.wanted oi (yielded ops a.tmps)=true then Oper.wp P oi a w K Q else K (a.put (some N) undef) w:=by
  rw[←hN];refine Kd.aaO (Kd.int .i64) w.heap.size e hw hN t x y ho (m:Int) hx hy hu (.int .i64 0) bytes hinfo rfl (by decide) hb0 0 (ok:=fun _=>True) (cU:=fun _=>True) rfl (fun _ h=>h) trivial (by omega) (by simpa using hl) (Below.refl _ _) (Nat.le_refl _) ?_;intro v1 w1 bB hb _ _;obtain⟨A,c,rfl⟩:=Kd.dp bB;rw[Int.toNat_natCast]at bB ⊢;rw[hN];exact h A c w1 ⟨bB⟩ ⟨hb⟩
theorem wE {oj:Oper} {li lj:Array Bool} (i j:Nat) (Ni Nj:Option Tmp) (HT:aj (rtab .any ops=T))
    (h1:∀K:Act→World→Prop,Shut (∀a' w',Sb w3 w'→(Sb w3 w'→cr P .any ops Q (Sb w3) ds fuel li a' w')→K a' w')→if Region.wanted oi (yielded ops a.tmps)=true then Oper.wp P oi a w K Q else K (a.put Ni undef) w)
    (h2:∀K:Act→World→Prop,Shut (∀a' w',Sb w3 w'→(Sb w3 w'→cr P .any ops Q (Sb w3) ds fuel lj a' w')→K a' w')→if Region.wanted oj (yielded ops a.tmps)=true then Oper.wp P oj a w K Q else K (a.put Nj undef) w)
    (hi:ops[i]? =some oi:=by rfl) (hj:ops[j]? =some oj:=by rfl) (xY:oi.dst=Ni:=by rfl) (xZ:oj.dst=Nj:=by rfl)
    (hli:l.setIfInBounds i true=li:=by simp only[List.setIfInBounds_toArray,List.set_cons_zero,List.set_cons_succ];rfl) (hlj:l.setIfInBounds j true=lj:=by simp only[List.setIfInBounds_toArray,List.set_cons_zero,List.set_cons_succ];rfl)
    (hc:(kO T.2 l.toList==[i,j]&&l.toList.set i true==li.toList&&l.toList.set j true==lj.toList)=true:=by kernel_rfl) (sW:i∉ds:=by decide) (hdj:j∉ds:=by decide):
    cr P .any ops Q (Sb w3) ds (fuel+1) l a w:=WI li lj hi hj xY xZ (WJ HT.out hc) sW hdj h1 h2
section
variable {α:Type} {xs ys:List α} {inner:List Value} {K:Act→World→Prop} {N:Nat}
theorem NI (d:Kd α) (e N:Nat) (xs:List α) (inner:List Value) (hp:bf (d.M w w.heap.size (fun _=>True)) d.sz xs inner) (h:∀A c w1,gF d e w w1 A c xs→aK w w1→K (a.put (some N) (.slice A xs.length c)) w1)
    (hN:oi.dst=some N:=by rfl) (hw:Region.wanted oi (yielded ops a.tmps)=true:=by rfl) (hr:(execOp a.eval oi).run P w= .ok (.value (.slice (some ⟨w.heap.size,0,none⟩) xs.length xs.length)) (w.alloc (.cells inner.toArray e)):=by first|(go_simp;done)|(go_simp;rfl)) (hl:xs.length≤9223372036854775807:=by simp):
    if Region.wanted oi (yielded ops a.tmps)=true then Oper.wp P oi a w K Q else K (a.put (some N) undef) w:=by
  rw[←hN];refine Kd.vK d w.heap.size e hw hN (xs:=xs) (inner:=inner) (ok:=fun _=>True) (cU:=fun _=>True) hr hp (fun _ h=>h) trivial (Below.refl _ _) (Nat.le_refl _) hl ?_;intro v1 w1 ho hb _ _;obtain⟨A,c,rfl⟩:=Kd.dp ho;rw[hN];exact h A c w1 ⟨ho⟩ ⟨hb⟩
theorem qI {a':Option Addr→Nat→Act} (d:Kd α) (i e N:Nat) (xs:List α) (inner:List Value) (HT:aj (rtab .any ops=T)) (hS:Sb w3 w) (hp:bf (d.M w w.heap.size (fun _=>True)) d.sz xs inner) (h:∀A c w1,gF d e w w1 A c xs→aK w w1→Sb w3 w1→cr P .any ops Q (Sb w3) ds fuel l' (a' A c) w1) (hi:ops[i]? =some oi:=by rfl)
    (hN:oi.dst=some N:=by rfl) (hl':l.setIfInBounds i true=l':=by simp only[List.setIfInBounds_toArray,List.set_cons_zero,List.set_cons_succ];rfl) (hc:(kO T.2 l.toList==[i]&&l.toList.set i true==l'.toList)=true:=by kernel_rfl) (hd:i∉ds:=by decide) (hw:Region.wanted oi (yielded ops a.tmps)=true:=by rfl)
    (hr:(execOp a.eval oi).run P w= .ok (.value (.slice (some ⟨w.heap.size,0,none⟩) xs.length xs.length)) (w.alloc (.cells inner.toArray e)):=by first|(go_simp;done)|(go_simp;rfl)) (hl:xs.length≤9223372036854775807:=by simp)
    (ha:∀A c,a.put (some N) (.slice A xs.length c)=a' A c:=by intro A c;simp only[Act.put,List.setIfInBounds_toArray,List.set_cons_zero,List.set_cons_succ,eJ,gj];rfl):
    cr P .any ops Q (Sb w3) ds (fuel+1) l a w:=one_ l' hi hN (ji HT.out hc) hd fun K hK=>NI d e N xs inner hp (fun A c w1 j b=>hK.out _ _ (bz hS b.out) fun _=>by rw[ha];exact h A c w1 j b (bz hS b.out)) hN hw hr hl
theorem qP {a':Option Addr→Nat→Act} {A A2:Option Addr} {c c2 e:Nat} (d:Kd α) (xs ys:List α) (i N:Nat) (so xo:Operand) (t:TypeId) (z:Value) (bytes:Nat) (HT:aj (rtab .any ops=T)) (hS:Sb w3 w)
    (hu:P.underlying t=some (.slice e)) (hinfo:(P.info? e).map (fun i=>(i.zero,i.size,i.bytes))=some (some z,d.sz,bytes)) (hz:z.cells.size=d.sz) (hs0:0<d.sz) (hb0:0<bytes) (CX:∀x cs,d.K w x cs→d.M w w3.heap.size (fun _=>False) x cs) (hlen:(xs.length+ys.length)*bytes≤140737488355328)
    (h:∀A' c' w1,gF d e w3 w1 A' c' (xs++ys)→aK w3 w1→Sb w3 w1→cr P .any ops Q (Sb w3) ds fuel l' (a' A' c') w1)
    (hi:ops[i]? =some oi:=by rfl) (hN:oi.dst=some N:=by rfl) (ho:oi.op= .call {callee:= .builtin .append,args:= #[so,xo],argTypes:= #[t,t]}:=by rfl) (hs:a.eval so= .slice A xs.length c:=by rfl) (hx:a.eval xo= .slice A2 ys.length c2:=by rfl)
    (hl':l.setIfInBounds i true=l':=by simp only[List.setIfInBounds_toArray,List.set_cons_zero,List.set_cons_succ];rfl) (hc:(kO T.2 l.toList==[i]&&l.toList.set i true==l'.toList)=true:=by kernel_rfl) (hd:i∉ds:=by decide) (hw:Region.wanted oi (yielded ops a.tmps)=true:=by rfl)
    (hR:d.R e w w3.heap.size (fun _=>True) (.slice A xs.length c) xs:=by exact cn) (hR2:d.C w A2 ys.length ys:=by exact I4)
    (ha:∀A c,a.put (some N) (.slice A (xs++ys).length c)=a' A c:=by intro A c;simp only[Act.put,List.setIfInBounds_toArray,List.set_cons_zero,List.set_cons_succ,eJ,gj];rfl):
    cr P .any ops Q (Sb w3) ds (fuel+1) l a w:=one_ l' hi hN (ji HT.out hc) hd fun K hK=>by
  rw[←hN];refine Kd.Rf d (w0:=w3) w3.heap.size hw so xo t e z bytes ho hu hinfo hz hs0 hb0 (.slice A xs.length c) xs ys A2 ys.length c2 (fun _=>True) (fun _=>False) hs hx hR hR2 CX (fun _ h=>h.elim) (fun _ _=>trivial) hS hS.size hlen ?_;intro v1 w1 bB hb _ _;obtain⟨A',c',rfl⟩:=Kd.dp bB;rw[hN];exact hK.out _ _ hb fun _=>by rw[ha];exact h A' c' w1 ⟨bB⟩ ⟨hb⟩ hb
end
end
class JQ (W:outParam World) (W':World) (e:outParam Nat):Prop where out:∀(g:Nat) (cs:Array Value) (t:TypeId),W.heap[g]? =some (.cells cs t (0,0))→e≠t→W'.heap[g]? =some (.cells cs t (0,0))
class pq (e t:Nat):Prop where out:e≠t
section
variable {w w0 W W':World} {g e t:Nat} {cs:Array Value}
instance [h:JQ W W' e] [k:a7 W g cs t] [n:pq e t]:a7 W' g cs t:=⟨h.out g cs t k.out n.out⟩
theorem grE {α:Type} {d:Kd α} {v:Value} {xs:List α} {B:Nat} {ok:Nat→Prop} (h:d.R e W B ok v xs) (hg:W.grownBy W' v.ownBlock):JQ W W' e:=⟨fun g cs t hb ht=>Cx hb hg (Kd.nr h hb ht)⟩
theorem gV {α:Type} {d:Kd α} {w1 w2:World} {A:Option Addr} {c n:Nat} {xs:List α} [h:gF d e w1 w2 A c xs] [k:gu w1 w2 W] [l:From w w1] (hn:n=xs.length):d.R e W w.heap.size (fun _=>True) (.slice A n c) xs:=by rw[hn];exact cn
theorem NP {α:Type} {d:Kd α} {v:Value} {xs:List α} (h:d.R e W w.heap.size (fun _=>True) v xs):∃A c,v= .slice A xs.length c∧gF d e w W A c xs:=by
  obtain⟨A,c,rfl⟩:=Kd.dp h;exact⟨A,c,rfl,⟨h⟩⟩
theorem vN {α:Type} {d:Kd α} {w1:World} {A:Option Addr} {c n:Nat} {xs:List α} [h:At d e w1 W A c xs] [l:From w w1] (hn:n=xs.length):d.R e W w.heap.size (fun _=>True) (.slice A n c) xs:=by rw[hn];exact eB
class Dj (A B:Option Addr):Prop where out:∀a b:Addr,A=some a→B=some b→a.block≠b.block
theorem IZ {a:Addr} {n c k:Nat} (h:(Value.slice (some a) n c).ownBlock=some k):k=a.block:=by cases h;rfl
theorem Hz {A B:Option Addr} {n c n' c':Nat} (h:∀k,(Value.slice A n c).ownBlock=some k→some k≠(Value.slice B n' c').ownBlock):Dj A B:=
  ⟨by rintro a b rfl rfl e;exact h a.block rfl (by rw[e];rfl)⟩
instance {B:Option Addr}:Dj none B:=⟨fun _ _ h=>by cases h⟩
instance {A:Option Addr}:Dj A none:=⟨fun _ _ _ h=>by cases h⟩
theorem Bn {e:Nat} {w1 w2:World} {a:Addr} {c:Nat} {xs:List Int} (h:gF (Kd.int .i64) e w1 w2 (some a) c xs):w1.heap.size≤a.block∧a.block<w2.heap.size:=⟨Kd.fT h.out a.block rfl,Kd.gY h.out a.block rfl⟩
instance {e e':Nat} {w1 w2 Jk Jm:World} {A B:Option Addr} {c c':Nat} {xs ys:List Int} [a:gF (Kd.int .i64) e w1 w2 A c xs] [b:gF (Kd.int .i64) e' Jk Jm B c' ys] [s:Sz w2 Jk]:Dj A B:=
  ⟨by rintro x y rfl rfl h;have h1:=Bn a;have h2:=Bn b;have:=s.out;omega⟩
instance {e e':Nat} {w1 w2 Jk Jm:World} {A B:Option Addr} {c c':Nat} {xs ys:List Int} [a:gF (Kd.int .i64) e w1 w2 A c xs] [b:gF (Kd.int .i64) e' Jk Jm B c' ys] [s:Sz Jm w1]:Dj A B:=
  ⟨by rintro x y rfl rfl h;have h1:=Bn a;have h2:=Bn b;have:=s.out;omega⟩
theorem SJ {W W':World} {A:Option Addr} {c:Nat} {xs:List Int} (hg:W.grownBy W' (Value.slice A xs.length c).ownBlock) [h:At (Kd.int .i64) e w W A c xs]:JQ W W' e:=grE h.out hg
theorem Sh {A B:Option Addr} (h:Dj A B):Dj B A:=⟨fun a b h1 h2 e=>h.out b a h2 h1 e.symm⟩
theorem vY {e B0 n c n' c':Nat} {A B:Option Addr} {ok:Nat→Prop} {xs:List Int} (h:(Kd.int .i64).R e W B0 ok (.slice A n c) xs) [d:Dj A B]:(Kd.int .i64).R e W B0 (fun k=>some k≠(Value.slice B n' c').ownBlock) (.slice A n c) xs:=
  Kd.aaQ rfl h (by
    intro k hk he;rcases A with _|a
    · cases hk
    rcases B with _|b
    · cases he
    have h1:=IZ hk;have h2:=IZ he.symm;exact d.out a b rfl rfl (h1.symm.trans h2))
theorem xB {α:Type} {d:Kd α} {ok:Nat→Prop} {v:Value} {xs:List α} (h:d.R e W w.heap.size ok v xs):∃A c,v= .slice A xs.length c∧At d e w W A c xs∧az xs.length c∧∀k,(Value.slice A xs.length c).ownBlock=some k→ok k:=by
  obtain⟨A,c,rfl⟩:=Kd.dp h;exact⟨A,c,rfl,⟨Kd.bN h (fun _ _=>trivial)⟩,⟨(Kd.ct h).2.1⟩,h.1⟩
theorem UM {α:Type} {d:Kd α} {e':Nat} {w1 w2:World} {A B:Option Addr} {c c' n:Nat} {xs:List α} {ys:List Int} (j:gF d e' w1 w2 A c xs) [k:gu w1 w2 W] (hg:W.grownBy W' (Value.slice B n c').ownBlock) [a:At (Kd.int .i64) e w w1 B c' ys]:gu w1 w2 W':=
  ⟨fun i h1 h2=>(hg.block i (keep_lt k h1 h2) (by
    rintro hb;rcases B with _|b
    · cases hb
    have h3:=IZ hb.symm;have h4:=Kd.gY a.out b.block rfl;omega)).trans (k.out i h1 h2)⟩
theorem Sg {w1 w2:World} {A B C:Option Addr} {c c' c7 n n7:Nat} {xs ys:List Int} {e':Nat} (j:gF (Kd.int .i64) e' w1 w2 A c xs)
    (hat:(Value.slice C n7 c7).ownBlock=(Value.slice B n c').ownBlock∨∃b,(Value.slice C n7 c7).ownBlock=some b∧W.heap.size≤b) [s:Sz w2 W] [a:At (Kd.int .i64) e w w1 B c' ys]:Dj C A:=
  ⟨by
    rintro x y rfl rfl he;have h1:=Bn j;have h2:=s.out;rcases hat with h|⟨b,hb,hs⟩
    · rcases B with _|z
      · cases h
      have h3:x.block=z.block:=(by cases z;cases x;injection h);have h4:=Kd.gY a.out z.block rfl;omega
    · have h3:=IZ hb;omega⟩
end
end Go.Proofs.YtnjfiaekdcekgaaGreatDoor.V
namespace Go.Proofs.YtnjfiaekdcekgaaGreatDoor.P
set_option maxHeartbeats 8000000
set_option maxRecDepth 100000
set_option synthInstance.maxHeartbeats 400000
set_option synthInstance.maxSize 100000
open Go.RowKit Go.Proofs.YtnjfiaekdcekgaaGreatDoorW.bS Go.Proofs.YtnjfiaekdcekgaaGreatDoorW.dU Go.Proofs.YtnjfiaekdcekgaaGreatDoorW.dX Go.Proofs.YtnjfiaekdcekgaaGreatDoor.V
attribute [local go_sem] fV fW cellR_c sT sU uh uq
attribute [local go_sem] fE fI fH fL fG fK fF fJ
def nH.f (k:Nat) (a0:Int) (l1:List (ar)):Option ((List (ar))×Int×List Int×Bool):=(fw.f k a0 l1).bind fun abB=>(if abB.2=true then((spec_l19Copy.f l1).bind fun t142=>(if 12≤35184372088832 then((some (List.replicate 12 0:List Int)).bind fun Xo=>(if 0<(Xo.length:Int)then(some (t142,0,(Xo.set (0:Int).toNat a0),true))else(none)))else(none)))else(some (([]:List (ar)),0,([]:List Int),false)))
noncomputable def nH.T4:Bool×List (List Nat×List Nat):=rtab .any (opsOf Tryz.f130 4)
def nH.B4:List Nat:=[0,1,0,7,0,31]
theorem nH.zw:rtab .any (opsOf Tryz.f130 4)=nH.T4:=rfl
theorem nH.xC:eN nH.T4.2 nH.B4=true:=by kernel_rfl
theorem nH.calls (k:Nat) (a0:Int) (A1:Option Addr) (c1:Nat) (l1:List (ar)) (r1:List (ar)) (r2:Int) (r3:List Int) (r4:Bool) (w:World) (hr1:Kd.C bl w A1 l1.length l1) (hc1:l1.length≤c1) (h:nH.f k a0 l1=some (r1,r2,r3,r4)):
  Calls Tryz.prog 130 #[.int .i64 a0,.slice A1 l1.length c1] w fun e w'=>∃v0_ cB:Value,e= .returned (.tuple #[.agg #[v0_,.int .i64 r2,cB],.bool r4])∧Kd.R bl 110 w' w.heap.size (fun _=>True) v0_ r1∧Kd.R (Kd.int .i64) 3 w' w.heap.size (fun _=>True) cB r3∧Below w.heap.size w w':=by
 replace hr1:=cg.mk hr1;replace hc1:=az.mk hc1;have s8:=en.mk (d:=bl) (e:=110) (t:=3) (by decide);have yE:=en.mk (d:=bl) (e:=110) (t:=27) (by decide);unfold nH.f at h;have lR:=Tryz.underlying27
 (repeat' first|((with_reducible replace h:=cG h);rcases h with ⟨hc,h⟩|⟨hc,h⟩<;>first|exact(none_some h).elim|exact absurd hc (by decide)|subst hc|(replace hc:=br hc;subst hc)|(replace hc:=ey hc;subst hc)|(replace hc:=hH_ hc;subst hc)|(have hd:(_==_)=true:=hc)|(have hd:(_==_)=false:=br hc)|(have hd:=hI_ hc;have he:=cD hc;clear hc)|(have hd:=cE hc;have he:=hL_ hc)|(have hd:=decide_eq_false hc)|(have hd:=decide_eq_true hc;(try(have hn:=Int.natCast_pos.mp hc;have hm:=decide_eq_true hn;replace hn:=eq_true hn));first|(obtain⟨g_,e_,i_⟩:=ew (by assumption) (by first|assumption|decide) hc;cases e_)|(obtain⟨a_,e_,c_⟩:=er (by assumption) (by first|assumption|decide) hc;cases e_))|(have hd:=decide_eq_true hc)|skip)|((with_reducible replace h:=eu h);obtain⟨hl_,h⟩:=h;replace hl_:=A_ hl_;(try dsimp only at h)))
 all_goals go_enter Tryz.func130,Tryz.ntmps130
 all_goals go_wp2_with ((first
  |((with_reducible refine gate_dst (N:=4) rfl ?_);refine bV #[.slice none 0 0,.int .i64 0,.slice none 0 0] 27 fun g w1 j1 j2 j3=> ?_)
  |(go_at_call 151;(try rw[hl_.out]);replace h:=bI h;obtain⟨⟨t1,t2⟩,A,h⟩:=h;(try dsimp only at h);refine(fw.calls _ _ _ _ _ _ _ _ Rd.out az.out A).mono ?_;rintro e w2 ⟨v0,rfl,ho0,hb⟩;obtain⟨B0,b0,rfl,j0,q0⟩:=aX ho0;have jb:=aK.mk hb;clear A ho0 hb)
  |(refine qR (id:=4) (ds:=[]) (l:= #[false,false,false,false,false,false]) nH.zw nH.xC ?_;intro ag HW_ w3 jw u0 iu hHeld;replace h:=bI h;obtain⟨r1t,A1,h⟩:=h;(try dsimp only at h);refine qA 0 (some 18) ag ?_;refine VN 1 2 4 (some 19) (some 20) (some 8) ag (fun K hK=> ?_) (fun K hK=> ?_) (fun K hK=> ?_);(focus (refine gH Tryz.func107 (by kernel_rfl) rfl _ (by rfl) rfl rfl (by(try simp only[List.map_toArray,List.map_cons,List.map_nil]);rfl) ?_;refine(spec_l19Copy.calls _ _ _ _ _ Rd.out az.out A1).mono ?_;rintro e u1 ⟨v0,rfl,ho0,hb⟩;obtain⟨B0,b0,rfl,j0,q0⟩:=aX ho0;have jb:=aK.mk hb;(try clear ho0 hb);refine⟨_,rfl,hK.out _ _ From.out fun hHeld=> ?_⟩;clear hK K;refine qN ?_;refine wE 2 4 (some 20) (some 8) ag (fun K hK=> ?_) (fun K hK=> ?_);(focus (refine tj 3 20 25 _ _ 12 8 Tryz.underlying25 info3 (by decide) (by decide) ?_;intro B2 b2 u2 j2 s5;generalize List.replicate 12 (0:Int)=y2 at h j2 ⊢;refine hK.out _ _ From.out fun hHeld=> ?_;clear hK K;refine qN ?_;refine qA 3 (some 21) ag ?_;refine pH 4 (some 8) ag fun K hK=> ?_;refine tk 8 #[.slice none 0 0,.int .i64 0,.slice none 0 0] 27 ?_;intro g4 uR u4 uS uT;refine hK.out _ _ From.out fun hHeld=> ?_;clear hK K;refine qN ?_;refine qS 5 ag fun hHeld=> ?_;refine qD ag ?_));rotate_left 1;(focus (refine tk 8 #[.slice none 0 0,.int .i64 0,.slice none 0 0] 27 ?_;intro g4 uR u4 uS uT;refine hK.out _ _ From.out fun hHeld=> ?_;clear hK K;refine qN ?_;refine pH 2 (some 20) ag fun K hK=> ?_;refine tj 3 20 25 _ _ 12 8 Tryz.underlying25 info3 (by decide) (by decide) ?_;intro B2 b2 u2 j2 s5;generalize List.replicate 12 (0:Int)=y2 at h j2 ⊢;refine hK.out _ _ From.out fun hHeld=> ?_;clear hK K;refine qN ?_;refine qA 3 (some 21) ag ?_;refine qS 5 ag fun hHeld=> ?_;refine qD ag ?_))));rotate_left 2;(focus (refine tj 3 20 25 _ _ 12 8 Tryz.underlying25 info3 (by decide) (by decide) ?_;intro B2 b2 u2 j2 s5;generalize List.replicate 12 (0:Int)=y2 at h j2 ⊢;refine hK.out _ _ From.out fun hHeld=> ?_;clear hK K;refine qN ?_;refine wE 1 4 (some 19) (some 8) ag (fun K hK=> ?_) (fun K hK=> ?_);(focus (refine gH Tryz.func107 (by kernel_rfl) rfl _ (by rfl) rfl rfl (by(try simp only[List.map_toArray,List.map_cons,List.map_nil]);rfl) ?_;refine(spec_l19Copy.calls _ _ _ _ _ Rd.out az.out A1).mono ?_;rintro e u1 ⟨v0,rfl,ho0,hb⟩;obtain⟨B0,b0,rfl,j0,q0⟩:=aX ho0;have jb:=aK.mk hb;(try clear ho0 hb);refine⟨_,rfl,hK.out _ _ From.out fun hHeld=> ?_⟩;clear hK K;refine qN ?_;refine qA 3 (some 21) ag ?_;refine pH 4 (some 8) ag fun K hK=> ?_;refine tk 8 #[.slice none 0 0,.int .i64 0,.slice none 0 0] 27 ?_;intro g4 uR u4 uS uT;refine hK.out _ _ From.out fun hHeld=> ?_;clear hK K;refine qN ?_;refine qS 5 ag fun hHeld=> ?_;refine qD ag ?_));rotate_left 1;(focus (refine tk 8 #[.slice none 0 0,.int .i64 0,.slice none 0 0] 27 ?_;intro g4 uR u4 uS uT;refine hK.out _ _ From.out fun hHeld=> ?_;clear hK K;refine qN ?_;refine pH 1 (some 19) ag fun K hK=> ?_;refine gH Tryz.func107 (by kernel_rfl) rfl _ (by rfl) rfl rfl (by(try simp only[List.map_toArray,List.map_cons,List.map_nil]);rfl) ?_;refine(spec_l19Copy.calls _ _ _ _ _ Rd.out az.out A1).mono ?_;rintro e u1 ⟨v0,rfl,ho0,hb⟩;obtain⟨B0,b0,rfl,j0,q0⟩:=aX ho0;have jb:=aK.mk hb;(try clear ho0 hb);refine⟨_,rfl,hK.out _ _ From.out fun hHeld=> ?_⟩;clear hK K;refine qN ?_;refine qA 3 (some 21) ag ?_;refine qS 5 ag fun hHeld=> ?_;refine qD ag ?_))));rotate_left 2;(focus (refine tk 8 #[.slice none 0 0,.int .i64 0,.slice none 0 0] 27 ?_;intro g4 uR u4 uS uT;refine hK.out _ _ From.out fun hHeld=> ?_;clear hK K;refine qN ?_;refine wE 1 2 (some 19) (some 20) ag (fun K hK=> ?_) (fun K hK=> ?_);(focus (refine gH Tryz.func107 (by kernel_rfl) rfl _ (by rfl) rfl rfl (by(try simp only[List.map_toArray,List.map_cons,List.map_nil]);rfl) ?_;refine(spec_l19Copy.calls _ _ _ _ _ Rd.out az.out A1).mono ?_;rintro e u1 ⟨v0,rfl,ho0,hb⟩;obtain⟨B0,b0,rfl,j0,q0⟩:=aX ho0;have jb:=aK.mk hb;(try clear ho0 hb);refine⟨_,rfl,hK.out _ _ From.out fun hHeld=> ?_⟩;clear hK K;refine qN ?_;refine pH 2 (some 20) ag fun K hK=> ?_;refine tj 3 20 25 _ _ 12 8 Tryz.underlying25 info3 (by decide) (by decide) ?_;intro B2 b2 u2 j2 s5;generalize List.replicate 12 (0:Int)=y2 at h j2 ⊢;refine hK.out _ _ From.out fun hHeld=> ?_;clear hK K;refine qN ?_;refine qA 3 (some 21) ag ?_;refine qS 5 ag fun hHeld=> ?_;refine qD ag ?_));rotate_left 1;(focus (refine tj 3 20 25 _ _ 12 8 Tryz.underlying25 info3 (by decide) (by decide) ?_;intro B2 b2 u2 j2 s5;generalize List.replicate 12 (0:Int)=y2 at h j2 ⊢;refine hK.out _ _ From.out fun hHeld=> ?_;clear hK K;refine qN ?_;refine pH 1 (some 19) ag fun K hK=> ?_;refine gH Tryz.func107 (by kernel_rfl) rfl _ (by rfl) rfl rfl (by(try simp only[List.map_toArray,List.map_cons,List.map_nil]);rfl) ?_;refine(spec_l19Copy.calls _ _ _ _ _ Rd.out az.out A1).mono ?_;rintro e u1 ⟨v0,rfl,ho0,hb⟩;obtain⟨B0,b0,rfl,j0,q0⟩:=aX ho0;have jb:=aK.mk hb;(try clear ho0 hb);refine⟨_,rfl,hK.out _ _ From.out fun hHeld=> ?_⟩;clear hK K;refine qN ?_;refine qA 3 (some 21) ag ?_;refine qS 5 ag fun hHeld=> ?_;refine qD ag ?_))));all_goals((try simp only[Option.bind_some]at h);(repeat' first|((with_reducible replace h:=cG h);rcases h with ⟨hc,h⟩|⟨hc,h⟩<;>first|exact(none_some h).elim|exact absurd hc (by decide)|subst hc|(replace hc:=br hc;subst hc)|(replace hc:=ey hc;subst hc)|(replace hc:=hH_ hc;subst hc)|(have hd:(_==_)=true:=hc)|(have hd:(_==_)=false:=br hc)|(have hd:=hI_ hc;have he:=cD hc;clear hc)|(have hd:=cE hc;have he:=hL_ hc)|(have hd:=decide_eq_false hc)|(have hd:=decide_eq_true hc;(try(have hn:=Int.natCast_pos.mp hc;have hm:=decide_eq_true hn;replace hn:=eq_true hn));first|(obtain⟨g_,e_,i_⟩:=ew (by assumption) (by first|assumption|decide) hc;cases e_)|(obtain⟨a_,e_,c_⟩:=er (by assumption) (by first|assumption|decide) hc;cases e_))|(have hd:=decide_eq_true hc)|skip)|((with_reducible replace h:=eu h);obtain⟨hl_,h⟩:=h;replace hl_:=A_ hl_;(try dsimp only at h))))));(repeat' first|((with_reducible replace h:=cG h);rcases h with ⟨hc,h⟩|⟨hc,h⟩<;>first|exact(none_some h).elim|exact absurd hc (by decide)|subst hc|(replace hc:=br hc;subst hc)|(replace hc:=ey hc;subst hc)|(replace hc:=hH_ hc;subst hc)|(have hd:(_==_)=true:=hc)|(have hd:(_==_)=false:=br hc)|(have hd:=hI_ hc;have he:=cD hc;clear hc)|(have hd:=cE hc;have he:=hL_ hc)|(have hd:=decide_eq_false hc)|(have hd:=decide_eq_true hc;(try(have hn:=Int.natCast_pos.mp hc;have hm:=decide_eq_true hn;replace hn:=eq_true hn));first|(obtain⟨g_,e_,i_⟩:=ew (by assumption) (by first|assumption|decide) hc;cases e_)|(obtain⟨a_,e_,c_⟩:=er (by assumption) (by first|assumption|decide) hc;cases e_))|(have hd:=decide_eq_true hc)|skip)|((with_reducible replace h:=eu h);obtain⟨hl_,h⟩:=h;replace hl_:=A_ hl_;(try dsimp only at h))))
 all_goals simp only[Option.some.injEq,Prod.mk.injEq]at h
 all_goals obtain⟨rfl,rfl,rfl,rfl⟩:=h
 all_goals refine bodyPost_ret (results_ct rfl _ _ _ _ _ (0,0) _ rfl a7.out Tryz.underlying27 rfl (by kernel_rfl)) rfl ?_
 all_goals exact⟨_,_,(by first|rfl|(simp_all;done)),(by first|exact cn|exact Kd.bM _ _ _ _ _|exact eB|exact irowFin' (by simp)),(by first|exact cn|exact Kd.bM _ _ _ _ _|exact eB|exact irowFin' (by simp)),From.out⟩
def il.l0:Nat→List Int→Int→List (ar)→Int→List Int→Option (List Int)
 |0,_,_,_,_,_=>none
 |k+1,x3,x4,sy,OV,BR=>if x4<OV then(if 0≤x4 then(if x4<(sy.length:Int)then(if 0≤((au sy x4).f1)then(if((au sy x4).f1)<(BR.length:Int)then(if 0≤((au sy x4).f0)then(if((au sy x4).f0)<(BR.length:Int)then((eZ.f k (rd BR ((au sy x4).f0)) ((au sy x4).f2) ((au sy x4).f3)).bind fun ai9=>(if(rd BR ((au sy x4).f1))=ai9 then(il.l0 k x3 (wrap64 (x4+1)) sy OV BR)else(if x3.length<17592186044416 then(il.l0 k (x3++[x4]) (wrap64 (x4+1)) sy OV BR)else(none))))else(none))else(none))else(none))else(none))else(none))else(none))else(some x3)
def il.f (k:Nat) (ak:List (ar)) (ax:Int) (aq:List Int):Option (List Int):=(some (([]:List Int):List Int)).bind fun XJ=>((fe.f k ak ax aq).bind fun ai8=>(if ai8=true then(il.l0 k XJ 0 ak ax aq)else(some XJ)))
def il.T8:Bool×List (List Nat×List Nat):=(true,[([],[]),([0],[0]),([],[]),([2],[2]),([1,3],[1,3]),([4],[4]),([],[]),([6],[6]),([],[]),([8],[8]),([7,9],[7,9]),([10],[10]),([],[]),([12],[12]),([],[]),([14],[14]),([11,13,15],[11,13,15]),([5,16],[5,16])])
def il.B8:List Nat:=[0,1,0,4,15,31,0,64,0,256,960,1984,0,4096,0,16384,65472,131071]
theorem il.tD:rtab .any (opsOf Tryz.f112 8)=il.T8:=by kernel_rfl
theorem il.sN:eN il.T8.2 il.B8=true:=by kernel_rfl
theorem il.calls (k:Nat) (aU:Option Addr) (c0_0:Nat) (ak:List (ar)) (ax:Int) (a6:Option Addr) (aW:Nat) (aq:List Int) (r:List Int) (w:World) (cp:Kd.C bl w aU ak.length ak) (cx:ak.length≤c0_0) (cv:Kd.C (Kd.int .i64) w a6 aq.length aq) (cA:aq.length≤aW) (h:il.f k ak ax aq=some r):
  Calls Tryz.prog 112 #[.agg #[.slice aU ak.length c0_0,.int .i64 ax,.slice a6 aq.length aW]] w fun e w'=>∃v0_:Value,e= .returned (v0_)∧Kd.R (Kd.int .i64) 3 w' w.heap.size (fun _=>True) v0_ r∧Below w.heap.size w w':=by
 have afe:=cg.mk cp;have afb:=az.mk cx;have aff:=cg.mk cv;have afc:=az.mk cA;clear cp cx cv cA;have arf:=pq.mk (e:=3) (t:=27) (by decide);have ard:=pq.mk (e:=3) (t:=110) (by decide);unfold il.f at h
 (try simp only[Option.bind_some]at h)
 have lR:=Tryz.underlying27;have yb:=Tryz.underlying110
 (repeat' first|((with_reducible replace h:=cG h);rcases h with ⟨hc,h⟩|⟨hc,h⟩<;>first|exact(none_some h).elim|exact absurd hc (by decide)|subst hc|(replace hc:=br hc;subst hc)|(replace hc:=ey hc;subst hc)|(replace hc:=hH_ hc;subst hc)|(have hd:(_==_)=true:=hc)|(have hd:(_==_)=false:=br hc)|(have hd:=hI_ hc;have he:=cD hc;clear hc)|(have hd:=cE hc;have he:=hL_ hc)|(have hd:=decide_eq_false hc)|(have hd:=decide_eq_true hc;(try(have hn:=Int.natCast_pos.mp hc;have hm:=decide_eq_true hn;replace hn:=eq_true hn));first|(obtain⟨g_,e_,i_⟩:=ew (by assumption) (by first|assumption|decide) hc;cases e_)|(obtain⟨a_,e_,c_⟩:=er (by assumption) (by first|assumption|decide) hc;cases e_)|(obtain⟨a_,e_,dC,dD,dE,dF⟩:=iC (cg.out (self:=by assumption)) _ (by first|assumption|decide) hc;cases e_;replace dC:=cK.mk dC;replace dD:=cK.mk dD;replace dE:=cK.mk dE;replace dF:=cK.mk dF))|(have hd:=decide_eq_true hc)|skip)|((with_reducible replace h:=eu h);obtain⟨hl_,h⟩:=h;replace hl_:=A_ hl_;(try dsimp only at h)))
 all_goals go_enter Tryz.func112,Tryz.ntmps112
 all_goals go_wp2_with ((first
  |((with_reducible refine gate_dst (N:=1) rfl ?_);refine bV #[.slice aU ak.length c0_0,.int .i64 ax,.slice a6 aq.length aW] 27 fun g1 w1 j1 j2 j3=> ?_)
  |((with_reducible refine gate_dst (N:=5) rfl ?_);refine bV #[.int .i64 0,.int .i64 0,.int .i64 0,.int .i64 0] 110 fun g5 w1 j1 j2 j3=> ?_)
  |((with_reducible refine gate_dst (N:=6) rfl ?_);refine Kd.iB (Kd.int .i64) _ 3 ?hg (N:=6) ?hd (xs:=([]:List Int)) (inner:=[]) (ok:=fun _=>True) (cU:=fun _=>True) ?hr ?hp (fun _ hk=>hk) trivial (Below.refl _ _) (Nat.le_refl _) (by simp) ?_;(case hd=>rfl);(case hg=>rfl);(case hr=>first|(go_simp;done)|(go_simp;rfl));(case hp=>exact(bf.none _ _));intro v5 w5 ho hb cT uz;obtain⟨A5,c5,rfl⟩:=Kd.dp ho;have j5:=gF.mk ho;have q5:=az.mk (pI j5);have j6:=aK.mk hb;clear cT uz ho hb)
  |(go_at_call 70;(try rw[hl_.out]);replace h:=bI h;obtain⟨t,A,h⟩:=h;(try dsimp only at h);refine(fe.calls _ _ _ _ _ _ _ _ _ _ Rd.out az.out Rd.out az.out A).mono ?_;rintro e w2 ⟨rfl,hb⟩;have jb:=aK.mk hb;clear A hb)
  |(refine qR (id:=8) (ds:=[]) (l:= #[false,false,false,false,false,false,false,false,false,false,false,false,false,false,false,false,false,false]) il.tD il.sN ?_;intro ag HW_ w3 jw u0 iu hHeld;refine qA 0 (some 22) ag ?_;refine qA 2 (some 24) ag ?_;refine qA 6 (some 28) ag ?_;refine qA 8 (some 30) ag ?_;refine qA 12 (some 34) ag ?_;refine qA 14 (some 36) ag ?_;refine qT 1 (some 23) ag HW_ hHeld ?_;refine qT 3 (some 25) ag HW_ hHeld ?_;refine qA 4 (some 26) ag ?_;refine qT 5 (some 27) ag HW_ hHeld ?_;refine qT 7 (some 29) ag HW_ hHeld ?_;refine qT 9 (some 31) ag HW_ hHeld ?_;refine qA 10 (some 32) ag ?_;refine qT 11 (some 33) ag HW_ hHeld ?_;refine qT 13 (some 35) ag HW_ hHeld ?_;refine qT 15 (some 37) ag HW_ hHeld ?_;replace h:=bI h;obtain⟨t,A,h⟩:=h;(try dsimp only at h);refine qC 16 38 Tryz.func134 ag fun K hK=> ?_;refine(eZ.calls _ _ _ _ _ _ A).mono ?_;rintro e w2 ⟨rfl,hb⟩;have jb:=aK.mk hb;clear A hb;refine⟨_,rfl,hK _ _ From.out fun hHeld=> ?_⟩;clear hK K;refine qN ?_;refine qA 17 (some 39) ag ?_;refine qD ag ?_)
  |((with_reducible refine jz (b:= .append) (xs:= #[.tmp 40,.tmp 42]) rfl ?_);at_builtin;refine Kd.R_append (Kd.int .i64) (w0:=w) w.heap.size rfl (.tmp 40) (.tmp 42) 25 3 (.int .i64 0) 8 rfl Tryz.underlying25 info3 rfl (by decide) (by omega) (.slice pY bA.length AG) bA aC [.int .i64 aC] (fun _=>True) (fun _=>False) rfl rfl ?aP (fun _ hk=>hk.elim) ?aF ?aO ?aB ?aS ?aL ?_;(case aP=>exact rfl);(case aO=>exact cn);(case aB=>exact From.out);(case aF=>exact(fun _ _=>trivial));(case aS=>exact(From.out (w0:=w)).size);(case aL=>omega);intro v7 w7 ho hb hg hat;have jg:=grE (cn (w:=w) (d:=(Kd.int .i64))) hg;obtain⟨A7,c7,rfl,j7⟩:=NP ho;have q7:=az.mk (pI j7);have jf:From w w7:=⟨hb⟩;have js:Sz w w7:=⟨hb.size⟩;clear ho hb hg hat));(repeat' first|((with_reducible replace h:=cG h);rcases h with ⟨hc,h⟩|⟨hc,h⟩<;>first|exact(none_some h).elim|exact absurd hc (by decide)|subst hc|(replace hc:=br hc;subst hc)|(replace hc:=ey hc;subst hc)|(replace hc:=hH_ hc;subst hc)|(have hd:(_==_)=true:=hc)|(have hd:(_==_)=false:=br hc)|(have hd:=hI_ hc;have he:=cD hc;clear hc)|(have hd:=cE hc;have he:=hL_ hc)|(have hd:=decide_eq_false hc)|(have hd:=decide_eq_true hc;(try(have hn:=Int.natCast_pos.mp hc;have hm:=decide_eq_true hn;replace hn:=eq_true hn));first|(obtain⟨g_,e_,i_⟩:=ew (by assumption) (by first|assumption|decide) hc;cases e_)|(obtain⟨a_,e_,c_⟩:=er (by assumption) (by first|assumption|decide) hc;cases e_)|(obtain⟨a_,e_,dC,dD,dE,dF⟩:=iC (cg.out (self:=by assumption)) _ (by first|assumption|decide) hc;cases e_;replace dC:=cK.mk dC;replace dD:=cK.mk dD;replace dE:=cK.mk dE;replace dF:=cK.mk dF))|(have hd:=decide_eq_true hc)|skip)|((with_reducible replace h:=eu h);obtain⟨hl_,h⟩:=h;replace hl_:=A_ hl_;(try dsimp only at h))))
 all_goals first
  |((try obtain rfl:=Option.some.inj h);go_ret;exact⟨(.slice _ _ _),rfl,(by first|exact cn|exact gV rfl|exact gV (by simp)|exact Kd.bM _ _ _ _ _|exact eB|exact irowFin' (by simp)),From.out⟩)
  |skip
 go_loopg [3,4] k (fun kq v3 v4 w'=>∃(bA:List Int) (aC:Int),v4= .int .i64 aC∧aj (il.l0 kq bA aC ak ax aq=some r)∧aj (kq≤k)∧aj (Kd.R (Kd.int .i64) 3 w' w.heap.size (fun _=>True) v3 bA)∧aj (w'.heap[g1]? =some (.cells #[(.slice aU ak.length c0_0),.int .i64 ax,(.slice a6 aq.length aW)] 27 (0,0)))∧aj (Below w.heap.size w w'))
 case atStart=>exact⟨_,_,(by first|rfl|(simp;done)),⟨h⟩,⟨Nat.le_refl _⟩,⟨by first|exact cn|exact gV rfl|exact gV (by simp)|exact Kd.bM _ _ _ _ _⟩,⟨a7.out⟩,⟨From.out⟩⟩
 case round=>
  clear h;obtain⟨bA,aC,rfl,HA,dh,bc,PX,HB⟩:=hrel;rcases gk with _|k1
  ·exact absurd HA.out (by simp[il.l0])
  have h:=HA.out;clear HA;simp only[il.l0]at h;obtain⟨pY,AG,rfl,MG⟩:=NP bc.out;have VL:=az.mk (pI MG);clear bc;have alc:=a7.mk PX.out;clear PX;have P7:From w wr:=⟨HB.out⟩;have QB:Sz w wr:=⟨HB.out.size⟩;clear HB
  (repeat' first|((with_reducible replace h:=cG h);rcases h with ⟨hc,h⟩|⟨hc,h⟩<;>first|exact(none_some h).elim|exact absurd hc (by decide)|subst hc|(replace hc:=br hc;subst hc)|(replace hc:=ey hc;subst hc)|(replace hc:=hH_ hc;subst hc)|(have hd:(_==_)=true:=hc)|(have hd:(_==_)=false:=br hc)|(have hd:=hI_ hc;have he:=cD hc;clear hc)|(have hd:=cE hc;have he:=hL_ hc)|(have hd:=decide_eq_false hc)|(have hd:=decide_eq_true hc;(try(have hn:=Int.natCast_pos.mp hc;have hm:=decide_eq_true hn;replace hn:=eq_true hn));first|(obtain⟨g_,e_,i_⟩:=ew (by assumption) (by first|assumption|decide) hc;cases e_)|(obtain⟨a_,e_,c_⟩:=er (by assumption) (by first|assumption|decide) hc;cases e_)|(obtain⟨a_,e_,dC,dD,dE,dF⟩:=iC (cg.out (self:=by assumption)) _ (by first|assumption|decide) hc;cases e_;replace dC:=cK.mk dC;replace dD:=cK.mk dD;replace dE:=cK.mk dE;replace dF:=cK.mk dF))|(have hd:=decide_eq_true hc)|skip)|((with_reducible replace h:=eu h);obtain⟨hl_,h⟩:=h;replace hl_:=A_ hl_;(try dsimp only at h)))
  all_goals go_wp2_with ((first
   |((with_reducible refine gate_dst (N:=1) rfl ?_);refine bV #[.slice aU ak.length c0_0,.int .i64 ax,.slice a6 aq.length aW] 27 fun g1 w1 j1 j2 j3=> ?_)
   |((with_reducible refine gate_dst (N:=5) rfl ?_);refine bV #[.int .i64 0,.int .i64 0,.int .i64 0,.int .i64 0] 110 fun g5 w1 j1 j2 j3=> ?_)
   |((with_reducible refine gate_dst (N:=6) rfl ?_);refine Kd.iB (Kd.int .i64) _ 3 ?hg (N:=6) ?hd (xs:=([]:List Int)) (inner:=[]) (ok:=fun _=>True) (cU:=fun _=>True) ?hr ?hp (fun _ hk=>hk) trivial (Below.refl _ _) (Nat.le_refl _) (by simp) ?_;(case hd=>rfl);(case hg=>rfl);(case hr=>first|(go_simp;done)|(go_simp;rfl));(case hp=>exact(bf.none _ _));intro v5 w5 ho hb cT uz;obtain⟨A5,c5,rfl⟩:=Kd.dp ho;have j5:=gF.mk ho;have q5:=az.mk (pI j5);have j6:=aK.mk hb;clear cT uz ho hb)
   |(go_at_call 70;(try rw[hl_.out]);replace h:=bI h;obtain⟨t,A,h⟩:=h;(try dsimp only at h);refine(fe.calls _ _ _ _ _ _ _ _ _ _ Rd.out az.out Rd.out az.out A).mono ?_;rintro e w2 ⟨rfl,hb⟩;have jb:=aK.mk hb;clear A hb)
   |(refine qR (id:=8) (ds:=[]) (l:= #[false,false,false,false,false,false,false,false,false,false,false,false,false,false,false,false,false,false]) il.tD il.sN ?_;intro ag HW_ w3 jw u0 iu hHeld;refine qA 0 (some 22) ag ?_;refine qA 2 (some 24) ag ?_;refine qA 6 (some 28) ag ?_;refine qA 8 (some 30) ag ?_;refine qA 12 (some 34) ag ?_;refine qA 14 (some 36) ag ?_;refine qT 1 (some 23) ag HW_ hHeld ?_;refine qT 3 (some 25) ag HW_ hHeld ?_;refine qA 4 (some 26) ag ?_;refine qT 5 (some 27) ag HW_ hHeld ?_;refine qT 7 (some 29) ag HW_ hHeld ?_;refine qT 9 (some 31) ag HW_ hHeld ?_;refine qA 10 (some 32) ag ?_;refine qT 11 (some 33) ag HW_ hHeld ?_;refine qT 13 (some 35) ag HW_ hHeld ?_;refine qT 15 (some 37) ag HW_ hHeld ?_;replace h:=bI h;obtain⟨t,A,h⟩:=h;(try dsimp only at h);refine qC 16 38 Tryz.func134 ag fun K hK=> ?_;refine(eZ.calls _ _ _ _ _ _ A).mono ?_;rintro e w2 ⟨rfl,hb⟩;have jb:=aK.mk hb;clear A hb;refine⟨_,rfl,hK _ _ From.out fun hHeld=> ?_⟩;clear hK K;refine qN ?_;refine qA 17 (some 39) ag ?_;refine qD ag ?_)
   |((with_reducible refine jz (b:= .append) (xs:= #[.tmp 40,.tmp 42]) rfl ?_);at_builtin;refine Kd.R_append (Kd.int .i64) (w0:=w) w.heap.size rfl (.tmp 40) (.tmp 42) 25 3 (.int .i64 0) 8 rfl Tryz.underlying25 info3 rfl (by decide) (by omega) (.slice pY bA.length AG) bA aC [.int .i64 aC] (fun _=>True) (fun _=>False) rfl rfl ?aP (fun _ hk=>hk.elim) ?aF ?aO ?aB ?aS ?aL ?_;(case aP=>exact rfl);(case aO=>exact cn);(case aB=>exact From.out);(case aF=>exact(fun _ _=>trivial));(case aS=>exact(From.out (w0:=w)).size);(case aL=>omega);intro v7 w7 ho hb hg hat;have jg:=grE (cn (w:=w) (d:=(Kd.int .i64))) hg;obtain⟨A7,c7,rfl,j7⟩:=NP ho;have q7:=az.mk (pI j7);have jf:From w w7:=⟨hb⟩;have js:Sz w w7:=⟨hb.size⟩;clear ho hb hg hat));(repeat' first|((with_reducible replace h:=cG h);rcases h with ⟨hc,h⟩|⟨hc,h⟩<;>first|exact(none_some h).elim|exact absurd hc (by decide)|subst hc|(replace hc:=br hc;subst hc)|(replace hc:=ey hc;subst hc)|(replace hc:=hH_ hc;subst hc)|(have hd:(_==_)=true:=hc)|(have hd:(_==_)=false:=br hc)|(have hd:=hI_ hc;have he:=cD hc;clear hc)|(have hd:=cE hc;have he:=hL_ hc)|(have hd:=decide_eq_false hc)|(have hd:=decide_eq_true hc;(try(have hn:=Int.natCast_pos.mp hc;have hm:=decide_eq_true hn;replace hn:=eq_true hn));first|(obtain⟨g_,e_,i_⟩:=ew (by assumption) (by first|assumption|decide) hc;cases e_)|(obtain⟨a_,e_,c_⟩:=er (by assumption) (by first|assumption|decide) hc;cases e_)|(obtain⟨a_,e_,dC,dD,dE,dF⟩:=iC (cg.out (self:=by assumption)) _ (by first|assumption|decide) hc;cases e_;replace dC:=cK.mk dC;replace dD:=cK.mk dD;replace dE:=cK.mk dE;replace dF:=cK.mk dF))|(have hd:=decide_eq_true hc)|skip)|((with_reducible replace h:=eu h);obtain⟨hl_,h⟩:=h;replace hl_:=A_ hl_;(try dsimp only at h))))
  all_goals first
   |(go_roundg k1;(case measure=>have:=dh.out;omega);(case rel=>exact⟨_,_,(by first|rfl|(simp;done)),⟨h⟩,⟨by have:=dh.out;omega⟩,⟨by first|exact cn|exact gV rfl|exact gV (by simp)|exact Kd.bM _ _ _ _ _⟩,⟨a7.out⟩,⟨From.out⟩⟩))
   |((try obtain rfl:=Option.some.inj h);go_ret;exact⟨(.slice _ _ _),rfl,(by first|exact cn|exact gV rfl|exact gV (by simp)|exact Kd.bM _ _ _ _ _|exact eB|exact irowFin' (by simp)),From.out⟩)
end Go.Proofs.YtnjfiaekdcekgaaGreatDoor.P
