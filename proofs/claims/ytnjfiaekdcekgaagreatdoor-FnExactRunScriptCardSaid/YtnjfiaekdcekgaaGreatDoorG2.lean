/- What functions of the program come to (f), that their calls come to just this (calls), and the plain laws over lists and numbers. No condition but those of the given row. -/
import Derived.Test.YtnjfiaekdcekgaaGreatDoorG1
import Derived.Maps.RangeWalk
import Derived.Maps.OwnSet
import Derived.Maps.OwnOps
import Derived.Maps.Ext
import Derived.DeepKeys5
import Derived.Deep.RegionHeld3
import Derived.Lib.AppendIntMem
import Derived.StringKeys
import Derived.WalkSmall
set_option linter.unusedVariables false
set_option linter.unusedSimpArgs false
namespace Go.Proofs.YtnjfiaekdcekgaaGreatDoor
namespace P
set_option maxHeartbeats 8000000
set_option maxRecDepth 100000
open Go.RowKit WW.bq WW.cg WW.cd
attribute [local go_sem] cN cR cQ cU cP cT cO cS
mutual
def cB.l0:Nat→ByteArray→List ByteArray→Int→Int→Option (List ByteArray×Bool)
 |0,_,_,_,_=>none
 |k+1,x0,z,D,u=>if u≤(x0.size:Int)then(if u<(x0.size:Int)then(if 0≤u then(if(bt x0 u)<32 then(cB.j1 k x0 z D u true)else(cB.j1 k x0 z D u (decide ((bt x0 u)>126))))else(none))else(cB.j1 k x0 z D u false))else(if(z.length:Int)>24 then(some ((([]:List ByteArray)),false))else(some (z,true)))
def cB.j1:Nat→ByteArray→List ByteArray→Int→Int→Bool→Option (List ByteArray×Bool)
 |0,_,_,_,_,_=>none
 |k+1,x0,z,D,u,F=>if F=true then(some ((([]:List ByteArray)),false))else(if u<(x0.size:Int)then(if 0≤u then(cB.j2 k x0 z D u ((bt x0 u) != 32))else(none))else(cB.j2 k x0 z D u false))
def cB.j2:Nat→ByteArray→List ByteArray→Int→Int→Bool→Option (List ByteArray×Bool)
 |0,_,_,_,_,_=>none
 |k+1,x0,D,z,u,F=>if F=true then(cB.l0 k x0 D z (wrap64 (u+1)))else(if z<u then(if 0≤z then(if z≤u then(if u≤(x0.size:Int)then(if D.length<8796093022208 then(cB.l0 k x0 (D++[x0.extract (z:Int).toNat (u:Int).toNat]) (wrap64 (u+1)) (wrap64 (u+1)))else(none))else(none))else(none))else(none))else(cB.l0 k x0 D (wrap64 (u+1)) (wrap64 (u+1))))
end
def cB.f (k:Nat) (a0:ByteArray):Option (List ByteArray×Bool):=(some (([]:List ByteArray):List ByteArray)).bind fun u=>(if(a0.size:Int)>600 then(some (u,false))else(cB.l0 k a0 u 0 0))
theorem cB.c (k:Nat) (a0:ByteArray) (r1:List ByteArray) (r2:Bool) (w:World) (h:cB.f k a0=some (r1,r2)):
  Calls Tryz.prog 45 #[.string a0] w fun e w'=>∃bf:Value,e= .returned (.tuple #[bf,.bool r2])∧Kd.R Kd.string 9 w' w.heap.size (fun _=>True) bf r1∧Below w.heap.size w w':=by
 have z:=A_ (Below.refl w.heap.size w);have H:((some (([]:List ByteArray):List ByteArray)).bind fun aw=>(if(a0.size:Int)>600 then(some (aw,false))else(cB.l0 k a0 aw 0 0)))=some (r1,r2):=h;clear h;obtain⟨aw,aM⟩:∃ak:List ByteArray,ak=(([]:List ByteArray)):=⟨_,rfl⟩;replace H:(if(a0.size:Int)>600 then(some (aw,false))else(cB.l0 k a0 aw 0 0))=some (r1,r2):=by first|(rw[aM];with_reducible exact H)|(have I:=(aG _ _).symm.trans H;rw[aM];with_reducible exact I)|(have I:=(aG _ _).symm.trans H;with_reducible exact I)|with_reducible exact H|(rw[aM];exact H)|exact H
 have aU:=A_ aM;clear aM;by_cases c2:(a0.size:Int)>600
 ·rw[af c2]at H;have aW:decide (600<(a0.size:Int))=true:=ah c2;have aX:decide (600<a0.size)=true:=ah (by omega);clear c2;simp only[Option.some.injEq,Prod.mk.injEq]at H;obtain⟨rfl,rfl⟩:=H;go_enter Tryz.func45,Tryz.ntmps45
  go_wp2_with (first|((with_reducible refine ax (N:=7) rfl ?_);refine Kd.cx Kd.string _ 9 ?hg (N:=7) ?hd (xs:=([]:List ByteArray)) (inner:=[]) (ok:=fun _=>True) (bB:=fun _=>True) ?hr ?hp (fun _ hk=>hk) trivial (Below.refl _ _) (Nat.le_refl _) (by simp) ?_;(case hd=>rfl);(case hg=>rfl);(case hr=>first|(go_simp;done)|(go_simp;rfl));(case hp=>exact(aI.none _ _));intro bD w3 aJ hb ai aj;clear ai aj;(first|rw[←aU.out]at aJ|(simp only[Int.reduceToNat]at aJ;rw[←aU.out]at aJ));have J:=A_ (Kd.bE aJ (aA (oB z)));have K:=A_ (aC (oB z) hb);clear z;have a6:=J;have z:=K;clear J K hb aJ))
  go_ret2;exact⟨_,eR,oR a6,oB z⟩
 ·rw[ag c2]at H;have aW:decide (600<(a0.size:Int))=false:=ay c2;have aX:decide (600<a0.size)=false:=ay (by omega);clear c2;have H':=A_ H;clear H;go_enter Tryz.func45,Tryz.ntmps45
  go_wp2_with (first|((with_reducible refine ax (N:=7) rfl ?_);refine Kd.cx Kd.string _ 9 ?hg (N:=7) ?hd (xs:=([]:List ByteArray)) (inner:=[]) (ok:=fun _=>True) (bB:=fun _=>True) ?hr ?hp (fun _ hk=>hk) trivial (Below.refl _ _) (Nat.le_refl _) (by simp) ?_;(case hd=>rfl);(case hg=>rfl);(case hr=>first|(go_simp;done)|(go_simp;rfl));(case hp=>exact(aI.none _ _));intro bD bZ aK hb ai aj;clear ai aj;(first|rw[←aU.out]at aK|(simp only[Int.reduceToNat]at aK;rw[←aU.out]at aK));have J:=A_ (Kd.bE aK (aA (oB z)));have K:=A_ (aC (oB z) hb);clear z;have a6:=J;have z:=K;clear J K hb aK))
  go_loopg [4,5,6] k (fun O v4 v5 v6 w'=>∃(F:List ByteArray) (G:Int) (u:Int),v5= .int .i64 G∧v6= .int .i64 u∧ae (cB.l0 O a0 F G u=some (r1,r2))∧ae (O≤k)∧ae (Kd.R Kd.string 9 w' w.heap.size (fun _=>True) v4 F)∧ae (Below w.heap.size w w'))
  case atStart=>exact⟨(aw),(0),(0),eS,eS,H',⟨Nat.le_refl _⟩,⟨oR a6⟩,⟨oB z⟩⟩
  case round=>
   clear H'
   try clear c2
   try clear aW
   try clear aX
   try clear p2
   try clear c4
   obtain⟨F,G,u,rfl,rfl,U,V,D,z⟩:=hrel;cases gk with
   |zero=>exact absurd U.out (by simp[cB.l0])
   |succ k1=>
    have H:=U.out;clear U;simp only[cB.l0]at H;by_cases c7:u≤(a0.size:Int)
    ·rw[af c7]at H;have a9:decide (u≤(a0.size:Int))=true:=ah c7;clear c7;have a5:=A_ H;clear H
     go_upto_region 8 with (fail)
     go_cut [33] (fun v33 wc=>∃(O:Nat) (a2:Bool),v33= .bool a2∧ae (cB.j1 O a0 F G u a2=some (r1,r2))∧ae (O≤k1)∧ae (Kd.R Kd.string 9 wc w.heap.size (fun _=>True) u4 F)∧ae (Below w.heap.size w wc))
     case first=>
      have H:=a5.out;clear a5;by_cases c9:u<(a0.size:Int)
      ·rw[af c9]at H;have ad:decide (u<(a0.size:Int))=true:=ah c9;clear c9
       (first|rw[ad]|(simp only[bG,bN];rw[ad])|skip)
       by_cases c10:0≤u
       ·rw[af c10]at H;have bd:decide (0≤u)=true:=ah c10;clear c10;by_cases c12:(bt a0 u)<32
        ·rw[af c12]at H;have a7:decide ((bt a0 u)<32)=true:=ah c12;clear c12;have H':=A_ H;clear H;have X:0≤(u:Int):=oD;have Y:u<(a0.size:Int):=oD;have a_:=gm a0 u;replace X:=av X;replace Y:=av Y;go_wp2
         go_meet
         case rel=>exact⟨_,(true),eS,H',⟨by have:=V.out;first|omega|exact Nat.le_refl _⟩,⟨oR D⟩,⟨oB z⟩⟩
        ·rw[ag c12]at H;have a7:decide ((bt a0 u)<32)=false:=ay c12;clear c12;have H':=A_ H;clear H;have X:0≤(u:Int):=oD;have Y:u<(a0.size:Int):=oD;have a_:=gm a0 u;replace X:=av X;replace Y:=av Y;have ar:0≤(u:Int):=oD;have au:u<(a0.size:Int):=oD;have be:=gm a0 u;replace ar:=av ar;replace au:=av au;go_wp2
         go_meet
         case rel=>exact⟨_,(decide ((bt a0 u)>126)),eS,H',⟨by have:=V.out;first|omega|exact Nat.le_refl _⟩,⟨oR D⟩,⟨oB z⟩⟩
       ·rw[ag c10]at H;exact absurd H (by simp)
      ·rw[ag c9]at H;have ad:decide (u<(a0.size:Int))=false:=ay c9;clear c9
       (first|rw[ad]|(simp only[bG,bN];rw[ad])|skip)
       have H':=A_ H;clear H;go_wp2
       go_meet
       case rel=>exact⟨_,(false),eS,H',⟨by have:=V.out;first|omega|exact Nat.le_refl _⟩,⟨oR D⟩,⟨oB z⟩⟩
     case rest=>
      clear a5
      try clear c1
      try clear p1
      try clear q1
      try clear hx1
      try clear c2
      try clear aW
      try clear aX
      try clear p2
      try clear c4
      try clear c7
      try clear a9
      try clear c9
      try clear ad
      try clear c10
      try clear bd
      try clear X
      try clear Y
      try clear a_
      try clear c12
      try clear a7
      try clear ar
      try clear au
      try clear be
      try clear X
      try clear ar
      try clear p2
      try clear Y
      try clear au
      obtain⟨O,a2,rfl,U,Z,D,z⟩:=hcut;cases O with
      |zero=>exact absurd U.out (by simp[cB.j1])
      |succ bC=>
       have H:=U.out;clear U;simp only[cB.j1]at H;by_cases c14:a2=true
       ·subst c14;rw[af rfl]at H;obtain⟨bH,aQ⟩:∃ak:List ByteArray,ak=(([]:List ByteArray)):=⟨_,rfl⟩;replace H:(some (bH,false))=some (r1,r2):=by first|(rw[aQ];with_reducible exact H)|(have I:=(aG _ _).symm.trans H;rw[aQ];with_reducible exact I)|(have I:=(aG _ _).symm.trans H;with_reducible exact I)|with_reducible exact H|(rw[aQ];exact H)|exact H
        have bc:=A_ aQ;clear aQ;simp only[Option.some.injEq,Prod.mk.injEq]at H;obtain⟨rfl,rfl⟩:=H
        go_wp2_with (first|((with_reducible refine ax (N:=34) rfl ?_);refine Kd.cx Kd.string _ 9 ?hg (N:=34) ?hd (xs:=([]:List ByteArray)) (inner:=[]) (ok:=fun _=>True) (bB:=fun _=>True) ?hr ?hp (fun _ hk=>hk) trivial (Below.refl _ _) (Nat.le_refl _) (by simp) ?_;(case hd=>rfl);(case hg=>rfl);(case hr=>first|(go_simp;done)|(go_simp;rfl));(case hp=>exact(aI.none _ _));intro bU bW ap hb ai aj;clear ai aj;(first|rw[←bc.out]at ap|(simp only[Int.reduceToNat]at ap;rw[←bc.out]at ap));have J:=A_ (Kd.dZ (oR D) (Kd.dr ap) hb);have K:=A_ (Kd.bE (Kd.fl ap (Kd.en (oR D))) (aA (oB z)));have aT:=A_ (aC (oB z) hb);clear D z;have D:=J;have bk:=K;have z:=aT;clear J K aT hb ap))
        go_ret2;exact⟨_,eR,by(with_reducible repeat(first|apply Kd.bm|apply Kd.br|apply Kd.a8));exact Kd.bh bk.out (fun _ hk=>trivial),oB z⟩
       ·replace c14:=Bool.eq_false_iff.mpr c14;subst c14;rw[ag (show¬(false=true)by decide)]at H;have a4:=A_ H;clear H
        go_upto_region 10 with (fail)
        go_cut [44] (fun v44 wc=>∃(O:Nat) (a3:Bool),v44= .bool a3∧ae (cB.j2 O a0 F G u a3=some (r1,r2))∧ae (O≤bC)∧ae (Kd.R Kd.string 9 wc w.heap.size (fun _=>True) u4 F)∧ae (Below w.heap.size w wc))
        case first=>
         have H:=a4.out;clear a4;by_cases c18:u<(a0.size:Int)
         ·rw[af c18]at H;have am:decide (u<(a0.size:Int))=true:=ah c18;clear c18
          (first|rw[am]|(simp only[bG,bN];rw[am])|skip)
          by_cases c19:0≤u
          ·rw[af c19]at H;have bq:decide (0≤u)=true:=ah c19;clear c19;have H':=A_ H;clear H;have aZ:0≤(u:Int):=oD;have a1:u<(a0.size:Int):=oD;have bA:=gm a0 u;replace aZ:=av aZ;replace a1:=av a1;go_wp2
           go_meet
           case rel=>exact⟨_,(((bt a0 u) != 32)),eS,H',⟨by have:=V.out;have:=Z.out;first|omega|exact Nat.le_refl _⟩,⟨oR D⟩,⟨oB z⟩⟩
          ·rw[ag c19]at H;exact absurd H (by simp)
         ·rw[ag c18]at H;have am:decide (u<(a0.size:Int))=false:=ay c18;clear c18
          (first|rw[am]|(simp only[bG,bN];rw[am])|skip)
          have H':=A_ H;clear H;go_wp2
          go_meet
          case rel=>exact⟨_,(false),eS,H',⟨by have:=V.out;have:=Z.out;first|omega|exact Nat.le_refl _⟩,⟨oR D⟩,⟨oB z⟩⟩
        case rest=>
         clear a4
         try clear c1
         try clear p1
         try clear q1
         try clear hx1
         try clear c2
         try clear aW
         try clear aX
         try clear p2
         try clear q2
         try clear hx2
         try clear c4
         try clear c7
         try clear a9
         try clear c9
         try clear ad
         try clear c10
         try clear bd
         try clear X
         try clear Y
         try clear a_
         try clear c12
         try clear a7
         try clear ar
         try clear au
         try clear be
         try clear c14
         try clear c18
         try clear am
         try clear c19
         try clear bq
         try clear aZ
         try clear a1
         try clear bA
         try clear p1
         try clear X
         try clear ar
         try clear p2
         try clear aZ
         try clear q1
         try clear Y
         try clear au
         try clear a1
         obtain⟨O,a3,rfl,U,al,D,z⟩:=hcut;cases O with
         |zero=>exact absurd U.out (by simp[cB.j2])
         |succ aY=>
          have H:=U.out;clear U;simp only[cB.j2]at H;by_cases c21:a3=true
          ·subst c21;rw[af rfl]at H;have H':=A_ H;clear H;go_wp2
           go_roundg aY
           case measure=>have:=V.out;have:=Z.out;have:=al.out;omega
           case rel=>exact⟨(F),(G),(wrap64 (u+1)),eS,eS,H',⟨by have:=V.out;have:=Z.out;have:=al.out;omega⟩,⟨oR D⟩,⟨oB z⟩⟩
          ·replace c21:=Bool.eq_false_iff.mpr c21;subst c21;rw[ag (show¬(false=true)by decide)]at H;by_cases ao:G<u
           ·rw[af ao]at H;have bs:decide (G<u)=true:=ah ao;clear ao;by_cases az:0≤G
            ·rw[af az]at H;have bK:=av az;have bL:decide (0≤G)=true:=ah az;clear az;by_cases c24:G≤u
             ·rw[af c24]at H;have bM:=av c24;have bO:decide (G≤u)=true:=ah c24;clear c24;by_cases aE:u≤(a0.size:Int)
              ·rw[af aE]at H;have bP:=av aE;have bQ:decide (u≤(a0.size:Int))=true:=ah aE;clear aE;by_cases aV:F.length<8796093022208
               ·rw[af aV]at H;have bo:=A_ aV;clear aV;obtain⟨bg,aR⟩:∃ak:List ByteArray,ak=(F++[a0.extract (G:Int).toNat (u:Int).toNat]):=⟨_,rfl⟩;replace H:(cB.l0 aY a0 bg (wrap64 (u+1)) (wrap64 (u+1)))=some (r1,r2):=by first|(rw[aR];with_reducible exact H)|(have I:=(aG _ _).symm.trans H;rw[aR];with_reducible exact I)|(have I:=(aG _ _).symm.trans H;with_reducible exact I)|with_reducible exact H|(rw[aR];exact H)|exact H
                have bp:=A_ aR;clear aR;have H':=A_ H;clear H
                go_wp2_with (first|((with_reducible refine dP (b:= .append) (xs:= #[.tmp 48,.tmp 53]) rfl ?_);at_builtin;refine Kd.eF Kd.string (w0:=w) w.heap.size rfl (.tmp 48) (.tmp 53) 38 9 (.string ⟨#[]⟩) 16 rfl Tryz.underlying38 ld rfl (by decide) (by omega) u4 F (a0.extract (G:Int).toNat (u:Int).toNat) [.string (a0.extract (G:Int).toNat (u:Int).toNat)] (fun _=>True) (fun _=>False) rfl rfl ?aP (fun _ hk=>hk.elim) ?aF ?aO ?aB ?aS ?aL ?_;(case aP=>exact rfl);(case aB=>exact(oB z));(case aF=>exact(fun _ _=>trivial));(case aO=>exact(oR D));(case aS=>exact(aA (oB z)));(case aL=>have:=bo.out;omega);intro bV bX ho hb hg hat;rw[←bp.out]at ho;have J:=A_ (hb);have K:=A_ (ho);clear z D;have z:=J;have bn:=K;clear J K ho hb hg hat))
                go_roundg aY
                case measure=>have:=V.out;have:=Z.out;have:=al.out;omega
                case rel=>exact⟨(bg),(wrap64 (u+1)),(wrap64 (u+1)),eS,eS,H',⟨by have:=V.out;have:=Z.out;have:=al.out;omega⟩,⟨oR bn⟩,⟨oB z⟩⟩
               ·rw[ag aV]at H;exact absurd H (by simp)
              ·rw[ag aE]at H;exact absurd H (by simp)
             ·rw[ag c24]at H;exact absurd H (by simp)
            ·rw[ag az]at H;exact absurd H (by simp)
           ·rw[ag ao]at H;have bs:decide (G<u)=false:=ay ao;clear ao;have H':=A_ H;clear H;go_wp2
            go_roundg aY
            case measure=>have:=V.out;have:=Z.out;have:=al.out;omega
            case rel=>exact⟨(F),(wrap64 (u+1)),(wrap64 (u+1)),eS,eS,H',⟨by have:=V.out;have:=Z.out;have:=al.out;omega⟩,⟨oR D⟩,⟨oB z⟩⟩
    ·rw[ag c7]at H;have a9:decide (u≤(a0.size:Int))=false:=ay c7;clear c7;by_cases c28:(F.length:Int)>24
     ·rw[af c28]at H;have bu:decide (24<(F.length:Int))=true:=ah c28;have bv:decide (24<F.length)=true:=ah (by omega);clear c28;obtain⟨bF,aN⟩:∃ak:List ByteArray,ak=(([]:List ByteArray)):=⟨_,rfl⟩;replace H:(some (bF,false))=some (r1,r2):=by first|(rw[aN];with_reducible exact H)|(have I:=(aG _ _).symm.trans H;rw[aN];with_reducible exact I)|(have I:=(aG _ _).symm.trans H;with_reducible exact I)|with_reducible exact H|(rw[aN];exact H)|exact H
      have bb:=A_ aN;clear aN;simp only[Option.some.injEq,Prod.mk.injEq]at H;obtain⟨rfl,rfl⟩:=H;obtain⟨bI,bR,bw⟩:=Kd.bz D.out;subst bw
      go_wp2_with (first|((with_reducible refine ax (N:=60) rfl ?_);refine Kd.cx Kd.string _ 9 ?hg (N:=60) ?hd (xs:=([]:List ByteArray)) (inner:=[]) (ok:=fun _=>True) (bB:=fun _=>True) ?hr ?hp (fun _ hk=>hk) trivial (Below.refl _ _) (Nat.le_refl _) (by simp) ?_;(case hd=>rfl);(case hg=>rfl);(case hr=>first|(go_simp;done)|(go_simp;rfl));(case hp=>exact(aI.none _ _));intro bT bY aq hb ai aj;clear ai aj;(first|rw[←bb.out]at aq|(simp only[Int.reduceToNat]at aq;rw[←bb.out]at aq));have J:=A_ (Kd.dZ (oR D) (Kd.dr aq) hb);have K:=A_ (Kd.bE (Kd.fl aq (Kd.en (oR D))) (aA (oB z)));have aT:=A_ (aC (oB z) hb);clear D z;have D:=J;have bj:=K;have z:=aT;clear J K aT hb aq))
      go_ret2;exact⟨_,eR,by(with_reducible repeat(first|apply Kd.bm|apply Kd.br|apply Kd.a8));exact Kd.bh bj.out (fun _ hk=>trivial),oB z⟩
     ·rw[ag c28]at H;have bu:decide (24<(F.length:Int))=false:=ay c28;have bv:decide (24<F.length)=false:=ay (by omega);clear c28;simp only[Option.some.injEq,Prod.mk.injEq]at H;obtain⟨rfl,rfl⟩:=H;obtain⟨bJ,bS,bx⟩:=Kd.bz D.out;subst bx;go_wp2;go_ret2;exact⟨_,eR,oR D,oB z⟩
def gy.l0:Nat→ByteArray→Int→Int→Option (Int×Bool)
 |0,_,_,_=>none
 |k+1,x0,z,u=>if u<(x0.size:Int)then(if 0≤u then(if(bt x0 u)<48 then(some (0,false))else(if(bt x0 u)>57 then(some (0,false))else(gy.l0 k x0 (wrap64 ((wrap64 ((wrap64 (10*z))+(wrap64 (bt x0 u))))-48)) (wrap64 (u+1)))))else(none))else(if z>1000000000 then(some (0,false))else((cY.f k z).bind fun D=>(if D.toList=x0.toList then(some (z,true))else(some (0,false)))))
def gy.f (k:Nat) (a0:ByteArray):Option (Int×Bool):=if(a0.size:Int)>10 then(some (0,false))else(gy.l0 k a0 0 0)
theorem gy.c (k:Nat) (a0:ByteArray) (r1:Int) (r2:Bool) (w:World) (h:gy.f k a0=some (r1,r2)):
  Calls Tryz.prog 129 #[.string a0] w fun e w'=>e= .returned (.tuple #[.int .i64 r1,.bool r2])∧Below w.heap.size w w':=by
 have z:=A_ (Below.refl w.heap.size w);have H:(if(a0.size:Int)>10 then(some (0,false))else(gy.l0 k a0 0 0))=some (r1,r2):=h;clear h;by_cases c2:(a0.size:Int)>10
 ·rw[af c2]at H;have Y:decide (10<(a0.size:Int))=true:=ah c2;have Z:decide (10<a0.size)=true:=ah (by omega);clear c2;simp only[Option.some.injEq,Prod.mk.injEq]at H;obtain⟨rfl,rfl⟩:=H;go_enter Tryz.func129,Tryz.ntmps129;go_wp2;go_ret2;exact⟨eR,oB z⟩
 ·rw[ag c2]at H;have Y:decide (10<(a0.size:Int))=false:=ay c2;have Z:decide (10<a0.size)=false:=ay (by omega);clear c2;have H':=A_ H;clear H;go_enter Tryz.func129,Tryz.ntmps129;go_wp2
  go_loopg [4,5] k (fun ai v4 v5 w'=>∃(D:Int) (u:Int),v4= .int .i64 D∧v5= .int .i64 u∧ae (gy.l0 ai a0 D u=some (r1,r2))∧ae (ai≤k)∧ae (Below w.heap.size w w'))
  case atStart=>exact⟨(0),(0),eS,eS,H',⟨Nat.le_refl _⟩,⟨oB z⟩⟩
  case round=>
   clear H'
   try clear c1
   try clear c2
   try clear Y
   try clear Z
   try clear p2
   obtain⟨D,u,rfl,rfl,O,X,z⟩:=hrel;cases gk with
   |zero=>exact absurd O.out (by simp[gy.l0])
   |succ k1=>
    have H:=O.out;clear O;simp only[gy.l0]at H;by_cases c3:u<(a0.size:Int)
    ·rw[af c3]at H;have ap:decide (u<(a0.size:Int))=true:=ah c3;clear c3;by_cases c4:0≤u
     ·rw[af c4]at H;have aw:decide (0≤u)=true:=ah c4;clear c4;by_cases c6:(bt a0 u)<48
      ·rw[af c6]at H;have aq:decide ((bt a0 u)<48)=true:=ah c6;clear c6;simp only[Option.some.injEq,Prod.mk.injEq]at H;obtain⟨rfl,rfl⟩:=H;have F:0≤(u:Int):=oD;have q5:u<(a0.size:Int):=oD;have ad:=gm a0 u;replace F:=av F;replace q5:=av q5;go_wp2;go_ret2;exact⟨eR,oB z⟩
      ·rw[ag c6]at H;have aq:decide ((bt a0 u)<48)=false:=ay c6;clear c6;by_cases c8:(bt a0 u)>57
       ·rw[af c8]at H;have ar:decide (57<(bt a0 u))=true:=ah c8;clear c8;simp only[Option.some.injEq,Prod.mk.injEq]at H;obtain⟨rfl,rfl⟩:=H;have F:0≤(u:Int):=oD;have q5:u<(a0.size:Int):=oD;have ad:=gm a0 u;replace F:=av F;replace q5:=av q5;have J:0≤(u:Int):=oD;have K:u<(a0.size:Int):=oD;have au:=gm a0 u;replace J:=av J;replace K:=av K;go_wp2;go_ret2;exact⟨eR,oB z⟩
       ·rw[ag c8]at H;have ar:decide (57<(bt a0 u))=false:=ay c8;clear c8;have H':=A_ H;clear H;have F:0≤(u:Int):=oD;have q5:u<(a0.size:Int):=oD;have ad:=gm a0 u;replace F:=av F;replace q5:=av q5;have J:0≤(u:Int):=oD;have K:u<(a0.size:Int):=oD;have au:=gm a0 u;replace J:=av J;replace K:=av K;have aj:0≤(u:Int):=oD;have ak:u<(a0.size:Int):=oD;have ax:=gm a0 u;replace aj:=av aj;replace ak:=av ak;go_wp2
        go_roundg k1
        case measure=>have:=X.out;omega
        case rel=>exact⟨(wrap64 ((wrap64 ((wrap64 (10*D))+(wrap64 (bt a0 u))))-48)),(wrap64 (u+1)),eS,eS,H',⟨by have:=X.out;omega⟩,⟨oB z⟩⟩
     ·rw[ag c4]at H;exact absurd H (by simp)
    ·rw[ag c3]at H;have ap:decide (u<(a0.size:Int))=false:=ay c3;clear c3;by_cases c10:D>1000000000
     ·rw[af c10]at H;have al:decide (1000000000<D)=true:=ah c10;clear c10;simp only[Option.some.injEq,Prod.mk.injEq]at H;obtain⟨rfl,rfl⟩:=H;go_wp2;go_ret2;exact⟨eR,oB z⟩
     ·rw[ag c10]at H;have al:decide (1000000000<D)=false:=ay c10;clear c10;replace H:=aD H;obtain⟨G,V,H⟩:=H
      (try dsimp only at H)
      have U:=A_ V;clear V;by_cases c12:G.toList=a0.toList
      ·rw[af c12]at H;have am:(G.toList==a0.toList)=true:=beq_iff_eq.mpr c12;have ao:(G.toList != a0.toList)=false:=bne_eq_false_iff_eq.mpr c12;clear c12;simp only[Option.some.injEq,Prod.mk.injEq]at H;obtain⟨rfl,rfl⟩:=H
       go_wp2_with (first|(go_at_call 35;(with_reducible refine(cY.c k1 D G _ U.out).mono ?_);rintro e az ⟨rfl,hb⟩;have I:=A_ (aC (oB z) hb);clear z;have z:=I;clear I;(try clear hb);(try clear hb2);(try clear hk);(try clear hi)))
       go_ret2;exact⟨eR,oB z⟩
      ·rw[ag c12]at H;have am:(G.toList==a0.toList)=false:=beq_eq_false_iff_ne.mpr c12;have ao:(G.toList != a0.toList)=true:=bne_iff_ne.mpr c12;simp only[Option.some.injEq,Prod.mk.injEq]at H;obtain⟨rfl,rfl⟩:=H
       go_wp2_with (first|(go_at_call 35;(with_reducible refine(cY.c k1 D G _ U.out).mono ?_);rintro e aA ⟨rfl,hb⟩;have I:=A_ (aC (oB z) hb);clear z;have z:=I;clear I;(try clear hb);(try clear hb2);(try clear hk);(try clear hi)))
       go_ret2;exact⟨eR,oB z⟩
def ic.j0:Nat→ByteArray→Bool→Option (Int)
 |0,_,_=>none
 |k+1,x0,D=>if D=true then(if 1≤(x0.size:Int)then((gy.f k (x0.extract 1 x0.size)).bind fun u=>(some (wrap64 (-u.1))))else(none))else((gy.f k x0).bind fun z=>(some z.1))
def ic.f (k:Nat) (a0:ByteArray):Option (Int):=if(a0.size:Int)>1 then(if 0<(a0.size:Int)then(ic.j0 k a0 ((bt a0 0)==45))else(none))else(ic.j0 k a0 false)
theorem ic.c (k:Nat) (a0:ByteArray) (r:Int) (w:World) (h:ic.f k a0=some r):
  Calls Tryz.prog 89 #[.string a0] w fun e w'=>e= .returned (.int .i64 r)∧Below w.heap.size w w':=by
 have u:=A_ (Below.refl w.heap.size w);have H:(if(a0.size:Int)>1 then(if 0<(a0.size:Int)then(ic.j0 k a0 ((bt a0 0)==45))else(none))else(ic.j0 k a0 false))=some r:=h;clear h;have J:=A_ H;clear H;go_enter Tryz.func89,Tryz.ntmps89
 go_upto_region 1 with (fail)
 go_cut [14] (fun v14 wc=>∃(F:Nat) (G:Bool),v14= .bool G∧ae (ic.j0 F a0 G=some r)∧ae (F≤k)∧ae (Below w.heap.size w wc))
 case first=>
  have H:=J.out;clear J;by_cases c3:(a0.size:Int)>1
  ·rw[af c3]at H;have z:decide (1<(a0.size:Int))=true:=ah c3;have V:decide (1<a0.size)=true:=ah (by omega);clear c3
   (first|rw[z]|(simp only[bG,bN];rw[z])|skip)
   by_cases c4:0<(a0.size:Int)
   ·rw[af c4]at H;have ad:decide (0<(a0.size:Int))=true:=ah c4;have ai:decide (0<a0.size)=true:=ah (by omega);clear c4;have H':=A_ H;clear H;have K:0≤(0:Int):=(by omega);have q5:0<a0.size:=(by have:(0:Int)<(a0.size:Int):=oD;omega);have aj:∀h:0<a0.size,((a0[0]'h).toNat:Int)=bt a0 0:=gm a0 0;clear K;have ak:(0<(a0.size:Int))=True:=av (oD);replace q5:=av q5;go_wp2
    go_meet
    case rel=>exact⟨_,(((bt a0 0)==45)),eS,H',⟨by first|omega|exact Nat.le_refl _⟩,⟨oB u⟩⟩
   ·rw[ag c4]at H;exact absurd H (by simp)
  ·rw[ag c3]at H;have z:decide (1<(a0.size:Int))=false:=ay c3;have V:decide (1<a0.size)=false:=ay (by omega);clear c3
   (first|rw[z]|(simp only[bG,bN];rw[z])|skip)
   have H':=A_ H;clear H;go_wp2
   go_meet
   case rel=>exact⟨_,(false),eS,H',⟨by first|omega|exact Nat.le_refl _⟩,⟨oB u⟩⟩
 case rest=>
  clear J
  try clear p2
  try clear c3
  try clear z
  try clear V
  try clear c4
  try clear ad
  try clear ai
  try clear K
  try clear q5
  try clear aj
  try clear ak
  try clear K
  try clear q5
  obtain⟨F,G,rfl,I,aq,u⟩:=hcut;cases F with
  |zero=>exact absurd I.out (by simp[ic.j0])
  |succ X=>
   have H:=I.out;clear I;simp only[ic.j0]at H;by_cases c6:G=true
   ·subst c6;rw[af rfl]at H;by_cases c7:1≤(a0.size:Int)
    ·rw[af c7]at H;have ar:=av c7;have au:decide (1≤(a0.size:Int))=true:=ah c7;clear c7;replace H:=aD H;obtain⟨⟨al,am⟩,U,H⟩:=H
     (try dsimp only at H)
     have Z:=A_ U;clear U;obtain rfl:=aH H
     go_wp2_with (first|((with_reducible refine aZ (f:=129) rfl ?_);refine gL (some 18) Tryz.func129 #[.string (a0.extract 1 a0.size)] ?_;(with_reducible refine(gy.c X (a0.extract 1 a0.size) al am _ Z.out).mono ?_);rintro e ax ⟨rfl,hb⟩;refine⟨_,rfl,?_⟩;have D:=A_ (aC (oB u) hb);clear u;have u:=D;clear D;(try clear hb);(try clear hb2);(try clear hk);(try clear hi)))
     go_ret;exact⟨eR,oB u⟩
    ·rw[ag c7]at H;exact absurd H (by simp)
   ·replace c6:=Bool.eq_false_iff.mpr c6;subst c6;rw[ag (show¬(false=true)by decide)]at H;replace H:=aD H;obtain⟨⟨ao,ap⟩,O,H⟩:=H
    (try dsimp only at H)
    have Y:=A_ O;clear O;obtain rfl:=aH H
    go_wp2_with (first|((with_reducible refine aZ (f:=129) rfl ?_);refine gL (some 25) Tryz.func129 #[.string a0] ?_;(with_reducible refine(gy.c X a0 ao ap _ Y.out).mono ?_);rintro e aw ⟨rfl,hb⟩;refine⟨_,rfl,?_⟩;have D:=A_ (aC (oB u) hb);clear u;have u:=D;clear D;(try clear hb);(try clear hb2);(try clear hk);(try clear hi)))
    go_ret;exact⟨eR,oB u⟩
def fJ.l0:Nat→List ByteArray→List ByteArray→Int→Option (Bool)
 |0,_,_,_=>none
 |k+1,x0,x1,u=>if u<(x0.length:Int)then(if 0≤u then(if u<(x1.length:Int)then(if(bF ByteArray.empty x0 u).toList=(bF ByteArray.empty x1 u).toList then(fJ.l0 k x0 x1 (wrap64 (u+1)))else(some false))else(none))else(none))else(some true)
def fJ.f (k:Nat) (l0:List ByteArray) (l1:List ByteArray):Option (Bool):=if(l0.length:Int)=(l1.length:Int)then(fJ.l0 k l0 l1 0)else(some false)
theorem fJ.c (k:Nat) (A0:Option Addr) (c0:Nat) (l0:List ByteArray) (A1:Option Addr) (c1:Nat) (l1:List ByteArray) (r:Bool) (w:World) (ad:Kd.C Kd.string w A0 l0.length l0) (hc0:l0.length≤c0) (hr1:Kd.C Kd.string w A1 l1.length l1) (hc1:l1.length≤c1) (h:fJ.f k l0 l1=some r):
  Calls Tryz.prog 20 #[.slice A0 l0.length c0,.slice A1 l1.length c1] w fun e w'=>e= .returned (.bool r)∧bD w w':=by
 have U:=A_ ad;have ar:=A_ hc0;clear ad hc0;have V:=A_ hr1;have au:=A_ hc1;clear hr1 hc1;have H:(if(l0.length:Int)=(l1.length:Int)then(fJ.l0 k l0 l1 0)else(some false))=some r:=h;clear h;by_cases c3:(l0.length:Int)=(l1.length:Int)
 ·rw[af c3]at H;have X:((l0.length:Int)==(l1.length:Int))=true:=beq_iff_eq.mpr c3;have Y:((l0.length:Int) != (l1.length:Int))=false:=bne_eq_false_iff_eq.mpr c3;have Z:(l0.length==l1.length)=true:=by first|simpa using c3|(simp at c3 ⊢;omega)
  clear c3;have H':=A_ H;clear H;go_enter Tryz.func20,Tryz.ntmps20;go_wp2
  repeat(go_quiet (fail);try go_wp2)
  go_loopg [5] k (fun ai v5 w'=>∃(u:Int),v5= .int .i64 u∧ae (fJ.l0 ai l0 l1 u=some r)∧ae (ai≤k)∧bD w w')
  case atStart=>exact⟨(0),eS,H',⟨Nat.le_refl _⟩,by repeat(first|exact bD.refl _|apply bD.step)⟩
  case round=>
   clear H'
   try clear c1
   try clear c2
   try clear p2
   try clear c3
   try clear X
   try clear Y
   try clear Z
   obtain⟨u,rfl,I,O,⟨m1,rfl⟩⟩:=hrel;cases gk with
   |zero=>exact absurd I.out (by simp[fJ.l0])
   |succ k1=>
    have H:=I.out;clear I;simp only[fJ.l0]at H;by_cases c4:u<(l0.length:Int)
    ·rw[af c4]at H;have al:decide (u<(l0.length:Int))=true:=ah c4;clear c4;by_cases c5:0≤u
     ·rw[af c5]at H;have aw:decide (0≤u)=true:=ah c5;clear c5;by_cases c6:u<(l1.length:Int)
      ·rw[af c6]at H;have ax:decide (u<(l1.length:Int))=true:=ah c6;clear c6;by_cases c7:(bF ByteArray.empty l0 u).toList=(bF ByteArray.empty l1 u).toList
       ·rw[af c7]at H;have am:((bF ByteArray.empty l0 u).toList==(bF ByteArray.empty l1 u).toList)=true:=beq_iff_eq.mpr c7;have ao:((bF ByteArray.empty l0 u).toList != (bF ByteArray.empty l1 u).toList)=false:=bne_eq_false_iff_eq.mpr c7;clear c7;have H':=A_ H;clear H;have z:0≤(u:Int):=oD;have F:u<(l0.length:Int):=oD;obtain⟨aj,J,ap⟩:=Kd.ig U.out u z F;cases J;replace z:=av z;replace F:=av F;have D:0≤(u:Int):=oD;have G:u<(l1.length:Int):=oD;obtain⟨ak,K,aq⟩:=Kd.ig V.out u D G;cases K;replace D:=av D;replace G:=av G;go_wp2
        repeat(go_quiet (fail);try go_wp2)
        go_roundg k1
        case measure=>have:=O.out;omega
        case rel=>exact⟨(wrap64 (u+1)),eS,H',⟨by have:=O.out;omega⟩,by repeat(first|exact bD.refl _|apply bD.step)⟩
       ·rw[ag c7]at H;have am:((bF ByteArray.empty l0 u).toList==(bF ByteArray.empty l1 u).toList)=false:=beq_eq_false_iff_ne.mpr c7;have ao:((bF ByteArray.empty l0 u).toList != (bF ByteArray.empty l1 u).toList)=true:=bne_iff_ne.mpr c7;obtain rfl:=aH H;have z:0≤(u:Int):=oD;have F:u<(l0.length:Int):=oD;obtain⟨aj,J,ap⟩:=Kd.ig U.out u z F;cases J;replace z:=av z;replace F:=av F;have D:0≤(u:Int):=oD;have G:u<(l1.length:Int):=oD;obtain⟨ak,K,aq⟩:=Kd.ig V.out u D G;cases K;replace D:=av D;replace G:=av G;go_wp2
        repeat(go_quiet (fail);try go_wp2)
        go_ret;exact⟨eS,by repeat(first|exact bD.refl _|apply bD.step)⟩
      ·rw[ag c6]at H;exact absurd H (by simp)
     ·rw[ag c5]at H;exact absurd H (by simp)
    ·rw[ag c4]at H;have al:decide (u<(l0.length:Int))=false:=ay c4;clear c4;obtain rfl:=aH H;go_wp2
     repeat(go_quiet (fail);try go_wp2)
     go_ret;exact⟨eS,by repeat(first|exact bD.refl _|apply bD.step)⟩
 ·rw[ag c3]at H;have X:((l0.length:Int)==(l1.length:Int))=false:=beq_eq_false_iff_ne.mpr c3;have Y:((l0.length:Int) != (l1.length:Int))=true:=bne_iff_ne.mpr c3;have Z:(l0.length==l1.length)=false:=by first|simpa using c3|(simp at c3 ⊢;omega)
  obtain rfl:=aH H;go_enter Tryz.func20,Tryz.ntmps20;go_wp2
  repeat(go_quiet (fail);try go_wp2)
  go_ret;exact⟨eS,by repeat(first|exact bD.refl _|apply bD.step)⟩
def fy.l0:Nat→Int→ByteArray→Option (ByteArray)
 |0,_,_=>none
 |k+1,x0,x3=>if x0>0 then((some (([(wrap64 (48+(Int.tmod x0 10)))%256]:List Int):List Int)).bind fun u=>(if(strOfNums u).size+x3.size≤9223372036854775807 then(fy.l0 k (wrap64 (Int.tdiv x0 10)) ((strOfNums u)++x3))else(none)))else(if 1+x3.size≤9223372036854775807 then(some ((⟨#[109]⟩:ByteArray)++x3))else(none))
def fy.f (k:Nat) (a0:Int):Option (ByteArray):=if a0≤0 then(some (⟨#[109,48]⟩:ByteArray))else(fy.l0 k a0 (⟨#[]⟩:ByteArray))
theorem fy.c (k:Nat) (a0:Int) (r:ByteArray) (w:World) (h:fy.f k a0=some r):
  Calls Tryz.prog 48 #[.int .i64 a0] w fun e w'=>e= .returned (.string r)∧Below w.heap.size w w':=by
 have D:=A_ (Below.refl w.heap.size w);have H:(if a0≤0 then(some (⟨#[109,48]⟩:ByteArray))else(fy.l0 k a0 (⟨#[]⟩:ByteArray)))=some r:=h;clear h;by_cases c2:a0≤0
 ·rw[af c2]at H;have V:decide (a0≤0)=true:=ah c2;clear c2;obtain rfl:=aH H;go_enter Tryz.func48,Tryz.ntmps48;go_wp2;go_ret;exact⟨eR,oB D⟩
 ·rw[ag c2]at H;have V:decide (a0≤0)=false:=ay c2;clear c2;have H':=A_ H;clear H;go_enter Tryz.func48,Tryz.ntmps48;go_wp2
  go_loopg [0,3] k (fun X v0 v3 w'=>∃(u:Int) (z:ByteArray),v0= .int .i64 u∧v3= .string z∧ae (fy.l0 X u z=some r)∧ae (X≤k)∧ae (Below w.heap.size w w'))
  case atStart=>exact⟨(a0),((⟨#[]⟩:ByteArray)),eS,eS,H',⟨Nat.le_refl _⟩,⟨oB D⟩⟩
  case round=>
   clear H'
   try clear c2
   try clear V
   try clear p2
   obtain⟨u,z,rfl,rfl,K,O,D⟩:=hrel;cases gk with
   |zero=>exact absurd K.out (by simp[fy.l0])
   |succ k1=>
    have H:=K.out;clear K;simp only[fy.l0]at H;by_cases c3:u>0
    ·rw[af c3]at H;have ai:decide (0<u)=true:=ah c3;clear c3;obtain⟨F,I⟩:∃al:List Int,al=(([(wrap64 (48+(Int.tmod u 10)))%256]:List Int)):=⟨_,rfl⟩;replace H:(if(strOfNums F).size+z.size≤9223372036854775807 then(fy.l0 k1 (wrap64 (Int.tdiv u 10)) ((strOfNums F)++z))else(none))=some r:=by first|(rw[I];with_reducible exact H)|(have J:=(aG _ _).symm.trans H;rw[I];with_reducible exact J)|(have J:=(aG _ _).symm.trans H;with_reducible exact J)|with_reducible exact H|(rw[I];exact H)|exact H
     have U:=A_ I;clear I;by_cases c4:(strOfNums F).size+z.size≤9223372036854775807
     ·rw[af c4]at H;have am:=av c4;have ao:decide ((strOfNums F).size+z.size≤9223372036854775807)=true:=ah c4
      try have ap:(9223372036854775807<(strOfNums F).size+z.size)=False:=d_ (Nat.not_lt.2 c4)
      have H':=A_ H;clear H
      go_wp2_with (first|((with_reducible refine ax (N:=12) rfl ?_);refine Kd.cx (Kd.int .u8) _ 5 ?hg (N:=12) ?hd (xs:=([(wrap64 (48+(Int.tmod u 10)))%256]:List Int)) (inner:=[.int .u8 ((wrap64 (48+(Int.tmod u 10)))%256)]) (ok:=fun _=>True) (bB:=fun _=>True) ?hr ?hp (fun _ hk=>hk) trivial (Below.refl _ _) (Nat.le_refl _) (by simp) ?_;(case hd=>rfl);(case hg=>rfl);(case hr=>first|(go_simp;done)|(go_simp;rfl));(case hp=>exact(aI.one (show Kd.M (Kd.int .u8) _ _ _ ((wrap64 (48+(Int.tmod u 10)))%256) [.int .u8 ((wrap64 (48+(Int.tmod u 10)))%256)]from rfl) (aI.none _ _)));intro az aB G hb aj ak;clear aj ak;(first|rw[←U.out]at G|(simp only[Int.reduceToNat]at G;rw[←U.out]at G));have Y:=A_ (Kd.bE G (aA (oB D)));have Z:=A_ (aC (oB D) hb);clear D;have ad:=Y;have D:=Z;clear Y Z hb G;have aw:=r8 (P:=Tryz.prog) Tryz.underlying22 Tryz.underlying5 Tryz.underlying9 (Kd.nu ad.out)))
      go_roundg k1
      case measure=>have:=O.out;omega
      case rel=>exact⟨(wrap64 (Int.tdiv u 10)),((strOfNums F)++z),eS,eS,H',⟨by have:=O.out;omega⟩,⟨oB D⟩⟩
     ·rw[ag c4]at H;exact absurd H (by simp)
    ·rw[ag c3]at H;have ai:decide (0<u)=false:=ay c3;clear c3;by_cases c8:1+z.size≤9223372036854775807
     ·rw[af c8]at H;have aq:=av c8;have ar:decide (1+z.size≤9223372036854775807)=true:=ah c8
      try have au:(9223372036854775807<1+z.size)=False:=d_ (Nat.not_lt.2 c8)
      obtain rfl:=aH H;go_wp2;go_ret;exact⟨eR,oB D⟩
     ·rw[ag c8]at H;exact absurd H (by simp)
def gG.l0:Nat→List ByteArray→Int→Int→Option (Int×List ByteArray)
 |0,_,_,_=>none
 |k+1,x0,x1,u=>if u<(x0.length:Int)then((fy.f k x1).bind fun z=>(if 0≤u then(gG.l0 k (x0.set (u:Int).toNat z) (wrap64 (x1+1)) (wrap64 (u+1)))else(none)))else(some (x1,x0))
def gG.f (k:Nat) (l0:List ByteArray) (a1:Int):Option (Int×List ByteArray):=gG.l0 k l0 a1 0
theorem gG.c (k:Nat) (D:Nat→Prop) (X:Value) (l0:List ByteArray) (a1:Int) (r1:Int) (r2:List ByteArray) (w0 w:World) (hB:Below w0.heap.size w0 w) (aP:Kd.R Kd.string 9 w w0.heap.size D X l0) (h:gG.f k l0 a1=some (r1,r2)):
  Calls Tryz.prog 21 #[X,.int .i64 a1] w fun e w'=>e= .returned (.int .i64 r1)∧Kd.R Kd.string 9 w' w0.heap.size (fun k_=>(D k_∨w.heap.size≤k_)) X r2∧Below w0.heap.size w0 w'∧Kept w w' (fun k_=>D k_):=by
 have aE:=A_ (show Kd.R Kd.string 9 w w0.heap.size (fun k_=>(D k_∨w.heap.size≤k_)) X l0 from Kd.bh aP (fun k_ hk=>(.inl hk)));have HK:=A_ (Kept.refl w (fun k_=>D k_));have aW:=A_ hB.size;have F:=A_ hB;clear hB;have H:(gG.l0 k l0 a1 0)=some (r1,r2):=h;clear h;have H':=A_ H;clear H;go_enter Tryz.func21,Tryz.ntmps21;go_wp2
 go_loopg [1,5] k (fun ax v1 v5 w'=>∃(G:List ByteArray) (I:Int) (u:Int),v1= .int .i64 I∧v5= .int .i64 u∧ae (gG.l0 ax G I u=some (r1,r2))∧ae (ax≤k)∧ae (Kd.R Kd.string 9 w' w0.heap.size (fun k_=>(D k_∨w.heap.size≤k_)) X G)∧ae (Kept w w' (fun k_=>D k_))∧ae (Below w0.heap.size w0 w'))
 case atStart=>exact⟨(l0),(a1),(0),eS,eS,H',⟨Nat.le_refl _⟩,⟨oR aE⟩,⟨by repeat(first|(with_reducible first|exact HK.out|apply Kept.alloc|apply Kept.drewN|apply Kept.drew)|exact HK.out)⟩,⟨oB F⟩⟩
 case round=>
  clear H'
  try clear c2
  try clear p2
  obtain⟨G,I,u,rfl,rfl,ai,aq,z,HK,F⟩:=hrel;cases gk with
  |zero=>exact absurd ai.out (by simp[gG.l0])
  |succ k1=>
   have H:=ai.out;clear ai;simp only[gG.l0]at H;by_cases c3:u<(G.length:Int)
   ·rw[af c3]at H;have aI:decide (u<(G.length:Int))=true:=ah c3;clear c3;replace H:=aD H;obtain⟨Z,ao,H⟩:=H
    (try dsimp only at H)
    have aA:=A_ ao;clear ao;by_cases c5:0≤u
    ·rw[af c5]at H;have aX:decide (0≤u)=true:=ah c5;clear c5;obtain⟨am,K⟩:∃aQ:List ByteArray,aQ=(G.set (u:Int).toNat Z):=⟨_,rfl⟩;replace H:(gG.l0 k1 am (wrap64 (I+1)) (wrap64 (u+1)))=some (r1,r2):=by first|(rw[K];with_reducible exact H)|(have ad:=(aG _ _).symm.trans H;rw[K];with_reducible exact ad)|(have ad:=(aG _ _).symm.trans H;with_reducible exact ad)|with_reducible exact H|(rw[K];exact H)|exact H
     have aF:=A_ K;clear K;have H':=A_ H;clear H;obtain⟨aS,aJ,aN⟩:=Kd.bz z.out;subst aN
     go_wp2_with (first|((with_reducible refine aZ (f:=48) rfl ?_);refine gL (some 15) Tryz.func48 #[.int .i64 I] ?_;(with_reducible refine(fy.c k1 I Z _ aA.out).mono ?_);rintro e az ⟨rfl,hb⟩;refine⟨_,rfl,?_⟩;have O:=A_ (Kd.aV (oR z) hb);have U:=A_ (Kept.below (S:=(fun k_=>D k_)) (by repeat(first|(with_reducible first|exact HK.out|apply Kept.alloc|apply Kept.drewN|apply Kept.drew)|exact HK.out)) hb);have V:=A_ (aC (oB F) hb);clear z HK F;have z:=O;have HK:=U;have F:=V;clear O U V;(try clear hb);(try clear hb2);(try clear hk);(try clear hi);have ak:0≤(u:Int):=oD;have q6:(u:Int)<((G.length:Int):Int):=oD;obtain⟨J,a2,ar,au,aO,aY,ap⟩:=Kd.kR z.out (by omega);(first|cases ar|(injection ar with Y aL aK;(first|subst Y|(injection Y with Y;subst Y));subst aK;clear aL));have aB:=A_ au;have aT:=A_ ap;clear au aO ap;have aU:=A_ (show(D J∨w.heap.size≤J)from(z.out.1 _ rfl));obtain⟨a4,a3⟩:=Kd.gC (⟨#[]⟩:ByteArray) z.out (u:Int) ak q6;replace ak:=av ak;replace q6:=av q6;obtain⟨a5,a6⟩:=Kd.gC (⟨#[]⟩:ByteArray) z.out (u:Int) (oD) (oD);have aj:=Kd.lI z.out (u:Int) Z)|((with_reducible refine ma (t:=9) (p:=16) rfl ?_);refine mO (t:=9) (p:=16) (v:= ?C_) (w1:=(az.setCell ⟨J,(u:Int).toNat,none⟩ (.string Z))) ?hg ?ho ?hn ?hr ?_;(case ho=>rfl);(case hg=>rfl);(case hn=>rfl);(case hr=>first|(go_simp;done)|(go_simp;rfl));intro al hw;have hg:az.grownBy al (some J):=(by rw[hw];exact aj.2);have aw:Kd.R Kd.string 9 al w0.heap.size (fun k_=>(D k_∨w.heap.size≤k_)) (.slice (some ⟨J,0,none⟩) G.length aJ) am:=(by rw[hw,aF.out];exact aj.1);clear aj;have O:=A_ (aw);have U:=A_ ((by rw[hw];exact fo (F.out) aB.out:Below w0.heap.size w0 al));have V:=A_ (Kept.uO (S:=(fun k_=>D k_)) hg (by repeat(first|(with_reducible first|exact HK.out|apply Kept.alloc|apply Kept.drewN|apply Kept.drew)|exact HK.out)) (fun k_ e_=>(z.out.1 k_ e_)));clear z F HK;have z:=O;have F:=U;have HK:=V;clear O U V hg hw aw))
     go_roundg k1
     case measure=>have:=aq.out;omega
     case rel=>exact⟨(am),(wrap64 (I+1)),(wrap64 (u+1)),eS,eS,H',⟨by have:=aq.out;omega⟩,⟨oR z⟩,⟨by repeat(first|(with_reducible first|exact HK.out|apply Kept.alloc|apply Kept.drewN|apply Kept.drew)|exact HK.out)⟩,⟨oB F⟩⟩
    ·rw[ag c5]at H;exact absurd H (by simp)
   ·rw[ag c3]at H;have aI:decide (u<(G.length:Int))=false:=ay c3;clear c3;simp only[Option.some.injEq,Prod.mk.injEq]at H;obtain⟨rfl,rfl⟩:=H;obtain⟨aR,a0,aM⟩:=Kd.bz z.out;subst aM;go_wp2;go_ret;exact⟨eR,oR z,oB F,by repeat(first|(with_reducible first|exact HK.out|apply Kept.alloc|apply Kept.drewN|apply Kept.drew)|exact HK.out)⟩
def gq.l0:Nat→List ByteArray→Int→Int→Option (Int)
 |0,_,_,_=>none
 |k+1,x0,x1,u=>if u<(x0.length:Int)then(if 0≤u then((fy.f k x1).bind fun z=>(if(bF ByteArray.empty x0 u).toList=z.toList then(gq.l0 k x0 (wrap64 (x1+1)) (wrap64 (u+1)))else(some (-1))))else(none))else(some x1)
def gq.f (k:Nat) (l0:List ByteArray) (a1:Int):Option (Int):=gq.l0 k l0 a1 0
theorem gq.c (k:Nat) (A0:Option Addr) (c0:Nat) (l0:List ByteArray) (a1:Int) (r:Int) (w:World) (ak:Kd.C Kd.string w A0 l0.length l0) (hc0:l0.length≤c0) (h:gq.f k l0 a1=some r):
  Calls Tryz.prog 22 #[.slice A0 l0.length c0,.int .i64 a1] w fun e w'=>e= .returned (.int .i64 r)∧Below w.heap.size w w':=by
 have aj:=A_ ak;have aq:=A_ hc0;clear ak hc0;have u:=A_ (Below.refl w.heap.size w);have H:(gq.l0 k l0 a1 0)=some r:=h;clear h;have H':=A_ H;clear H;go_enter Tryz.func22,Tryz.ntmps22;go_wp2
 go_loopg [1,5] k (fun al v1 v5 w'=>∃(G:Int) (z:Int),v1= .int .i64 G∧v5= .int .i64 z∧ae (gq.l0 al l0 G z=some r)∧ae (al≤k)∧ae (Below w.heap.size w w'))
 case atStart=>exact⟨(a1),(0),eS,eS,H',⟨Nat.le_refl _⟩,⟨oB u⟩⟩
 case round=>
  clear H'
  try clear c2
  try clear p2
  obtain⟨G,z,rfl,rfl,V,ai,u⟩:=hrel;cases gk with
  |zero=>exact absurd V.out (by simp[gq.l0])
  |succ k1=>
   have H:=V.out;clear V;simp only[gq.l0]at H;by_cases c3:z<(l0.length:Int)
   ·rw[af c3]at H;have am:decide (z<(l0.length:Int))=true:=ah c3;clear c3;by_cases c4:0≤z
    ·rw[af c4]at H;have ar:decide (0≤z)=true:=ah c4;clear c4;replace H:=aD H;obtain⟨O,ad,H⟩:=H
     (try dsimp only at H)
     have Z:=A_ ad;clear ad;by_cases c6:(bF ByteArray.empty l0 z).toList=O.toList
     ·rw[af c6]at H;have ao:((bF ByteArray.empty l0 z).toList==O.toList)=true:=beq_iff_eq.mpr c6;have ap:((bF ByteArray.empty l0 z).toList != O.toList)=false:=bne_eq_false_iff_eq.mpr c6;clear c6;have H':=A_ H;clear H
      try go_wp2
      have D:=A_ (cr u.out);clear u;have u:=D;clear D;have I:0≤(z:Int):=oD;have J:z<(l0.length:Int):=oD;obtain⟨X,Y,F⟩:=Kd.ig aj.out z I J;have U:=F;cases Y;replace F:=hW u F;replace I:=av I;replace J:=av J;refine fk (n:=7) (S:=fun w'=>w'.cell? (X.add (z).toNat)=some (.string (bF ByteArray.empty l0 z))) (ds:=[]) #[false,false,false,false,false,false,false] (by kernel_rfl) rfl rfl ((hW u U)) (fun hHeld=> ?_);generalize wr.drew=w7 at u F hHeld ⊢;refine jo (i:=0) (N:=some 12) (v:= ?_) (a':= ?_) #[true,false,false,false,false,false,false] rfl rfl (by kernel_rfl) (fun _ _ _ h=>h) (Or.inl ⟨by rfl,?_⟩) ?_ ?_;rotate_left
      ·intro w'
       go_simp
       with_reducible rfl
      rotate_left
      ·simp only[Act.put,List.setIfInBounds_toArray,List.set_cons_zero,List.set_cons_succ,bG,bN];rfl
      refine jo (i:=1) (N:=some 13) (v:= ?_) (a':= ?_) #[true,true,false,false,false,false,false] rfl rfl (by kernel_rfl) (fun _ _ _ h=>h) (Or.inl ⟨by rfl,?_⟩) ?_ ?_;rotate_left
      ·intro w'
       go_simp
       with_reducible rfl
      rotate_left
      ·simp only[Act.put,List.setIfInBounds_toArray,List.set_cons_zero,List.set_cons_succ,bG,bN];rfl
      refine jo (i:=2) (N:=some 14) (v:= ?_) (a':= ?_) #[true,true,true,false,false,false,false] rfl rfl (by kernel_rfl) (fun _ _ _ h=>h) (Or.inl ⟨by rfl,?_⟩) ?_ ?_;rotate_left
      ·intro w'
       go_simp
       with_reducible rfl
      rotate_left
      ·simp only[Act.put,List.setIfInBounds_toArray,List.set_cons_zero,List.set_cons_succ,bG,bN];rfl
      refine jo (i:=4) (N:=some 16) (v:= ?_) (a':= ?_) #[true,true,true,false,true,false,false] rfl rfl (by kernel_rfl) (fun _ _ _ h=>h) (Or.inl ⟨by rfl,?_⟩) ?_ ?_;rotate_left
      ·intro w'
       go_simp
       with_reducible rfl
      rotate_left
      ·simp only[Act.put,List.setIfInBounds_toArray,List.set_cons_zero,List.set_cons_succ,bG,bN];rfl
      refine nI (i:=3) (N:=some 15) (v:= ?_) (a':= ?_) #[true,true,true,true,true,false,false] rfl rfl (by kernel_rfl) (fun _ _ _ h=>h) (Or.inl ⟨by rfl,?_⟩) hHeld ?_ ?_;rotate_left
      ·intro w' s0
       go_simp
       with_reducible rfl
      rotate_left
      ·simp only[Act.put,List.setIfInBounds_toArray,List.set_cons_zero,List.set_cons_succ,bG,bN];rfl
      refine dh (i:=5) (N:=some 17) #[true,true,true,true,true,true,false] rfl rfl (by kernel_rfl) (by decide) (fun K hK=> ?_);refine cy Tryz.func48 (by kernel_rfl) rfl #[.int .i64 G] (by rfl) rfl rfl (by(try simp only[List.map_toArray,List.map_cons,List.map_nil]);first|done|rfl|(simp only[List.length_drop,List.length_take];rfl)) ?_
      with_reducible refine(fy.c k1 G O _ Z.out).mono ?_
      rintro e aw ⟨rfl,hb⟩;refine⟨_,rfl,?_⟩;have D:=A_ (aC (oB u) hb);clear u;have u:=D;clear D
      (try clear hb)
      (try clear hb2)
      (try clear hk)
      (try clear hi)
      refine hK.out _ _ ((hW u U)) (fun hHeld=> ?_);clear hK K;refine dL (a':= ?_) ?_ ?_;rotate_left
      ·show Act.put _ (some 17) _=_;simp only[Act.put,List.setIfInBounds_toArray,List.set_cons_zero,List.set_cons_succ,bG,bN];rfl
      refine jo (i:=6) (N:=some 18) (v:= ?_) (a':= ?_) #[true,true,true,true,true,true,true] rfl rfl (by kernel_rfl) (fun _ _ _ h=>h) (Or.inl ⟨by rfl,?_⟩) ?_ ?_;rotate_left
      ·intro w'
       go_simp
       with_reducible rfl
      rotate_left
      ·simp only[Act.put,List.setIfInBounds_toArray,List.set_cons_zero,List.set_cons_succ,bG,bN];rfl
      refine eY (by kernel_rfl) ?_
      try go_wp2
      go_roundg k1
      case measure=>have:=ai.out;omega
      case rel=>exact⟨(wrap64 (G+1)),(wrap64 (z+1)),eS,eS,H',⟨by have:=ai.out;omega⟩,⟨oB u⟩⟩
     ·rw[ag c6]at H;have ao:((bF ByteArray.empty l0 z).toList==O.toList)=false:=beq_eq_false_iff_ne.mpr c6;have ap:((bF ByteArray.empty l0 z).toList != O.toList)=true:=bne_iff_ne.mpr c6;obtain rfl:=aH H
      try go_wp2
      have D:=A_ (cr u.out);clear u;have u:=D;clear D;have I:0≤(z:Int):=oD;have J:z<(l0.length:Int):=oD;obtain⟨X,Y,F⟩:=Kd.ig aj.out z I J;have U:=F;cases Y;replace F:=hW u F;replace I:=av I;replace J:=av J;refine fk (n:=7) (S:=fun w'=>w'.cell? (X.add (z).toNat)=some (.string (bF ByteArray.empty l0 z))) (ds:=[]) #[false,false,false,false,false,false,false] (by kernel_rfl) rfl rfl ((hW u U)) (fun hHeld=> ?_);generalize wr.drew=ax at u F hHeld ⊢;refine jo (i:=0) (N:=some 12) (v:= ?_) (a':= ?_) #[true,false,false,false,false,false,false] rfl rfl (by kernel_rfl) (fun _ _ _ h=>h) (Or.inl ⟨by rfl,?_⟩) ?_ ?_;rotate_left
      ·intro w'
       go_simp
       with_reducible rfl
      rotate_left
      ·simp only[Act.put,List.setIfInBounds_toArray,List.set_cons_zero,List.set_cons_succ,bG,bN];rfl
      refine jo (i:=1) (N:=some 13) (v:= ?_) (a':= ?_) #[true,true,false,false,false,false,false] rfl rfl (by kernel_rfl) (fun _ _ _ h=>h) (Or.inl ⟨by rfl,?_⟩) ?_ ?_;rotate_left
      ·intro w'
       go_simp
       with_reducible rfl
      rotate_left
      ·simp only[Act.put,List.setIfInBounds_toArray,List.set_cons_zero,List.set_cons_succ,bG,bN];rfl
      refine jo (i:=2) (N:=some 14) (v:= ?_) (a':= ?_) #[true,true,true,false,false,false,false] rfl rfl (by kernel_rfl) (fun _ _ _ h=>h) (Or.inl ⟨by rfl,?_⟩) ?_ ?_;rotate_left
      ·intro w'
       go_simp
       with_reducible rfl
      rotate_left
      ·simp only[Act.put,List.setIfInBounds_toArray,List.set_cons_zero,List.set_cons_succ,bG,bN];rfl
      refine jo (i:=4) (N:=some 16) (v:= ?_) (a':= ?_) #[true,true,true,false,true,false,false] rfl rfl (by kernel_rfl) (fun _ _ _ h=>h) (Or.inl ⟨by rfl,?_⟩) ?_ ?_;rotate_left
      ·intro w'
       go_simp
       with_reducible rfl
      rotate_left
      ·simp only[Act.put,List.setIfInBounds_toArray,List.set_cons_zero,List.set_cons_succ,bG,bN];rfl
      refine nI (i:=3) (N:=some 15) (v:= ?_) (a':= ?_) #[true,true,true,true,true,false,false] rfl rfl (by kernel_rfl) (fun _ _ _ h=>h) (Or.inl ⟨by rfl,?_⟩) hHeld ?_ ?_;rotate_left
      ·intro w' s0
       go_simp
       with_reducible rfl
      rotate_left
      ·simp only[Act.put,List.setIfInBounds_toArray,List.set_cons_zero,List.set_cons_succ,bG,bN];rfl
      refine dh (i:=5) (N:=some 17) #[true,true,true,true,true,true,false] rfl rfl (by kernel_rfl) (by decide) (fun K hK=> ?_);refine cy Tryz.func48 (by kernel_rfl) rfl #[.int .i64 G] (by rfl) rfl rfl (by(try simp only[List.map_toArray,List.map_cons,List.map_nil]);first|done|rfl|(simp only[List.length_drop,List.length_take];rfl)) ?_
      with_reducible refine(fy.c k1 G O _ Z.out).mono ?_
      rintro e au ⟨rfl,hb⟩;refine⟨_,rfl,?_⟩;have D:=A_ (aC (oB u) hb);clear u;have u:=D;clear D
      (try clear hb)
      (try clear hb2)
      (try clear hk)
      (try clear hi)
      refine hK.out _ _ ((hW u U)) (fun hHeld=> ?_);clear hK K;refine dL (a':= ?_) ?_ ?_;rotate_left
      ·show Act.put _ (some 17) _=_;simp only[Act.put,List.setIfInBounds_toArray,List.set_cons_zero,List.set_cons_succ,bG,bN];rfl
      refine jo (i:=6) (N:=some 18) (v:= ?_) (a':= ?_) #[true,true,true,true,true,true,true] rfl rfl (by kernel_rfl) (fun _ _ _ h=>h) (Or.inl ⟨by rfl,?_⟩) ?_ ?_;rotate_left
      ·intro w'
       go_simp
       with_reducible rfl
      rotate_left
      ·simp only[Act.put,List.setIfInBounds_toArray,List.set_cons_zero,List.set_cons_succ,bG,bN];rfl
      refine eY (by kernel_rfl) ?_
      try go_wp2
      go_ret;exact⟨eR,oB u⟩
    ·rw[ag c4]at H;exact absurd H (by simp)
   ·rw[ag c3]at H;have am:decide (z<(l0.length:Int))=false:=ay c3;clear c3;obtain rfl:=aH H;go_wp2;go_ret;exact⟨eR,oB u⟩
end P
namespace Q
open Go.RowKit P WW.bq WW.cd
theorem mC (l:List S64) (i:Nat) (h:i<l.length):au l (i:Int)=l[i]:=by
  unfold au;simp[List.getD_eq_getElem?_getD,h]
theorem vx (l:List bM) (i:Nat) (h:i<l.length):iI l (i:Int)=l[i]:=by
  unfold iI;simp[List.getD_eq_getElem?_getD,h]
theorem kJ (l:List aj) (i:Nat) (h:i<l.length):ak l (i:Int)=l[i]:=by
  unfold ak;simp[List.getD_eq_getElem?_getD,h]
theorem og (l:List S64) (hl:l.length≤4000000):iA.f l=some l:=by
  unfold iA.f;simp only[aG];rw[af (by simp;omega)];simp
theorem ov (l:List S64) (hl:l.length≤4000000):iL.f l=some l:=by
  unfold iL.f;simp only[aG];rw[af (by simp;omega)];simp
end Q
namespace P
open Go.RowKit WW.bq WW.cg WW.cd
attribute [local go_sem] cN cR cQ cU cP cT cO cS
theorem yl (d:Nat) (w:World) (x0 y0:Int) (x1 y1:Int) (x2 u:Int) (x3 z:Int):
  (Op.equalIn (d+2) 57 (.agg #[.int .i64 x0,.int .i64 x1,.int .i64 x2,.int .i64 x3]) (.agg #[.int .i64 y0,.int .i64 y1,.int .i64 u,.int .i64 z])).run Tryz.prog w= .ok (x0==y0&&(x1==y1&&(x2==u&&(x3==z)))) w:=by
 refine tV Tryz.underlying57 (by kernel_rfl) ?_;refine pH (by rfl) (by go_simp;rfl) (by go_simp;rfl) (by go_simp) ?_;refine pH (by rfl) (by go_simp;rfl) (by go_simp;rfl) (by go_simp) ?_;refine pH (by rfl) (by go_simp;rfl) (by go_simp;rfl) (by go_simp) ?_;exact tW (by rfl) (by go_simp;rfl) (by go_simp;rfl) (by go_simp)
theorem ym (d:Nat) (w:World) (x0 y0:Int) (x1 y1:Int):
  (Op.equalIn (d+2) 62 (.agg #[.int .i64 x0,.int .i64 x1]) (.agg #[.int .i64 y0,.int .i64 y1])).run Tryz.prog w= .ok (x0==y0&&(x1==y1)) w:=by
 refine tV Tryz.underlying62 (by kernel_rfl) ?_;refine pH (by rfl) (by go_simp;rfl) (by go_simp;rfl) (by go_simp) ?_;exact tW (by rfl) (by go_simp;rfl) (by go_simp;rfl) (by go_simp)
end P
namespace Q
open Go.RowKit P
def l_ (e:S64):Bool:=decide (0≤e.f0.f0∧e.f0.f0≤3)&&(decide (0≤e.f0.f1∧e.f0.f1≤39)&&(decide (0≤e.f1∧e.f1≤2)&&decide (0≤e.f2∧e.f2≤100000)))
def fB:Int→List S64→Bool
  |_,[]=>true
  |p,e::r=>l_ e&&(decide (p≤e.f2)&&fB e.f2 r)
def dK (l:List S64):Bool:=fB 0 l&&decide (l.length≤30)
def e6 (l:List S64) (i:Nat):Int:=if i=0 then 0 else(l.getD (i-1) z64).f2
theorem AX (l:List S64) (i:Nat) (h:i<l.length):e6 l (i+1)=l[i].f2:=by simp[e6,List.getD_eq_getElem?_getD,h]
theorem vn (l:List S64) (i:Nat) (h0:0<i) (h:i<l.length):e6 l i=l[i-1].f2:=by
  simp[e6,List.getD_eq_getElem?_getD,show i≠0 by omega,show i-1<l.length by omega]
theorem uz (l:List S64) (i:Nat) (h:i<l.length):fB (e6 l i) (l.drop i)=(l_ l[i]&&(decide (e6 l i≤l[i].f2)&&fB (e6 l (i+1)) (l.drop (i+1)))):=by
  rw[List.drop_eq_getElem_cons h,AX l i h];rfl
end Q
namespace P
open Go.RowKit WW.bq
def jP (x:aj) (t:List Bool):Bool:=
  (decide (x.f2=1)||decide (x.f2=2))&&(decide (0≤x.f3∧x.f3≤5000)&&(decide (0≤x.f0∧x.f0≤11)&&(decide (0≤x.f1∧x.f1≤11)&&(decide (x.f1=(x.f0+1)%12)&&(t.getD x.f0.toNat false&& !t.getD x.f1.toNat false)))))
def ke:List aj→List Bool→Bool
  |[],_=>true
  |x::r,t=>jP x t&&ke r (t.set x.f1.toNat true)
def iw:List Bool:=true::List.replicate 11 false
def fg (l:List aj):Bool:=decide (l.length≤11)&&ke l iw
def gA (l:List aj) (t:List Bool):List Bool:=l.foldl (fun t x=>t.set x.f1.toNat true) t
def jK:List Bool→List Int→Bool
  |b::t,p::q=>(if b then decide (1≤p∧p≤10000000)else decide (p=0))&&jK t q
  |_,_=>true
def dS (p:List aj) (d:Int) (q:List Int):Bool:=
  fg p&&(decide (0≤d∧d≤p.length)&&(decide (q.length=12)&&jK (gA (p.take d.toNat) iw) q))
theorem u6:∀(l:List aj) (t:List Bool),ke l t=true→∀x∈l,0≤x.f1∧x.f1≤11
  |[],_,_,x,hx=>by simp at hx
  |y::r,t,h,x,hx=>by
   simp only[ke,Bool.and_eq_true]at h;rcases List.mem_cons.1 hx with rfl|hx
   · have h1:=h.1;simp[jP]at h1;exact h1.2.2.2.1
   · exact u6 r _ h.2 x hx
theorem sT (l:List aj):∀t:List Bool,(gA l t).length=t.length:=by
  induction l with
  |nil=>intro t;rfl
  |cons x r ih=>intro t;show(gA r _).length=_;rw[ih,List.length_set]
theorem CP (l:List aj) (x:aj) (t:List Bool):gA (l++[x]) t=(gA l t).set x.f1.toNat true:=by simp[gA,List.foldl_append]
end P
namespace P
set_option maxHeartbeats 8000000
set_option maxRecDepth 100000
open Go.RowKit WW.bq WW.cg WW.cd
attribute [local go_sem] cN cR cQ cU cP cT cO cS
def k9.f (l0:List (aj)):Option (Bool):=some (fg l0)
theorem k9.c (A0:Option Addr) (c0:Nat) (l0:List (aj)) (r:Bool) (w:World) (O:Kd.C aX w A0 l0.length l0) (hc0:l0.length≤c0) (h:k9.f l0=some r):
    Calls Tryz.prog 97 #[.slice A0 l0.length c0] w fun e w'=>e= .returned (.bool r)∧Below w.heap.size w w':=by
  have H:=aH h;clear h;by_cases h11:l0.length≤11;rotate_left
  · have hb:decide (11<(l0.length:Int))=true:=ah (by omega);have hb2:decide (11<l0.length)=true:=ah (by omega);obtain rfl:false=r:=(by rw[←H];simp[fg,h11]);go_enter Tryz.func97,Tryz.ntmps97;go_wp2;go_ret;exact⟨rfl,Below.refl _ _⟩
  · have hb:decide (11<(l0.length:Int))=false:=ay (by omega);have hb2:decide (11<l0.length)=false:=ay (by omega);go_enter Tryz.func97,Tryz.ntmps97;go_wp2
    go_loopg [12] (l0.length+1) (fun U v12 w'=>∃(i:Nat) (tn:List Bool),v12= .int .i64 (i:Int)∧ae (i+U=l0.length+1)∧ae (i≤l0.length)∧ae (tn.length=12)∧ae (w'.heap[w.heap.size]? =some (.cells (tn.map Value.bool).toArray 118 (0,0)))∧ae (ke (l0.drop i) tn=r)∧ae (Below w.heap.size w w'))
    case atStart=>
      exact⟨0,iw,rfl,⟨by omega⟩,⟨by omega⟩,⟨rfl⟩,⟨by rw[heap_alloc_new];rfl⟩,⟨by rw[←H];simp[fg,h11]⟩,⟨cj (Below.refl _ _) _⟩⟩
    case round=>
      obtain⟨i,tn,rfl,HK,Y,J,F,z,u⟩:=hrel;by_cases hlt:i<l0.length;rotate_left
      · have hb3:decide ((i:Int)<(l0.length:Int))=false:=ay (by omega);have hb4:decide (i<l0.length)=false:=ay (by omega)
        obtain rfl:true=r:=by
          have h1:=z.out;rw[List.drop_eq_nil_of_le (by omega)]at h1;exact h1
        go_wp2;go_ret;exact⟨rfl,u.out⟩
      · have hb3:decide ((i:Int)<(l0.length:Int))=true:=ah (by omega);have hb4:decide (i<l0.length)=true:=ah (by omega);obtain⟨ad,e,hx0,hx1,hx2,hx3⟩:=eV O (i:Int) (by omega) (by omega);cases e;replace hx0:=hW u hx0;replace hx1:=hW u hx1;replace hx2:=hW u hx2;replace hx3:=hW u hx3;obtain⟨x,hx⟩:∃x,ak l0 (i:Int)=x:=⟨_,rfl⟩;rw[hx]at hx0 hx1 hx2 hx3;simp only[Int.toNat_natCast]at hx0 hx1 hx2 hx3
        have hd:ke (l0.drop i) tn=(jP x tn&&ke (l0.drop (i+1)) (tn.set x.f1.toNat true)):=by
          rw[List.drop_eq_getElem_cons hlt];have e0:l0[i]=x:=(by rw[←hx];simp[ak,List.getD_eq_getElem?_getD,hlt]);rw[e0];rfl
        have Z:=A_ hx;clear hx;have HD:=A_ hd;clear hd
        have win:∀(a b c:Int) (d:Bool) (W:World),decide (b≤a∧a≤c)=d→Calls Tryz.prog 58 #[.int .i64 a,.int .i64 b,.int .i64 c] W fun e w'=>e= .returned (.bool d)∧bD W w':=fun a b c d W hd=>
          cv.c a b c d W (by rw[←hd];unfold cv.f;by_cases hh:b≤a<;>simp[hh])
        have tc:∀k,k<12→∀o:Obj,(wr.alloc o).cell? ⟨w.heap.size,k,none⟩=some (.bool (tn.getD k false)):=fun k hk o=>(dH (aN F.out o) k).trans (by have:=J.out;simp[List.getD_eq_getElem?_getD,show k<tn.length by omega]);by_cases q1:0≤x.f3∧x.f3≤5000;rotate_left
        · have W1:=A_ fun W=>win x.f3 0 5000 false W (ay q1);have D:=A_ q1;clear q1 win tc
          go_wp2_with (first|(go_at_call 58;(with_reducible refine(W1.out _).mono ?_);rintro e w' ⟨rfl,⟨nd,rfl⟩⟩))
          all_goals
            obtain rfl:false=r:=by
              rw[←z.out,HD.out];simp[jP,D.out]
            go_ret;exact⟨rfl,by repeat(first|exact u.out|apply cj|apply dM|apply cr)⟩
        have W1:=A_ fun W=>win x.f3 0 5000 true W (ah q1);by_cases q2:0≤x.f0∧x.f0≤11;rotate_left
        · have W2:=A_ fun W=>win x.f0 0 11 false W (ay q2);have D:=A_ q2;clear q1 q2 win tc
          go_wp2_with (first|(go_at_call 58;(with_reducible refine(W1.out _).mono ?_);rintro e w' ⟨rfl,⟨nd,rfl⟩⟩)|(go_at_call 58;(with_reducible refine(W2.out _).mono ?_);rintro e w' ⟨rfl,⟨nd,rfl⟩⟩))
          all_goals
            obtain rfl:false=r:=by
              rw[←z.out,HD.out];simp[jP,D.out]
            go_ret;exact⟨rfl,by repeat(first|exact u.out|apply cj|apply dM|apply cr)⟩
        have W2:=A_ fun W=>win x.f0 0 11 true W (ah q2);by_cases q3:0≤x.f1∧x.f1≤11;rotate_left
        · have W3:=A_ fun W=>win x.f1 0 11 false W (ay q3);have D:=A_ q3;clear q1 q2 q3 win tc
          go_wp2_with (first|(go_at_call 58;(with_reducible refine(W1.out _).mono ?_);rintro e w' ⟨rfl,⟨nd,rfl⟩⟩)|(go_at_call 58;(with_reducible refine(W2.out _).mono ?_);rintro e w' ⟨rfl,⟨nd,rfl⟩⟩)|(go_at_call 58;(with_reducible refine(W3.out _).mono ?_);rintro e w' ⟨rfl,⟨nd,rfl⟩⟩))
          all_goals
            obtain rfl:false=r:=by
              rw[←z.out,HD.out];simp[jP,D.out]
            go_ret;exact⟨rfl,by repeat(first|exact u.out|apply cj|apply dM|apply cr)⟩
        have W3:=A_ fun W=>win x.f1 0 11 true W (ah q3);clear win;obtain⟨ai,al⟩:=q2;obtain⟨am,ao⟩:=q3;have K:=A_ q1;clear q1;have hc0:=tc x.f0.toNat (by omega);have hc1:=tc x.f1.toNat (by omega);have hfz:=fun o:Obj=>ar (aN F.out o) x.f1.toNat;clear tc;by_cases q4:x.f1=(x.f0+1)%12;rotate_left
        · have V:(x.f1==(x.f0+1)%12)=false:=beq_eq_false_iff_ne.mpr q4;have X:(x.f1 != (x.f0+1)%12)=true:=bne_iff_ne.mpr q4;have G:=A_ q4;clear q4 hc0 hc1 hfz
          go_wp2_with (first|(go_at_call 58;(with_reducible refine(W1.out _).mono ?_);rintro e w' ⟨rfl,⟨nd,rfl⟩⟩)|(go_at_call 58;(with_reducible refine(W2.out _).mono ?_);rintro e w' ⟨rfl,⟨nd,rfl⟩⟩)|(go_at_call 58;(with_reducible refine(W3.out _).mono ?_);rintro e w' ⟨rfl,⟨nd,rfl⟩⟩))
          all_goals
            obtain rfl:false=r:=by
              rw[←z.out,HD.out];simp[jP,G.out]
            go_ret;exact⟨rfl,by repeat(first|exact u.out|apply cj|apply dM|apply cr)⟩
        have V:(x.f1==(x.f0+1)%12)=true:=beq_iff_eq.mpr q4;have X:(x.f1 != (x.f0+1)%12)=false:=bne_eq_false_iff_eq.mpr q4;have G:=A_ q4;clear q4;obtain⟨b0,hb0⟩:∃b,tn.getD x.f0.toNat false=b:=⟨_,rfl⟩;obtain⟨b1,hb1⟩:∃b,tn.getD x.f1.toNat false=b:=⟨_,rfl⟩;rw[hb0]at hc0;rw[hb1]at hc1;have I:=A_ hb0;have B1:=A_ hb1;clear hb0 hb1
        go_wp2_with (first|(go_at_call 58;(with_reducible refine(W1.out _).mono ?_);rintro e w' ⟨rfl,⟨nd,rfl⟩⟩)|(go_at_call 58;(with_reducible refine(W2.out _).mono ?_);rintro e w' ⟨rfl,⟨nd,rfl⟩⟩)|(go_at_call 58;(with_reducible refine(W3.out _).mono ?_);rintro e w' ⟨rfl,⟨nd,rfl⟩⟩))
        all_goals first
          |(go_ret
            have e:false=r:=by
              have h3:=I.out;have h4:=B1.out;rw[←z.out,HD.out];unfold jP;rw[h3,h4];simp[*]
            subst e;exact⟨rfl,by repeat(first|exact u.out|apply cj|apply dM|apply cr)⟩)
          |(go_roundg (gk-1)
            case measure=>have:=HK.out;omega
            case rel=>
              refine⟨i+1,tn.set x.f1.toNat true,by go_num,⟨by have:=HK.out;omega⟩,⟨by omega⟩,⟨by rw[List.length_set];exact J.out⟩,⟨?_⟩,⟨?_⟩,⟨?_⟩⟩
              · refine bw (cs:=(tn.map Value.bool).toArray) ?_ x.f1.toNat (.bool true) ?_
                · repeat(first|exact F.out|refine aT ?_ _|refine aM ?_|refine aN ?_ _)
                · simp[List.map_set]
              · rw[←z.out,HD.out]
                have e:jP x tn=true:=by
                  have h1:=G.out;have h2:=K.out;have h3:=I.out;have h4:=B1.out;unfold jP;rw[h3,h4];simp[*];omega
                rw[e,Bool.true_and]
              · refine fo ?_ (Nat.le_refl _)
                repeat(first|exact u.out|apply cj|apply dM|apply cr))
def gb.f (z:List (aj)) (u:Int) (D:List Int):Option (Bool):=some (dS z u D)
theorem gb.c (Z:Option Addr) (X:Nat) (D:List (aj)) (V:Int) (al:Option Addr) (ao:Nat) (F:List Int) (r:Bool) (w:World) (aw:Kd.C aX w Z D.length D) (aY:D.length≤X) (aO:Kd.C (Kd.int .i64) w al F.length F) (a3:F.length≤ao) (h:gb.f D V F=some r):
  Calls Tryz.prog 55 #[.agg #[.slice Z D.length X,.int .i64 V,.slice al F.length ao]] w fun e w'=>e= .returned (.bool r)∧Below w.heap.size w w':=by
 have HH:=A_ (aH h);clear h
 have win:∀(a b c:Int) (d:Bool) (W:World),decide (b≤a∧a≤c)=d→Calls Tryz.prog 58 #[.int .i64 a,.int .i64 b,.int .i64 c] W fun e w'=>e= .returned (.bool d)∧bD W w':=fun a b c d W hd=>
  cv.c a b c d W (by rw[←hd];unfold cv.f;by_cases hh:b≤a<;>simp[hh])
 have hpl:∀(b:Bool) (o:Obj),fg D=b→Calls Tryz.prog 97 #[.slice Z D.length X] (w.alloc o) fun e w'=>e= .returned (.bool b)∧Below (w.alloc o).heap.size (w.alloc o) w':=fun b o hb=>
  k9.c Z X D b (w.alloc o) (Kd.cZ aw o) aY (by unfold k9.f;rw[hb])
 have au:∀(w1:World) (o:Obj),Below (w.alloc o).heap.size (w.alloc o) w1→w1.heap[w.heap.size]? =some o∧Below w.heap.size w w1∧w.heap.size+1≤w1.heap.size:=fun w1 o hb=>
  ⟨fV (gF w o) hb,aC (cj (Below.refl _ _) o) hb,by have:=hb.size;simpa using this⟩
 by_cases p1:fg D=true;rotate_left
 ·have P1:=A_ fun o=>hpl false o (Bool.eq_false_iff.2 p1);obtain rfl:false=r:=by rw[←HH.out];simp[dS,p1]
  clear hpl win p1;go_enter Tryz.func55,Tryz.ntmps55
  go_wp2_with (first|(go_at_call 97;(with_reducible refine(P1.out _).mono ?_);rintro e w1 ⟨rfl,hb⟩;obtain⟨u,H,I⟩:=au w1 _ hb;have z:=A_ H;clear hb u H I))
  go_ret;exact⟨rfl,by repeat(first|exact z.out|apply cj|apply dM|apply cr)⟩
 have P1:=A_ fun o=>hpl true o p1;by_cases p2:0≤V∧V≤(D.length:Int);rotate_left
 ·have W1:=A_ fun W=>win V 0 D.length false W (ay p2);obtain rfl:false=r:=by rw[←HH.out];simp[dS,p2]
  clear hpl win p1 p2;go_enter Tryz.func55,Tryz.ntmps55
  go_wp2_with (first|(go_at_call 97;(with_reducible refine(P1.out _).mono ?_);rintro e w1 ⟨rfl,hb⟩;obtain⟨u,H,I⟩:=au w1 _ hb;have z:=A_ H;have J:=dH u 0;have K:=dH u 1;have ap:=dH u 2;clear hb u H I)|(go_at_call 58;(with_reducible refine(W1.out _).mono ?_);rintro e w' ⟨rfl,⟨nd,rfl⟩⟩))
  go_ret;exact⟨rfl,by repeat(first|exact z.out|apply cj|apply dM|apply cr)⟩
 have W1:=A_ fun W=>win V 0 D.length true W (ah p2);by_cases p3:F.length=12;rotate_left
 ·have aZ:((F.length:Int) != 12)=true:=bne_iff_ne.mpr (by omega);have a0:((F.length:Int)==12)=false:=beq_eq_false_iff_ne.mpr (by omega);obtain rfl:false=r:=by rw[←HH.out];simp[dS,p3]
  have aI:=A_ p3;clear hpl win p1 p2 p3;go_enter Tryz.func55,Tryz.ntmps55
  go_wp2_with (first|(go_at_call 97;(with_reducible refine(P1.out _).mono ?_);rintro e w1 ⟨rfl,hb⟩;obtain⟨u,H,I⟩:=au w1 _ hb;have z:=A_ H;have G:=A_ u;have HS:=A_ I;have J:=dH u 0;have K:=dH u 1;clear hb u H I)|(go_at_call 58;(with_reducible refine(W1.out _).mono ?_);rintro e w2 ⟨rfl,hdr⟩;have n1:=A_ (aC z.out hdr.below);have u:=fV G.out hdr.below;have n3:=A_ (Nat.le_trans HS.out hdr.below.size);clear z G HS J K hdr;have z:=n1;have G:=A_ u;have HS:=n3;clear n1 n3;have J:=dH u 0;have K:=dH u 1;have ap:=dH u 2;have aJ:=fun o:Obj=>dH (aN u o) 0;have aK:=fun o:Obj=>dH (aN u o) 1;have aL:=fun o:Obj=>dH (aN u o) 2;clear u))
  go_ret;exact⟨rfl,by repeat(first|exact z.out|apply cj|apply dM|apply cr)⟩
 have aZ:((F.length:Int) != 12)=false:=bne_eq_false_iff_eq.mpr (by omega);have a0:((F.length:Int)==12)=true:=beq_iff_eq.mpr (by omega);obtain⟨d,rfl⟩:∃d:Nat,V=(d:Int):=⟨V.toNat,by omega⟩;have hd1:d≤D.length:=by omega
 have hd2:d≤X:=by omega
 have hm:D.length≤9223372036854775807:=Kd.mV aw;have HK:=A_ (u6 D iw (by have:=p1;simp[fg]at this;exact this.2));have U:ae (jK (gA (D.take d) iw) F=r):=⟨by rw[←HH.out];simp[dS,p1,p3,hd1]⟩;have aI:=A_ p3;have aR:=A_ aw;have aS:=A_ aO;clear hpl p1 p2 p3 HH aw aO;go_enter Tryz.func55,Tryz.ntmps55
 go_wp2_with (first|(go_at_call 97;(with_reducible refine(P1.out _).mono ?_);rintro e w1 ⟨rfl,hb⟩;obtain⟨u,H,I⟩:=au w1 _ hb;have z:=A_ H;have G:=A_ u;have HS:=A_ I;have J:=dH u 0;have K:=dH u 1;clear hb u H I)|(go_at_call 58;(with_reducible refine(W1.out _).mono ?_);rintro e w2 ⟨rfl,hdr⟩;have n1:=A_ (aC z.out hdr.below);have u:=fV G.out hdr.below;have n3:=A_ (Nat.le_trans HS.out hdr.below.size);clear z G HS J K hdr;have z:=n1;have G:=A_ u;have HS:=n3;clear n1 n3;have J:=dH u 0;have K:=dH u 1;have ap:=dH u 2;have aJ:=fun o:Obj=>dH (aN u o) 0;have aK:=fun o:Obj=>dH (aN u o) 1;have aL:=fun o:Obj=>dH (aN u o) 2;clear u))
 have a1:=A_ (rfl: #[Value.slice Z D.length X,.int .i64 (d:Int),.slice al F.length ao]= #[Value.slice Z D.length X,.int .i64 (d:Int),.slice al F.length ao])
 go_loopg [34] (d+1) (fun aA v34 w'=>∃(i:Nat),v34= .int .i64 (i:Int)∧ae (i+aA=d+1)∧ae (i≤d)∧ae (w'.heap[w2.heap.size]? =some (.cells ((gA (D.take i) iw).map Value.bool).toArray 118 (0,0)))∧ae (w'.heap[w.heap.size]? =some (.cells #[.slice Z D.length X,.int .i64 (d:Int),.slice al F.length ao] 27 (0,0)))∧ae (Below w.heap.size w w'))
 case atStart=>
  exact⟨0,rfl,⟨by omega⟩,⟨by omega⟩,⟨by rw[heap_alloc_new];rfl⟩,⟨aN G.out _⟩,⟨cj z.out _⟩⟩
 case round=>
  clear J K ap aJ aK aL z G;obtain⟨i,rfl,aP,aQ,O,G,z⟩:=hrel;have aq:(gA (D.take i) iw).length=12:=sT _ _;by_cases hlt:i<d
  ·have hb3:decide ((i:Int)<(d:Int))=true:=ah (by omega);have hb4:decide (i<d)=true:=ah (by omega);obtain⟨ad,e,hx0,hx1,hx2,hx3⟩:=eV aR.out (i:Int) (by omega) (by omega);cases e;replace hx0:=hW z hx0;replace hx1:=hW z hx1;replace hx2:=hW z hx2;replace hx3:=hW z hx3;obtain⟨x,hx⟩:∃x,ak D (i:Int)=x:=⟨_,rfl⟩;rw[hx]at hx0 hx1 hx2 hx3;simp only[Int.toNat_natCast]at hx0 hx1 hx2 hx3;have hil:i<D.length:=(by omega);have e0:D[i]=x:=(by rw[←hx];simp[ak,List.getD_eq_getElem?_getD,hil]);obtain⟨q1,q2⟩:=HK.out x (by rw[←e0];exact List.getElem_mem hil);have am:ae (gA (D.take (i+1)) iw=(gA (D.take i) iw).set x.f1.toNat true):=⟨by rw[List.take_succ_eq_append_getElem hil,e0,CP]⟩;obtain⟨tn,Y⟩:∃tn,gA (D.take i) iw=tn:=⟨_,rfl⟩;have ai:=A_ (show wr.heap[w2.heap.size]? =some (.cells (tn.map Value.bool).toArray 118 (0,0))by rw[←Y];exact O.out);rw[Y]at aq am;have hc1:∀o:Obj,(wr.alloc o).cell? ⟨w2.heap.size,x.f1.toNat,none⟩=some (.bool (tn.getD x.f1.toNat false)):=fun o=>(dH (aN ai.out o) _).trans (by simp[List.getD_eq_getElem?_getD,show x.f1.toNat<tn.length by omega]);have hfz:=fun o:Obj=>ar (aN ai.out o) x.f1.toNat;clear hx e0 Y O aq;go_wp2
   go_roundg (d-i)
   case measure=>have:=aP.out;omega
   case rel=>
    refine⟨i+1,by go_num,⟨by omega⟩,⟨by omega⟩,⟨?_⟩,⟨?_⟩,⟨?_⟩⟩
    ·rw[am.out];refine bw (cs:=(tn.map Value.bool).toArray) (aN ai.out _) x.f1.toNat (.bool true) ?_;simp[List.map_set]
    ·refine dx ?_ (by have:=HS.out;show w.heap.size≠w2.heap.size;omega) _;exact aN G.out _
    ·refine fo (cj z.out _) (by have:=HS.out;omega)
  ·have hb3:decide ((i:Int)<(d:Int))=false:=ay (by omega);have hb4:decide (i<d)=false:=ay (by omega);obtain rfl:i=d:=(by have:=aQ.out;omega);obtain⟨tn,Y⟩:∃tn,gA (D.take i) iw=tn:=⟨_,rfl⟩;have ai:=A_ (show wr.heap[w2.heap.size]? =some (.cells (tn.map Value.bool).toArray 118 (0,0))by rw[←Y];exact O.out);have am:=A_ (show tn.length=12 by rw[←Y];exact aq);have aF:=A_ (show jK tn F=r by rw[←Y];exact U.out);have J:=dH G.out 0;have K:=dH G.out 1;have ap:=dH G.out 2;clear O U Y aq;go_wp2;have aB:=aI.out
   go_loopg [45] 13 (fun aA v45 w'=>∃(j:Nat),v45= .int .i64 (j:Int)∧ae (j+aA=13)∧ae (j≤12)∧ae (jK (tn.drop j) (F.drop j)=r)∧ae (w'.heap[w2.heap.size]? =some (.cells (tn.map Value.bool).toArray 118 (0,0)))∧ae (Below w.heap.size w w'))
   case atStart=>exact⟨0,rfl,⟨by omega⟩,⟨by omega⟩,⟨aF.out⟩,⟨ai.out⟩,⟨z.out⟩⟩
   case round=>
    clear J K ap z G ai aF;obtain⟨j,rfl,aE,a2,U,O,z⟩:=hrel;by_cases hlt2:j<12;rotate_left
    ·have aV:decide ((j:Int)<(F.length:Int))=false:=ay (by omega);have aW:decide (j<F.length)=false:=ay (by omega)
     obtain rfl:true=r:=by
      have h1:=U.out;rw[List.drop_eq_nil_of_le (by have:=am.out;omega)]at h1;simpa[jK]using h1
     clear aB;go_wp2;go_ret;exact⟨rfl,z.out⟩
    ·have aV:decide ((j:Int)<(F.length:Int))=true:=ah (by omega);have aW:decide (j<F.length)=true:=ah (by omega);have hj:j<F.length:=(by omega);obtain⟨ad,e,hy⟩:=Kd.dG aS.out (j:Int) (by omega) (by omega);cases e;replace hy:=hW z hy;obtain⟨y,az⟩:∃y,rd F (j:Int)=y:=⟨_,rfl⟩;obtain⟨b,ax⟩:∃b,tn.getD j false=b:=⟨_,rfl⟩;rw[az]at hy;simp only[Int.toNat_natCast]at hy;have aU:=am.out;have hct:wr.cell? ⟨w2.heap.size,j,none⟩=some (.bool b):=(dH O.out j).trans (by rw[←ax];simp[List.getD_eq_getElem?_getD,show j<tn.length by omega])
     have HD:ae (jK (tn.drop j) (F.drop j)=((if b then decide (1≤y∧y≤10000000)else decide (y=0))&&jK (tn.drop (j+1)) (F.drop (j+1)))):=⟨by
      rw[List.drop_eq_getElem_cons (show j<tn.length by omega),List.drop_eq_getElem_cons (show j<F.length by omega)];have e1:tn[j]=b:=(by rw[←ax];simp[List.getD_eq_getElem?_getD,show j<tn.length by omega]);have e2:F[j]=y:=(by rw[←az];simp[rd,List.getD_eq_getElem?_getD,show j<F.length by omega]);rw[e1,e2];rfl⟩
     have fine:∀(d:Bool) (W:World),decide (1≤y∧y≤10000000)=d→Calls Tryz.prog 98 #[.int .i64 y] W fun e w'=>e= .returned (.bool d)∧bD W w':=fun d W hd=>
      df.c y d W (by rw[←hd];unfold df.f cv.f;by_cases hh:1≤y<;>simp[hh])
     clear az ax aU aB;cases b with
     |true=>
      by_cases q:1≤y∧y≤10000000
      ·have F1:=A_ fun W=>fine true W (ah q);have Q:=A_ q;clear q fine
       go_wp2_with (first|(go_at_call 98;(with_reducible refine(F1.out _).mono ?_);rintro e w' ⟨rfl,⟨nd,rfl⟩⟩))
       go_roundg (12-j)
       case measure=>have:=aE.out;omega
       case rel=>
        refine⟨j+1,by go_num,⟨by omega⟩,⟨by omega⟩,⟨?_⟩,⟨?_⟩,⟨?_⟩⟩
        ·rw[←U.out,HD.out];simp[Q.out]
        ·repeat(first|exact O.out|refine aT ?_ _|refine aM ?_)
        ·repeat(first|exact z.out|apply cj|apply dM|apply cr)
      ·have F1:=A_ fun W=>fine false W (ay q);have Q:=A_ q;clear q fine;obtain rfl:false=r:=by rw[←U.out,HD.out];simp[Q.out]
       go_wp2_with (first|(go_at_call 98;(with_reducible refine(F1.out _).mono ?_);rintro e w' ⟨rfl,⟨nd,rfl⟩⟩))
       go_ret;exact⟨rfl,by repeat(first|exact z.out|apply cj|apply dM|apply cr)⟩
     |false=>
      by_cases q:y=0
      ·have q1:(y != 0)=false:=bne_eq_false_iff_eq.mpr q;have q2:(y==0)=true:=beq_iff_eq.mpr q;have Q:=A_ q;clear q fine;go_wp2
       go_roundg (12-j)
       case measure=>have:=aE.out;omega
       case rel=>
        refine⟨j+1,by go_num,⟨by omega⟩,⟨by omega⟩,⟨?_⟩,⟨?_⟩,⟨?_⟩⟩
        ·rw[←U.out,HD.out];simp[Q.out]
        ·repeat(first|exact O.out|refine aT ?_ _|refine aM ?_)
        ·repeat(first|exact z.out|apply cj|apply dM|apply cr)
      ·have q1:(y != 0)=true:=bne_iff_ne.mpr q;have q2:(y==0)=false:=beq_eq_false_iff_ne.mpr q;have Q:=A_ q;clear q fine;obtain rfl:false=r:=(by rw[←U.out,HD.out];simp[Q.out]);go_wp2;go_ret;exact⟨rfl,by repeat(first|exact z.out|apply cj|apply dM|apply cr)⟩
def dB.l0:Nat→List Int→List (aj)→Int→Int→List (aj)→Int→List Int→Option (List Int)
 |0,_,_,_,_,_,_,_=>none
 |k+1,x3,z,F,u,G,H,D=>if u<F then(if 0≤u then(if u<(z.length:Int)then(if 0≤((ak z u).f1)then(if((ak z u).f1)<(D.length:Int)then((fY.f k G H D u).bind fun I=>(if(rd D ((ak z u).f1))=I then(dB.l0 k x3 z F (wrap64 (u+1)) G H D)else(if x3.length<17592186044416 then(dB.l0 k (x3++[u]) z F (wrap64 (u+1)) G H D)else(none))))else(none))else(none))else(none))else(none))else(some x3)
def dB.f (k:Nat) (z:List (aj)) (u:Int) (D:List Int):Option (List Int):=(gb.f z u D).bind fun G=>(if G=true then(if 0≤u then(if u≤(z.length:Int)then((some (z.take (u:Int).toNat:List (aj))).bind fun F=>(dB.l0 k (([]:List Int)) F (F.length:Int) 0 z u D))else(none))else(none))else(some ([]:List Int)))
def dB.T7:Bool×List (List Nat×List Nat):=(true,[([],[]),([0],[0]),([],[]),([2],[2]),([1,3],[1,3]),([4],[4]),([],[]),([],[]),([6,7],[6,7]),([5,8],[5,8])])
def dB.B7:List Nat:=[0,1,0,4,15,31,0,0,192,511]
theorem dB.qu:bo .any (opsOf Tryz.f100 7)=dB.T7:=by kernel_rfl
theorem dB.pq:cp dB.T7.2 dB.B7=true:=by kernel_rfl
theorem dB.c (k:Nat) (aw:Option Addr) (al:Nat) (V:List (aj)) (U:Int) (az:Option Addr) (ao:Nat) (X:List Int) (r:List Int) (w:World) (b1:Kd.C aX w aw V.length V) (bY:V.length≤al) (b2:Kd.C (Kd.int .i64) w az X.length X) (bZ:X.length≤ao) (h:dB.f k V U X=some r):
  Calls Tryz.prog 100 #[.agg #[.slice aw V.length al,.int .i64 U,.slice az X.length ao]] w fun e w'=>∃b5:Value,e= .returned (b5)∧Kd.R (Kd.int .i64) 3 w' w.heap.size (fun _=>True) b5 r∧Below w.heap.size w w':=by
 have dl:=Tryz.underlying27;have dk:=Tryz.underlying110;have a5:=A_ b1;have a4:=A_ bY;clear b1 bY;have a3:=A_ b2;have bA:=A_ bZ;clear b2 bZ;have F:=A_ (Below.refl w.heap.size w);have H:((gb.f V U X).bind fun bM=>(if bM=true then(if 0≤U then(if U≤(V.length:Int)then((some (V.take (U:Int).toNat:List (aj))).bind fun z=>(dB.l0 k (([]:List Int)) z (z.length:Int) 0 V U X))else(none))else(none))else(some ([]:List Int))))=some r:=h;clear h;replace H:=aD H;obtain⟨bM,bS,H⟩:=H
 (try dsimp only at H)
 have A2:=A_ bS;clear bS;by_cases c3:bM=true
 ·subst c3;rw[af rfl]at H;obtain⟨bP,bk⟩:∃bz:List Int,bz=(([]:List Int)):=⟨_,rfl⟩;replace H:(if 0≤U then(if U≤(V.length:Int)then((some (V.take (U:Int).toNat:List (aj))).bind fun z=>(dB.l0 k bP z (z.length:Int) 0 V U X))else(none))else(none))=some r:=by first|(rw[bk];with_reducible exact H)|(have ap:=(aG _ _).symm.trans H;rw[bk];with_reducible exact ap)|(have ap:=(aG _ _).symm.trans H;with_reducible exact ap)|with_reducible exact H|(rw[bk];exact H)|exact H
  have bU:=A_ bk;clear bk;by_cases c4:0≤U
  ·rw[af c4]at H;have cg:=av c4;have ch:decide (0≤U)=true:=ah c4;clear c4;by_cases c5:U≤(V.length:Int)
   ·rw[af c5]at H;have ci:=av c5;have cj:decide (U≤(V.length:Int))=true:=ah c5;clear c5;obtain⟨z,bn⟩:∃bz:List (aj),bz=(V.take (U:Int).toNat):=⟨_,rfl⟩;replace H:(dB.l0 k bP z (z.length:Int) 0 V U X)=some r:=by first|(rw[bn];with_reducible exact H)|(have ap:=(aG _ _).symm.trans H;rw[bn];with_reducible exact ap)|(have ap:=(aG _ _).symm.trans H;with_reducible exact ap)|with_reducible exact H|(rw[bn];exact H)|exact H
    have bV:=A_ bn;clear bn;have H':=A_ H;clear H;go_enter Tryz.func100,Tryz.ntmps100
    go_wp2_with (first|((with_reducible refine ax (N:=1) rfl ?_);refine bX (N:=1) (cs:= #[.slice aw V.length al,.int .i64 U,.slice az X.length ao]) (t:=27) ?_;intro am hg dz au hb;have J:=A_ (aC (oB F) hb);have O:=A_ (au);have Y:=A_ ((by rw[hg];exact(aA (oB F)):w.heap.size≤am));have Z:=A_ ((by rw[hg];exact(aA (oB F)):w.heap.size≤am));clear F;have F:=J;have D:=O;have b9:=Y;have b7:=Z;clear J O Y Z hb au hg;have co:=cz D 0;have cp:=cz D 1;have cq:=cz D 2;have cw:=ar D.out 0;have cA:=ar D.out 1;have cB:=ar D.out 2)|((with_reducible refine aZ (f:=55) rfl ?_);refine gL (some 7) Tryz.func55 #[.agg #[.slice aw V.length al,.int .i64 U,.slice az X.length ao]] ?_;(with_reducible refine(gb.c _ _ V U _ _ X true _ ?a6 ?a7 ?cG ?cH A2.out).mono ?_);(case a6=>exact bO a5.out);(case a7=>exact a4.out);(case cG=>exact bO a3.out);(case cH=>exact bA.out);rintro e dA ⟨rfl,hb⟩;refine⟨_,rfl,?_⟩;have J:=A_ (bb D hb);have O:=A_ (aC (oB F) hb);clear D F;have D:=J;have F:=O;clear J O;(try clear hb);(try clear hb2);(try clear hk);(try clear hi))|((with_reducible refine ax (N:=9) rfl ?_);refine Kd.cx (Kd.int .i64) _ 3 ?hg (N:=9) ?hd (xs:=([]:List Int)) (inner:=[]) (ok:=fun _=>True) (bB:=fun _=>True) ?hr ?hp (fun _ hk=>hk) trivial (Below.refl _ _) (Nat.le_refl _) (by simp) ?_;(case hd=>rfl);(case hg=>rfl);(case hr=>first|(go_simp;done)|(go_simp;rfl));(case hp=>exact(aI.none _ _));intro dn dC a9 hb cC cD;clear cC cD;(first|rw[←bU.out]at a9|(simp only[Int.reduceToNat]at a9;rw[←bU.out]at a9));have J:=A_ (Kd.bE a9 (aA (oB F)));have O:=A_ (bb D hb);have Y:=A_ (aC (oB F) hb);clear D F;have b':=J;have D:=O;have F:=Y;clear J O Y hb a9;have cl:=cz D 0;have cm:=cz D 1;have cn:=cz D 2;have ct:=ar D.out 0;have cu:=ar D.out 1;have cv:=ar D.out 2;have bu:(U:Int)≤((V.length:Int):Int):=oD;obtain⟨dm,b0,_,cE,_⟩:=info_parts kz;have b3:V.length≤al:=a4.out;have bW:Kd.C aX _ aw V.length V:=a5.out;have ck:=yc (P:=Tryz.prog) 24 110 .i64 Tryz.underlying24 b0 aw V.length al U (oD) bu b3;have bK:=Kd.wP (m:=(U:Int).toNat) bW (by omega);have bL:z.length=(U:Int).toNat:=(by rw[bV.out,List.length_take];omega);rw[←bV.out]at bK;rw[←bL]at ck;have bT:=A_ bK;have cJ:=A_ (show z.length≤al from by omega);clear bK bW b3 b0 cE;have cK:=A_ bL;clear bL;replace bu:=av bu))
    go_loopg [3,16] k (fun b4 v3 v16 w'=>∃(aQ:List Int) (u:Int),v16= .int .i64 u∧ae (dB.l0 b4 aQ z (z.length:Int) u V U X=some r)∧ae (b4≤k)∧ae (Kd.R (Kd.int .i64) 3 w' w.heap.size (fun _=>True) v3 aQ)∧ae (w'.heap[am]? =some (.cells #[(.slice aw V.length al),.int .i64 U,(.slice az X.length ao)] 27 (0,0)))∧ae (Below w.heap.size w w'))
    case atStart=>exact⟨(bP),(0),eS,H',⟨Nat.le_refl _⟩,⟨oR b'⟩,⟨oK D⟩,⟨oB F⟩⟩
    case round=>
     clear H'
     try clear c1
     try clear q1
     try clear p2
     try clear c3
     try clear c4
     try clear cg
     try clear ch
     try clear c5
     try clear ci
     try clear cj
     try clear c10
     try clear bu
     try clear cl
     try clear cm
     try clear cn
     try clear co
     try clear cp
     try clear cq
     try clear ct
     try clear cu
     try clear cv
     try clear cw
     try clear cA
     try clear cB
     try clear bu
     obtain⟨aQ,u,rfl,bF,bC,ad,D,F⟩:=hrel;cases gk with
     |zero=>exact absurd bF.out (by simp[dB.l0])
     |succ k1=>
      have H:=bF.out;clear bF;simp only[dB.l0]at H;by_cases c13:u<(z.length:Int)
      ·rw[af c13]at H;have cd:decide (u<(z.length:Int))=true:=ah c13;clear c13;by_cases c14:0≤u
       ·rw[af c14]at H;have cL:decide (0≤u)=true:=ah c14;clear c14;by_cases c15:u<(z.length:Int)
        ·rw[af c15]at H;have cM:decide (u<(z.length:Int))=true:=ah c15;clear c15;by_cases c16:0≤((ak z u).f1)
         ·rw[af c16]at H;have cN:decide (0≤((ak z u).f1))=true:=ah c16;clear c16;by_cases c17:((ak z u).f1)<(X.length:Int)
          ·rw[af c17]at H;have cO:decide (((ak z u).f1)<(X.length:Int))=true:=ah c17;clear c17;replace H:=aD H;obtain⟨a2,bR,H⟩:=H
           (try dsimp only at H)
           have bQ:=A_ bR;clear bR;by_cases c19:(rd X ((ak z u).f1))=a2
           ·rw[af c19]at H;have ce:((rd X ((ak z u).f1))==a2)=true:=beq_iff_eq.mpr c19;have cf:((rd X ((ak z u).f1)) != a2)=false:=bne_eq_false_iff_eq.mpr c19;clear c19;have H':=A_ H;clear H;have aW:0≤(u:Int):=oD;have a0:u<(z.length:Int):=oD;obtain⟨aR,bI,bc,bd,be,bf⟩:=eV bT.out u aW a0;cases bI;replace bc:=hW F bc;replace bd:=hW F bd;replace be:=hW F be;replace bf:=hW F bf;replace aW:=av aW;replace a0:=av a0
            try go_wp2_with (first|((with_reducible refine ax (N:=5) rfl ?_);refine bX (N:=5) (cs:= #[.int .i64 0,.int .i64 0,.int .i64 0,.int .i64 0]) (t:=110) ?_;intro G hg bv au hb;have J:=A_ (Kd.aV (oR ad) hb);have O:=A_ (bb D hb);have Y:=A_ (aC (oB F) hb);have Z:=A_ (au);have bp:=A_ ((by rw[hg];exact(aA (oB F)):w.heap.size≤G));have bq:=A_ ((by rw[hg];exact(aA (oB F)):w.heap.size≤G));have bs:=A_ (nL D hg);have bt:=A_ (nG D hg);clear ad D F;have ad:=J;have D:=O;have F:=Y;have I:=Z;have b_:=bp;have b8:=bq;have aq:=bs;have bH:=bt;clear J O Y Z bp bq bs bt hb au hg;have df:=bH.out;have di:=aq.out;have cP:=cz I 0;have cQ:=cz I 1;have cR:=cz I 2;have cS:=cz I 3;have c6:=ar I.out 0;have c7:=ar I.out 1;have c8:=ar I.out 2;have c9:=ar I.out 3))
            have J:ae (Kd.R (Kd.int .i64) 3 ((((bv.setCell ⟨G,0,none⟩ (.int .i64 ((ak z u).f0))).setCell ⟨G,1,none⟩ (.int .i64 ((ak z u).f1))).setCell ⟨G,2,none⟩ (.int .i64 ((ak z u).f2))).setCell ⟨G,3,none⟩ (.int .i64 ((ak z u).f3))) w.heap.size (fun _=>True) u3 aQ):=⟨by(with_reducible repeat(first|apply Kd.bm|apply Kd.br|apply Kd.a8));exact Kd.bh (Kd.aJ (p:=⟨G,3,none⟩) (Kd.aJ (p:=⟨G,2,none⟩) (Kd.aJ (p:=⟨G,1,none⟩) (Kd.aJ (p:=⟨G,0,none⟩) (Kd.dD ad.out I.out (by decide)) (fun _ hk=>hk.2) (.int .i64 ((ak z u).f0))) (fun _ hk=>hk.2) (.int .i64 ((ak z u).f1))) (fun _ hk=>hk.2) (.int .i64 ((ak z u).f2))) (fun _ hk=>hk.2) (.int .i64 ((ak z u).f3))) (fun _ hk=>trivial)⟩;have O:ae (((((bv.setCell ⟨G,0,none⟩ (.int .i64 ((ak z u).f0))).setCell ⟨G,1,none⟩ (.int .i64 ((ak z u).f1))).setCell ⟨G,2,none⟩ (.int .i64 ((ak z u).f2))).setCell ⟨G,3,none⟩ (.int .i64 ((ak z u).f3))).heap[am]? =some (.cells #[.slice (some aR) V.length al,.int .i64 U,.slice az X.length ao] 27 (0,0))):=⟨by(with_reducible repeat(first|refine aT ?_ _|refine aM ?_|refine aN ?_ _));refine dx ?_ aq.out _;(with_reducible repeat(first|refine aT ?_ _|refine aM ?_|refine aN ?_ _));refine dx ?_ aq.out _;(with_reducible repeat(first|refine aT ?_ _|refine aM ?_|refine aN ?_ _));refine dx ?_ aq.out _;(with_reducible repeat(first|refine aT ?_ _|refine aM ?_|refine aN ?_ _));refine dx ?_ aq.out _;(with_reducible repeat(first|refine aT ?_ _|refine aM ?_|refine aN ?_ _));exact D.out⟩;have Y:ae (((((bv.setCell ⟨G,0,none⟩ (.int .i64 ((ak z u).f0))).setCell ⟨G,1,none⟩ (.int .i64 ((ak z u).f1))).setCell ⟨G,2,none⟩ (.int .i64 ((ak z u).f2))).setCell ⟨G,3,none⟩ (.int .i64 ((ak z u).f3))).heap[G]? =some (.cells #[.int .i64 ((ak z u).f0),.int .i64 ((ak z u).f1),.int .i64 ((ak z u).f2),.int .i64 ((ak z u).f3)] 110 (0,0))):=⟨by(with_reducible repeat(first|refine aT ?_ _|refine aM ?_|refine aN ?_ _));refine bw (cs:= #[.int .i64 ((ak z u).f0),.int .i64 ((ak z u).f1),.int .i64 ((ak z u).f2),.int .i64 0]) ?_ 3 _ rfl;(with_reducible repeat(first|refine aT ?_ _|refine aM ?_|refine aN ?_ _));refine bw (cs:= #[.int .i64 ((ak z u).f0),.int .i64 ((ak z u).f1),.int .i64 0,.int .i64 0]) ?_ 2 _ rfl;(with_reducible repeat(first|refine aT ?_ _|refine aM ?_|refine aN ?_ _));refine bw (cs:= #[.int .i64 ((ak z u).f0),.int .i64 0,.int .i64 0,.int .i64 0]) ?_ 1 _ rfl;(with_reducible repeat(first|refine aT ?_ _|refine aM ?_|refine aN ?_ _));refine bw (cs:= #[.int .i64 0,.int .i64 0,.int .i64 0,.int .i64 0]) ?_ 0 _ rfl;(with_reducible repeat(first|refine aT ?_ _|refine aM ?_|refine aN ?_ _));exact I.out⟩;have Z:ae (Below w.heap.size w ((((bv.setCell ⟨G,0,none⟩ (.int .i64 ((ak z u).f0))).setCell ⟨G,1,none⟩ (.int .i64 ((ak z u).f1))).setCell ⟨G,2,none⟩ (.int .i64 ((ak z u).f2))).setCell ⟨G,3,none⟩ (.int .i64 ((ak z u).f3)))):=⟨oB F⟩
            (try clear ad)
            (try clear D)
            (try clear I)
            (try clear F)
            generalize ((((bv.setCell ⟨G,0,none⟩ (.int .i64 ((ak z u).f0))).setCell ⟨G,1,none⟩ (.int .i64 ((ak z u).f1))).setCell ⟨G,2,none⟩ (.int .i64 ((ak z u).f2))).setCell ⟨G,3,none⟩ (.int .i64 ((ak z u).f3)))=cF at J O Y Z ⊢;have ad:=J;have D:=O;have I:=Y;have F:=Z;clear J O Y Z;have J:=A_ (Kd.a8 ad.out);have O:=A_ (aM D.out);have Y:=A_ (aM I.out);have Z:=A_ (cr F.out);clear ad D I F;have ad:=J;have D:=O;have I:=Y;have F:=Z;clear J O Y Z;have aY:0≤(((ak z u).f1):Int):=oD;have a1:((ak z u).f1)<(X.length:Int):=oD;obtain⟨aU,bJ,aK⟩:=Kd.dG a3.out ((ak z u).f1) aY a1;have a_:=aK;cases bJ;replace aK:=hW F aK;replace aY:=av aY;replace a1:=av a1;refine fk (n:=10) (S:=fun w'=>w'.cell? ⟨am,0,none⟩=some (.slice (some aR) V.length al)∧w'.cell? ⟨am,1,none⟩=some (.int .i64 U)∧w'.cell? ⟨am,2,none⟩=some (.slice (some aU) X.length ao)∧w'.cell? ⟨G,0,none⟩=some (.int .i64 ((ak z u).f0))∧w'.cell? ⟨G,1,none⟩=some (.int .i64 ((ak z u).f1))∧w'.cell? ⟨G,2,none⟩=some (.int .i64 ((ak z u).f2))∧w'.cell? ⟨G,3,none⟩=some (.int .i64 ((ak z u).f3))∧w'.cell? (aU.add (((ak z u).f1)).toNat)=some (.int .i64 (rd X ((ak z u).f1)))) (ds:=[]) #[false,false,false,false,false,false,false,false,false,false] (by kernel_rfl) rfl rfl ⟨cz D 0,cz D 1,cz D 2,cz I 0,cz I 1,cz I 2,cz I 3,(hW F a_)⟩ (fun hHeld=> ?_);refine fP dB.qu dB.pq (fun ai aE=> ?_);generalize cF.drew=dq at ad D I F aK hHeld ⊢;refine pA 0 (some 21) ai.out ?_;refine pA 2 (some 23) ai.out ?_;refine pA 7 (some 28) ai.out ?_;refine pT 1 (some 22) ai.out aE.out hHeld ?_;refine pT 3 (some 24) ai.out aE.out hHeld ?_;refine pA 4 (some 25) ai.out ?_;refine pT 5 (some 26) ai.out aE.out hHeld ?_;refine pT 6 (some 27) ai.out aE.out hHeld ?_;refine dh (i:=8) (N:=some 29) #[true,true,true,true,true,true,true,true,true,false] rfl rfl (cX ai.out (by kernel_rfl)) (by decide) (fun K hK=> ?_);refine cy Tryz.func131 (by kernel_rfl) rfl #[.agg #[.slice (some aR) V.length al,.int .i64 U,.slice (some aU) X.length ao],.int .i64 u] (by rfl) rfl rfl (by(try simp only[List.map_toArray,List.map_cons,List.map_nil]);first|done|rfl|(simp only[List.length_drop,List.length_take];rfl)) ?_
            with_reducible refine(fY.c k1 _ _ V U _ _ X u a2 _ ?a6 ?a7 ?cG ?cH bQ.out).mono ?_
            (case a6=>exact bO a5.out)
            (case a7=>exact a4.out)
            (case cG=>exact bO a3.out)
            (case cH=>exact bA.out)
            rintro e dr ⟨rfl,hb⟩;refine⟨_,rfl,?_⟩;have J:=A_ (Kd.aV (oR ad) hb);have O:=A_ (bb D hb);have Y:=A_ (bb I hb);have Z:=A_ (aC (oB F) hb);clear ad D I F;have ad:=J;have D:=O;have I:=Y;have F:=Z;clear J O Y Z
            (try clear hb)
            (try clear hb2)
            (try clear hk)
            (try clear hi)
            refine hK.out _ _ ⟨cz D 0,cz D 1,cz D 2,cz I 0,cz I 1,cz I 2,cz I 3,(hW F a_)⟩ (fun hHeld=> ?_);clear hK K;refine dL (a':= ?_) ?_ ?_;rotate_left
            ·show Act.put _ (some 29) _=_;simp only[Act.put,List.setIfInBounds_toArray,List.set_cons_zero,List.set_cons_succ,bG,bN];rfl
            refine pA 9 (some 30) ai.out ?_;refine eY (fH ai.out (by kernel_rfl)) ?_
            try go_wp2
            go_roundg k1
            case measure=>have:=bC.out;omega
            case rel=>exact⟨(aQ),(wrap64 (u+1)),eS,H',⟨by have:=bC.out;omega⟩,⟨oR ad⟩,⟨oK D⟩,⟨oB F⟩⟩
           ·rw[ag c19]at H;have ce:((rd X ((ak z u).f1))==a2)=false:=beq_eq_false_iff_ne.mpr c19;have cf:((rd X ((ak z u).f1)) != a2)=true:=bne_iff_ne.mpr c19;by_cases bD:aQ.length<17592186044416
            ·rw[af bD]at H;have cb:=A_ bD;clear bD;obtain⟨b6,bo⟩:∃bz:List Int,bz=(aQ++[u]):=⟨_,rfl⟩;replace H:(dB.l0 k1 b6 z (z.length:Int) (wrap64 (u+1)) V U X)=some r:=by first|(rw[bo];with_reducible exact H)|(have ap:=(aG _ _).symm.trans H;rw[bo];with_reducible exact ap)|(have ap:=(aG _ _).symm.trans H;with_reducible exact ap)|with_reducible exact H|(rw[bo];exact H)|exact H
             have cc:=A_ bo;clear bo;have H':=A_ H;clear H;have aW:0≤(u:Int):=oD;have a0:u<(z.length:Int):=oD;obtain⟨aR,bI,bc,bd,be,bf⟩:=eV bT.out u aW a0;cases bI;replace bc:=hW F bc;replace bd:=hW F bd;replace be:=hW F be;replace bf:=hW F bf;replace aW:=av aW;replace a0:=av a0
             try go_wp2_with (first|((with_reducible refine ax (N:=5) rfl ?_);refine bX (N:=5) (cs:= #[.int .i64 0,.int .i64 0,.int .i64 0,.int .i64 0]) (t:=110) ?_;intro G hg bx au hb;have J:=A_ (Kd.aV (oR ad) hb);have O:=A_ (bb D hb);have Y:=A_ (aC (oB F) hb);have Z:=A_ (au);have bp:=A_ ((by rw[hg];exact(aA (oB F)):w.heap.size≤G));have bq:=A_ ((by rw[hg];exact(aA (oB F)):w.heap.size≤G));have bs:=A_ (nL D hg);have bt:=A_ (nG D hg);clear ad D F;have ad:=J;have D:=O;have F:=Y;have I:=Z;have b_:=bp;have b8:=bq;have aq:=bs;have bH:=bt;clear J O Y Z bp bq bs bt hb au hg;have dg:=bH.out;have dj:=aq.out;have cT:=cz I 0;have cU:=cz I 1;have cV:=cz I 2;have cW:=cz I 3;have c_:=ar I.out 0;have c':=ar I.out 1;have da:=ar I.out 2;have db:=ar I.out 3))
             have J:ae (Kd.R (Kd.int .i64) 3 ((((bx.setCell ⟨G,0,none⟩ (.int .i64 ((ak z u).f0))).setCell ⟨G,1,none⟩ (.int .i64 ((ak z u).f1))).setCell ⟨G,2,none⟩ (.int .i64 ((ak z u).f2))).setCell ⟨G,3,none⟩ (.int .i64 ((ak z u).f3))) w.heap.size (fun _=>True) u3 aQ):=⟨by(with_reducible repeat(first|apply Kd.bm|apply Kd.br|apply Kd.a8));exact Kd.bh (Kd.aJ (p:=⟨G,3,none⟩) (Kd.aJ (p:=⟨G,2,none⟩) (Kd.aJ (p:=⟨G,1,none⟩) (Kd.aJ (p:=⟨G,0,none⟩) (Kd.dD ad.out I.out (by decide)) (fun _ hk=>hk.2) (.int .i64 ((ak z u).f0))) (fun _ hk=>hk.2) (.int .i64 ((ak z u).f1))) (fun _ hk=>hk.2) (.int .i64 ((ak z u).f2))) (fun _ hk=>hk.2) (.int .i64 ((ak z u).f3))) (fun _ hk=>trivial)⟩;have O:ae (((((bx.setCell ⟨G,0,none⟩ (.int .i64 ((ak z u).f0))).setCell ⟨G,1,none⟩ (.int .i64 ((ak z u).f1))).setCell ⟨G,2,none⟩ (.int .i64 ((ak z u).f2))).setCell ⟨G,3,none⟩ (.int .i64 ((ak z u).f3))).heap[am]? =some (.cells #[.slice (some aR) V.length al,.int .i64 U,.slice az X.length ao] 27 (0,0))):=⟨by(with_reducible repeat(first|refine aT ?_ _|refine aM ?_|refine aN ?_ _));refine dx ?_ aq.out _;(with_reducible repeat(first|refine aT ?_ _|refine aM ?_|refine aN ?_ _));refine dx ?_ aq.out _;(with_reducible repeat(first|refine aT ?_ _|refine aM ?_|refine aN ?_ _));refine dx ?_ aq.out _;(with_reducible repeat(first|refine aT ?_ _|refine aM ?_|refine aN ?_ _));refine dx ?_ aq.out _;(with_reducible repeat(first|refine aT ?_ _|refine aM ?_|refine aN ?_ _));exact D.out⟩;have Y:ae (((((bx.setCell ⟨G,0,none⟩ (.int .i64 ((ak z u).f0))).setCell ⟨G,1,none⟩ (.int .i64 ((ak z u).f1))).setCell ⟨G,2,none⟩ (.int .i64 ((ak z u).f2))).setCell ⟨G,3,none⟩ (.int .i64 ((ak z u).f3))).heap[G]? =some (.cells #[.int .i64 ((ak z u).f0),.int .i64 ((ak z u).f1),.int .i64 ((ak z u).f2),.int .i64 ((ak z u).f3)] 110 (0,0))):=⟨by(with_reducible repeat(first|refine aT ?_ _|refine aM ?_|refine aN ?_ _));refine bw (cs:= #[.int .i64 ((ak z u).f0),.int .i64 ((ak z u).f1),.int .i64 ((ak z u).f2),.int .i64 0]) ?_ 3 _ rfl;(with_reducible repeat(first|refine aT ?_ _|refine aM ?_|refine aN ?_ _));refine bw (cs:= #[.int .i64 ((ak z u).f0),.int .i64 ((ak z u).f1),.int .i64 0,.int .i64 0]) ?_ 2 _ rfl;(with_reducible repeat(first|refine aT ?_ _|refine aM ?_|refine aN ?_ _));refine bw (cs:= #[.int .i64 ((ak z u).f0),.int .i64 0,.int .i64 0,.int .i64 0]) ?_ 1 _ rfl;(with_reducible repeat(first|refine aT ?_ _|refine aM ?_|refine aN ?_ _));refine bw (cs:= #[.int .i64 0,.int .i64 0,.int .i64 0,.int .i64 0]) ?_ 0 _ rfl;(with_reducible repeat(first|refine aT ?_ _|refine aM ?_|refine aN ?_ _));exact I.out⟩;have Z:ae (Below w.heap.size w ((((bx.setCell ⟨G,0,none⟩ (.int .i64 ((ak z u).f0))).setCell ⟨G,1,none⟩ (.int .i64 ((ak z u).f1))).setCell ⟨G,2,none⟩ (.int .i64 ((ak z u).f2))).setCell ⟨G,3,none⟩ (.int .i64 ((ak z u).f3)))):=⟨oB F⟩
             (try clear ad)
             (try clear D)
             (try clear I)
             (try clear F)
             generalize ((((bx.setCell ⟨G,0,none⟩ (.int .i64 ((ak z u).f0))).setCell ⟨G,1,none⟩ (.int .i64 ((ak z u).f1))).setCell ⟨G,2,none⟩ (.int .i64 ((ak z u).f2))).setCell ⟨G,3,none⟩ (.int .i64 ((ak z u).f3)))=cI at J O Y Z ⊢;have ad:=J;have D:=O;have I:=Y;have F:=Z;clear J O Y Z;have J:=A_ (Kd.a8 ad.out);have O:=A_ (aM D.out);have Y:=A_ (aM I.out);have Z:=A_ (cr F.out);clear ad D I F;have ad:=J;have D:=O;have I:=Y;have F:=Z;clear J O Y Z;have aY:0≤(((ak z u).f1):Int):=oD;have a1:((ak z u).f1)<(X.length:Int):=oD;obtain⟨aU,bJ,aK⟩:=Kd.dG a3.out ((ak z u).f1) aY a1;have a_:=aK;cases bJ;replace aK:=hW F aK;replace aY:=av aY;replace a1:=av a1;refine fk (n:=10) (S:=fun w'=>w'.cell? ⟨am,0,none⟩=some (.slice (some aR) V.length al)∧w'.cell? ⟨am,1,none⟩=some (.int .i64 U)∧w'.cell? ⟨am,2,none⟩=some (.slice (some aU) X.length ao)∧w'.cell? ⟨G,0,none⟩=some (.int .i64 ((ak z u).f0))∧w'.cell? ⟨G,1,none⟩=some (.int .i64 ((ak z u).f1))∧w'.cell? ⟨G,2,none⟩=some (.int .i64 ((ak z u).f2))∧w'.cell? ⟨G,3,none⟩=some (.int .i64 ((ak z u).f3))∧w'.cell? (aU.add (((ak z u).f1)).toNat)=some (.int .i64 (rd X ((ak z u).f1)))) (ds:=[]) #[false,false,false,false,false,false,false,false,false,false] (by kernel_rfl) rfl rfl ⟨cz D 0,cz D 1,cz D 2,cz I 0,cz I 1,cz I 2,cz I 3,(hW F a_)⟩ (fun hHeld=> ?_);refine fP dB.qu dB.pq (fun ai aE=> ?_);generalize cI.drew=dt at ad D I F aK hHeld ⊢;refine pA 0 (some 21) ai.out ?_;refine pA 2 (some 23) ai.out ?_;refine pA 7 (some 28) ai.out ?_;refine pT 1 (some 22) ai.out aE.out hHeld ?_;refine pT 3 (some 24) ai.out aE.out hHeld ?_;refine pA 4 (some 25) ai.out ?_;refine pT 5 (some 26) ai.out aE.out hHeld ?_;refine pT 6 (some 27) ai.out aE.out hHeld ?_;refine dh (i:=8) (N:=some 29) #[true,true,true,true,true,true,true,true,true,false] rfl rfl (cX ai.out (by kernel_rfl)) (by decide) (fun K hK=> ?_);refine cy Tryz.func131 (by kernel_rfl) rfl #[.agg #[.slice (some aR) V.length al,.int .i64 U,.slice (some aU) X.length ao],.int .i64 u] (by rfl) rfl rfl (by(try simp only[List.map_toArray,List.map_cons,List.map_nil]);first|done|rfl|(simp only[List.length_drop,List.length_take];rfl)) ?_
             with_reducible refine(fY.c k1 _ _ V U _ _ X u a2 _ ?a6 ?a7 ?cG ?cH bQ.out).mono ?_
             (case a6=>exact bO a5.out)
             (case a7=>exact a4.out)
             (case cG=>exact bO a3.out)
             (case cH=>exact bA.out)
             rintro e du ⟨rfl,hb⟩;refine⟨_,rfl,?_⟩;have J:=A_ (Kd.aV (oR ad) hb);have O:=A_ (bb D hb);have Y:=A_ (bb I hb);have Z:=A_ (aC (oB F) hb);clear ad D I F;have ad:=J;have D:=O;have I:=Y;have F:=Z;clear J O Y Z
             (try clear hb)
             (try clear hb2)
             (try clear hk)
             (try clear hi)
             refine hK.out _ _ ⟨cz D 0,cz D 1,cz D 2,cz I 0,cz I 1,cz I 2,cz I 3,(hW F a_)⟩ (fun hHeld=> ?_);clear hK K;refine dL (a':= ?_) ?_ ?_;rotate_left
             ·show Act.put _ (some 29) _=_;simp only[Act.put,List.setIfInBounds_toArray,List.set_cons_zero,List.set_cons_succ,bG,bN];rfl
             refine pA 9 (some 30) ai.out ?_;refine eY (fH ai.out (by kernel_rfl)) ?_
             try go_wp2_with (first|((with_reducible refine dP (b:= .append) (xs:= #[.tmp 31,.tmp 33]) rfl ?_);at_builtin;refine Kd.eF (Kd.int .i64) (w0:=w) w.heap.size rfl (.tmp 31) (.tmp 33) 25 3 (.int .i64 0) 8 rfl Tryz.underlying25 info3 rfl (by decide) (by omega) u3 aQ u [.int .i64 u] (fun _=>True) (fun _=>False) rfl rfl ?aP (fun _ hk=>hk.elim) ?aF ?aO ?aB ?aS ?aL ?_;(case aP=>exact rfl);(case aB=>exact(oB F));(case aF=>exact(fun _ _=>trivial));(case aO=>exact(oR ad));(case aS=>exact(aA (oB F)));(case aL=>have:=cb.out;omega);intro dp dv ho hb hg hat;rw[←cc.out]at ho;have J:=A_ (bg D hg (Kd.fU ad.out D.out (by decide)));have O:=A_ (bg I hg (Kd.fU ad.out I.out (by decide)));have Y:=A_ (hb);have Z:=A_ (ho);clear D I F ad;have D:=J;have I:=O;have F:=Y;have ca:=Z;clear J O Y Z ho hb hg hat))
             go_roundg k1
             case measure=>have:=bC.out;omega
             case rel=>exact⟨(b6),(wrap64 (u+1)),eS,H',⟨by have:=bC.out;omega⟩,⟨oR ca⟩,⟨oK D⟩,⟨oB F⟩⟩
            ·rw[ag bD]at H;exact absurd H (by simp)
          ·rw[ag c17]at H;exact absurd H (by simp)
         ·rw[ag c16]at H;exact absurd H (by simp)
        ·rw[ag c15]at H;exact absurd H (by simp)
       ·rw[ag c14]at H;exact absurd H (by simp)
      ·rw[ag c13]at H;have cd:decide (u<(z.length:Int))=false:=ay c13;clear c13;obtain rfl:=aH H;go_wp2;go_ret;exact⟨_,eR,oR ad,oB F⟩
   ·rw[ag c5]at H;exact absurd H (by simp)
  ·rw[ag c4]at H;exact absurd H (by simp)
 ·replace c3:=Bool.eq_false_iff.mpr c3;subst c3;rw[ag (show¬(false=true)by decide)]at H;obtain rfl:=aH H;go_enter Tryz.func100,Tryz.ntmps100
  go_wp2_with (first|((with_reducible refine ax (N:=1) rfl ?_);refine bX (N:=1) (cs:= #[.slice aw V.length al,.int .i64 U,.slice az X.length ao]) (t:=27) ?_;intro am hg dw au hb;have J:=A_ (aC (oB F) hb);have O:=A_ (au);have Y:=A_ ((by rw[hg];exact(aA (oB F)):w.heap.size≤am));have Z:=A_ ((by rw[hg];exact(aA (oB F)):w.heap.size≤am));clear F;have F:=J;have D:=O;have b9:=Y;have b7:=Z;clear J O Y Z hb au hg;have cY:=cz D 0;have cZ:=cz D 1;have c0:=cz D 2;have dc:=ar D.out 0;have dd:=ar D.out 1;have de:=ar D.out 2)|((with_reducible refine aZ (f:=55) rfl ?_);refine gL (some 7) Tryz.func55 #[.agg #[.slice aw V.length al,.int .i64 U,.slice az X.length ao]] ?_;(with_reducible refine(gb.c _ _ V U _ _ X false _ ?a6 ?a7 ?cG ?cH A2.out).mono ?_);(case a6=>exact bO a5.out);(case a7=>exact a4.out);(case cG=>exact bO a3.out);(case cH=>exact bA.out);rintro e dy ⟨rfl,hb⟩;refine⟨_,rfl,?_⟩;have J:=A_ (bb D hb);have O:=A_ (aC (oB F) hb);clear D F;have D:=J;have F:=O;clear J O;(try clear hb);(try clear hb2);(try clear hk);(try clear hi)))
  go_ret;exact⟨_,eR,by first|exact Kd.bj _ _ _ _ _|exact Kd.jF _ _ _ _ _|exact Kd.jI _ _ _ _ _|exact Kd.jG _ _ _ _ _|exact Kd.jH _ _ _ _ _,oB F⟩
mutual
def cM.j0:Nat→Int→List (aj)→Bool→Option (List Int×Bool)
 |0,_,_,_=>none
 |k+1,x0,x1,z=>if z=true then(some (([]:List Int),false))else(if 12≤35184372088832 then((some (List.replicate 12 0:List Int)).bind fun u=>(if 0<(u.length:Int)then(cM.l0 k (u.set (0:Int).toNat x0) x1 (x1.length:Int) 0)else(none)))else(none))
def cM.l0:Nat→List Int→List (aj)→Int→Int→Option (List Int×Bool)
 |0,_,_,_,_=>none
 |k+1,D,z,G,u=>if u<G then(if 0≤u then(if u<(z.length:Int)then(if 0≤((ak z u).f0)then(if((ak z u).f0)<(D.length:Int)then((ey.f k (rd D ((ak z u).f0)) ((ak z u).f2) ((ak z u).f3)).bind fun F=>(if 0≤((ak z u).f1)then(if((ak z u).f1)<(D.length:Int)then(if F=0 then(some (([]:List Int),false))else(cM.l0 k (D.set (((ak z u).f1):Int).toNat F) z G (wrap64 (u+1))))else(none))else(none)))else(none))else(none))else(none))else(none))else(some (D,true))
end
def cM.f (k:Nat) (a0:Int) (l1:List (aj)):Option (List Int×Bool):=(k9.f l1).bind fun u=>(if u=true then((df.f a0).bind fun z=>(cM.j0 k a0 l1 (!z)))else(cM.j0 k a0 l1 true))
def cM.T8:Bool×List (List Nat×List Nat):=(true,[([],[]),([],[]),([1],[1]),([],[]),([],[]),([4],[4]),([3,5],[3,5]),([6],[6]),([],[]),([8],[8]),([],[]),([10],[10]),([7,9,11],[7,9,11]),([0,2,0,1,2,3,4,5,6,7,8,9,10,11,12],[0,2]),([13,12,12,0,1,2,3,4,5,6,7,8,9,10,11,12],[12,13])])
def cM.B8:List Nat:=[0,0,2,0,0,16,56,120,0,256,0,1024,4088,8191,16383]
theorem cM.ju:bo .any (opsOf Tryz.f127 8)=cM.T8:=by kernel_rfl
theorem cM.iX:cp cM.T8.2 cM.B8=true:=by kernel_rfl
theorem cM.c (k:Nat) (a0:Int) (A1:Option Addr) (c1:Nat) (l1:List (aj)) (r1:List Int) (r2:Bool) (w:World) (hr1:Kd.C aX w A1 l1.length l1) (hc1:l1.length≤c1) (h:cM.f k a0 l1=some (r1,r2)):
  Calls Tryz.prog 127 #[.int .i64 a0,.slice A1 l1.length c1] w fun e w'=>∃b6:Value,e= .returned (.tuple #[b6,.bool r2])∧Kd.R (Kd.int .i64) 3 w' w.heap.size (fun _=>True) b6 r1∧Below w.heap.size w w':=by
 have dn:=Tryz.underlying110;have bc:=A_ hr1;have bT:=A_ hc1;clear hr1 hc1;have D:=A_ (Below.refl w.heap.size w);have H:((k9.f l1).bind fun bJ=>(if bJ=true then((df.f a0).bind fun bo=>(cM.j0 k a0 l1 (!bo)))else(cM.j0 k a0 l1 true)))=some (r1,r2):=h;clear h;have bt:=A_ H;clear H;go_enter Tryz.func127,Tryz.ntmps127
 go_upto_region 1 with (fail)
 go_cut [16] (fun v16 wc=>∃(aq:Nat) (bs:Bool),v16= .bool bs∧ae (cM.j0 aq a0 l1 bs=some (r1,r2))∧ae (aq≤k)∧ae (Below w.heap.size w wc))
 case first=>
  have H:=bt.out;clear bt;replace H:=aD H;obtain⟨bJ,bR,H⟩:=H
  (try dsimp only at H)
  have bQ:=A_ bR;clear bR;by_cases c5:bJ=true
  ·subst c5;rw[af rfl]at H;replace H:=aD H;obtain⟨bo,bS,H⟩:=H
   (try dsimp only at H)
   have b9:=A_ bS;clear bS;have H':=A_ H;clear H
   go_wp2_with (first|((with_reducible refine aZ (f:=97) rfl ?_);refine gL (some 10) Tryz.func97 #[.slice A1 l1.length c1] ?_;(with_reducible refine(k9.c _ _ l1 true _ ?a6 ?a7 bQ.out).mono ?_);(case a6=>exact bO bc.out);(case a7=>exact bT.out);rintro e w7 ⟨rfl,hb⟩;refine⟨_,rfl,?_⟩;have I:=A_ (aC (oB D) hb);clear D;have D:=I;clear I;(try clear hb);(try clear hb2);(try clear hk);(try clear hi))|(go_at_call 98;(with_reducible refine(df.c a0 bo _ b9.out).mono ?_);rintro e w' ⟨rfl,⟨nd,rfl⟩⟩))
   go_meet
   case rel=>exact⟨_,(!bo),eS,H',⟨by first|omega|exact Nat.le_refl _⟩,⟨oB D⟩⟩
  ·replace c5:=Bool.eq_false_iff.mpr c5;subst c5;rw[ag (show¬(false=true)by decide)]at H;have H':=A_ H;clear H
   go_wp2_with (first|((with_reducible refine aZ (f:=97) rfl ?_);refine gL (some 10) Tryz.func97 #[.slice A1 l1.length c1] ?_;(with_reducible refine(k9.c _ _ l1 false _ ?a6 ?a7 bQ.out).mono ?_);(case a6=>exact bO bc.out);(case a7=>exact bT.out);rintro e dv ⟨rfl,hb⟩;refine⟨_,rfl,?_⟩;have I:=A_ (aC (oB D) hb);clear D;have D:=I;clear I;(try clear hb);(try clear hb2);(try clear hk);(try clear hi)))
   go_meet
   case rel=>exact⟨_,(true),eS,H',⟨by first|omega|exact Nat.le_refl _⟩,⟨oB D⟩⟩
 case rest=>
  clear bt
  try clear c1
  try clear p2
  try clear c5
  obtain⟨aq,bs,rfl,am,bV,D⟩:=hcut;cases aq with
  |zero=>exact absurd am.out (by simp[cM.j0])
  |succ bn=>
   have H:=am.out;clear am;simp only[cM.j0]at H;by_cases c9:bs=true
   ·subst c9;rw[af rfl]at H;simp only[Option.some.injEq,Prod.mk.injEq]at H;obtain⟨rfl,rfl⟩:=H;go_wp2;go_ret2;exact⟨_,eR,by first|exact Kd.bj _ _ _ _ _|exact Kd.jF _ _ _ _ _|exact Kd.jI _ _ _ _ _|exact Kd.jG _ _ _ _ _|exact Kd.jH _ _ _ _ _,oB D⟩
   ·replace c9:=Bool.eq_false_iff.mpr c9;subst c9;rw[ag (show¬(false=true)by decide)]at H;by_cases c10:12≤35184372088832
    ·rw[af c10]at H;have ce:=av c10;have cf:decide (12≤35184372088832)=true:=ah c10;clear c10;obtain⟨al,aU⟩:∃a_:List Int,a_=(List.replicate 12 0):=⟨_,rfl⟩;replace H:(if 0<(al.length:Int)then(cM.l0 bn (al.set (0:Int).toNat a0) l1 (l1.length:Int) 0)else(none))=some (r1,r2):=by first|(rw[aU];with_reducible exact H)|(have Z:=(aG _ _).symm.trans H;rw[aU];with_reducible exact Z)|(have Z:=(aG _ _).symm.trans H;with_reducible exact Z)|with_reducible exact H|(rw[aU];exact H)|exact H
     have bZ:=A_ aU;clear aU;by_cases c11:0<(al.length:Int)
     ·rw[af c11]at H;have cg:decide (0<(al.length:Int))=true:=ah c11;have ch:decide (0<al.length)=true:=ah (by omega);clear c11;obtain⟨bL,aW⟩:∃a_:List Int,a_=(al.set (0:Int).toNat a0):=⟨_,rfl⟩;replace H:(cM.l0 bn bL l1 (l1.length:Int) 0)=some (r1,r2):=by first|(rw[aW];with_reducible exact H)|(have Z:=(aG _ _).symm.trans H;rw[aW];with_reducible exact Z)|(have Z:=(aG _ _).symm.trans H;with_reducible exact Z)|with_reducible exact H|(rw[aW];exact H)|exact H
      have cc:=A_ aW;clear aW;have H':=A_ H;clear H
      go_wp2_with (first|((with_reducible refine ax (N:=17) rfl ?_);refine Kd.rh (Kd.int .i64) _ 3 rfl (N:=17) rfl 25 _ _ rfl 12 rfl rfl Tryz.underlying25 (.int .i64 0) 8 info3 rfl (by decide) (by omega) 0 (ok:=fun _=>True) (bB:=fun _=>True) rfl (fun _ hk=>hk) trivial (by omega) (by omega) (Below.refl _ _) (Nat.le_refl _) ?_;intro dr b7 aO hb cq ct;clear cq ct;(first|rw[←bZ.out]at aO|(simp only[Int.reduceToNat]at aO;rw[←bZ.out]at aO));have I:=A_ (Kd.bE aO (aA (oB D)));have O:=A_ (aC (oB D) hb);clear D;have ao:=I;have D:=O;clear I O hb aO;have a4:0≤(0:Int):=(by omega);have a5:(0:Int)<((al.length:Int):Int):=oD;have cv:(0<al.length)=True:=av (by omega);obtain⟨Y,bf,b0,b1,cn,cJ,bU⟩:=Kd.kR ao.out (by omega);(first|cases b0|(injection b0 with bg cm cl;(first|subst bg|(injection bg with bg;subst bg));subst cl;clear cm));have b_:=A_ b1;have cC:=A_ bU;clear b1 cn bU;obtain⟨bI,b2⟩:=Kd.gC 0 ao.out (0:Int) a4 a5;(try rw[show((0:Int)).toNat=0 from rfl]at bI);(try simp only[Nat.reduceMul,Nat.zero_mul,Nat.zero_add,Nat.reduceAdd]at bI);(try rw[show((0:Int)).toNat=0 from rfl]at b2);(try simp only[Nat.reduceMul,Nat.zero_mul,Nat.zero_add,Nat.reduceAdd]at b2);replace a4:=av a4;replace a5:=av a5;obtain⟨b4,b5⟩:=Kd.gC 0 ao.out (0:Int) (by omega) (oD);(try simp only[Int.reduceToNat,Int.toNat_zero,Int.toNat_ofNat,Nat.reduceMul,Nat.zero_mul,Nat.zero_add]at b4 b5);(try rw[show((0:Int)).toNat=0 from rfl]at b4);(try rw[show((0:Int)).toNat=0 from rfl]at b5);have bu:=Kd.lI ao.out (0:Int) a0)|((with_reducible refine ma (t:=3) (p:=20) rfl ?_);refine mO (t:=3) (p:=20) (v:= ?Da) (w1:=(b7.setCell ⟨Y,(0:Int).toNat,none⟩ (.int .i64 a0))) ?hg ?ho ?hn ?hr ?_;(case ho=>rfl);(case hg=>rfl);(case hn=>rfl);(case hr=>first|(go_simp;done)|(go_simp;rfl));intro bK hw;have hg:b7.grownBy bK (some Y):=(by rw[hw];exact bu.2);have b3:Kd.R (Kd.int .i64) 3 bK w.heap.size (fun _=>True) (.slice (some ⟨Y,0,none⟩) al.length bf) bL:=(by rw[hw,cc.out];exact bu.1);clear bu;have I:=A_ (b3);have O:=A_ ((by rw[hw];exact fo (D.out) b_.out:Below w.heap.size w bK));clear ao D;have ao:=I;have D:=O;clear I O hg hw b3))
      go_loopg [23] bn (fun aq v23 w'=>∃(U:List Int) (u:Int),v23= .int .i64 u∧ae (cM.l0 aq U l1 (l1.length:Int) u=some (r1,r2))∧ae (aq≤bn)∧ae (Kd.R (Kd.int .i64) 3 w' w.heap.size (fun _=>True) (.slice (some ⟨Y,0,none⟩) al.length bf) U)∧ae (Below w.heap.size w w'))
      case atStart=>exact⟨(bL),(0),eS,H',⟨Nat.le_refl _⟩,⟨oR ao⟩,⟨oB D⟩⟩
      case round=>
       clear H'
       try clear c1
       try clear p1
       try clear q1
       try clear hx1
       try clear dq
       try clear p2
       try clear c5
       try clear c9
       try clear c10
       try clear ce
       try clear cf
       try clear c11
       try clear cg
       try clear ch
       try clear c12
       try clear a4
       try clear a5
       try clear dp
       try clear cv
       try clear c4
       try clear bI
       try clear a4
       try clear p2
       try clear a5
       obtain⟨U,u,rfl,am,bW,G,D⟩:=hrel;have bk:=(Kd.aY G.out).1;rw[bk]at G
       (try simp only[bk])
       cases gk with
       |zero=>exact absurd am.out (by simp[cM.l0])
       |succ k2=>
        have H:=am.out;clear am;simp only[cM.l0]at H;by_cases c17:u<(l1.length:Int)
        ·rw[af c17]at H;have ci:decide (u<(l1.length:Int))=true:=ah c17;clear c17;by_cases c18:0≤u
         ·rw[af c18]at H;have cD:decide (0≤u)=true:=ah c18;clear c18;by_cases c19:u<(l1.length:Int)
          ·rw[af c19]at H;have cE:decide (u<(l1.length:Int))=true:=ah c19;clear c19;by_cases c20:0≤((ak l1 u).f0)
           ·rw[af c20]at H;have cF:decide (0≤((ak l1 u).f0))=true:=ah c20;clear c20;by_cases c21:((ak l1 u).f0)<(U.length:Int)
            ·rw[af c21]at H;have cG:decide (((ak l1 u).f0)<(U.length:Int))=true:=ah c21;clear c21;replace H:=aD H;obtain⟨X,bP,H⟩:=H
             (try dsimp only at H)
             have bM:=A_ bP;clear bP;by_cases be:0≤((ak l1 u).f1)
             ·rw[af be]at H;have cH:decide (0≤((ak l1 u).f1))=true:=ah be;clear be;by_cases c24:((ak l1 u).f1)<(U.length:Int)
              ·rw[af c24]at H;have cI:decide (((ak l1 u).f1)<(U.length:Int))=true:=ah c24;clear c24;obtain⟨b8,a1⟩:∃a_:List Int,a_=(U.set (((ak l1 u).f1):Int).toNat X):=⟨_,rfl⟩;replace H:(if X=0 then(some (([]:List Int),false))else(cM.l0 k2 b8 l1 (l1.length:Int) (wrap64 (u+1))))=some (r1,r2):=by first|(rw[a1];with_reducible exact H)|(have Z:=(aG _ _).symm.trans H;rw[a1];with_reducible exact Z)|(have Z:=(aG _ _).symm.trans H;with_reducible exact Z)|with_reducible exact H|(rw[a1];exact H)|exact H
               have bd:=A_ a1;clear a1;by_cases ap:X=0
               ·rw[af ap]at H;have cj:(X==0)=true:=beq_iff_eq.mpr ap;have ck:(X != 0)=false:=bne_eq_false_iff_eq.mpr ap;clear ap;simp only[Option.some.injEq,Prod.mk.injEq]at H;obtain⟨rfl,rfl⟩:=H;have au:0≤(u:Int):=oD;have aE:u<(l1.length:Int):=oD;obtain⟨cd,bC,aP,aQ,aR,aS⟩:=eV bc.out u au aE;cases bC;replace aP:=hW D aP;replace aQ:=hW D aQ;replace aR:=hW D aR;replace aS:=hW D aS;replace au:=av au;replace aE:=av aE
                try go_wp2_with (first|((with_reducible refine ax (N:=8) rfl ?_);refine bX (N:=8) (cs:= #[.int .i64 0,.int .i64 0,.int .i64 0,.int .i64 0]) (t:=110) ?_;intro F hg bp aK hb;have I:=A_ (Kd.aV (oR G) hb);have O:=A_ (aC (oB D) hb);have V:=A_ (aK);have a2:=A_ ((by rw[hg];exact(aA (oB D)):w.heap.size≤F));have a3:=A_ ((by rw[hg];exact(aA (oB D)):w.heap.size≤F));clear G D;have G:=I;have D:=O;have z:=V;have ca:=a2;have b':=a3;clear I O V a2 a3 hb aK hg;have cK:=cz z 0;have cL:=cz z 1;have cN:=cz z 2;have cO:=cz z 3;have c6:=ar z.out 0;have c7:=ar z.out 1;have c8:=ar z.out 2;have c_:=ar z.out 3))
                have I:ae (Kd.R (Kd.int .i64) 3 ((((bp.setCell ⟨F,0,none⟩ (.int .i64 ((ak l1 u).f0))).setCell ⟨F,1,none⟩ (.int .i64 ((ak l1 u).f1))).setCell ⟨F,2,none⟩ (.int .i64 ((ak l1 u).f2))).setCell ⟨F,3,none⟩ (.int .i64 ((ak l1 u).f3))) w.heap.size (fun _=>True) (.slice (some ⟨Y,0,none⟩) U.length bf) U):=⟨by(with_reducible repeat(first|apply Kd.bm|apply Kd.br|apply Kd.a8));exact Kd.bh (Kd.aJ (p:=⟨F,3,none⟩) (Kd.aJ (p:=⟨F,2,none⟩) (Kd.aJ (p:=⟨F,1,none⟩) (Kd.aJ (p:=⟨F,0,none⟩) (Kd.dD G.out z.out (by decide)) (fun _ hk=>hk.2) (.int .i64 ((ak l1 u).f0))) (fun _ hk=>hk.2) (.int .i64 ((ak l1 u).f1))) (fun _ hk=>hk.2) (.int .i64 ((ak l1 u).f2))) (fun _ hk=>hk.2) (.int .i64 ((ak l1 u).f3))) (fun _ hk=>trivial)⟩;have O:ae (((((bp.setCell ⟨F,0,none⟩ (.int .i64 ((ak l1 u).f0))).setCell ⟨F,1,none⟩ (.int .i64 ((ak l1 u).f1))).setCell ⟨F,2,none⟩ (.int .i64 ((ak l1 u).f2))).setCell ⟨F,3,none⟩ (.int .i64 ((ak l1 u).f3))).heap[F]? =some (.cells #[.int .i64 ((ak l1 u).f0),.int .i64 ((ak l1 u).f1),.int .i64 ((ak l1 u).f2),.int .i64 ((ak l1 u).f3)] 110 (0,0))):=⟨by(with_reducible repeat(first|refine aT ?_ _|refine aM ?_|refine aN ?_ _));refine bw (cs:= #[.int .i64 ((ak l1 u).f0),.int .i64 ((ak l1 u).f1),.int .i64 ((ak l1 u).f2),.int .i64 0]) ?_ 3 _ rfl;(with_reducible repeat(first|refine aT ?_ _|refine aM ?_|refine aN ?_ _));refine bw (cs:= #[.int .i64 ((ak l1 u).f0),.int .i64 ((ak l1 u).f1),.int .i64 0,.int .i64 0]) ?_ 2 _ rfl;(with_reducible repeat(first|refine aT ?_ _|refine aM ?_|refine aN ?_ _));refine bw (cs:= #[.int .i64 ((ak l1 u).f0),.int .i64 0,.int .i64 0,.int .i64 0]) ?_ 1 _ rfl;(with_reducible repeat(first|refine aT ?_ _|refine aM ?_|refine aN ?_ _));refine bw (cs:= #[.int .i64 0,.int .i64 0,.int .i64 0,.int .i64 0]) ?_ 0 _ rfl;(with_reducible repeat(first|refine aT ?_ _|refine aM ?_|refine aN ?_ _));exact z.out⟩;have V:ae (Below w.heap.size w ((((bp.setCell ⟨F,0,none⟩ (.int .i64 ((ak l1 u).f0))).setCell ⟨F,1,none⟩ (.int .i64 ((ak l1 u).f1))).setCell ⟨F,2,none⟩ (.int .i64 ((ak l1 u).f2))).setCell ⟨F,3,none⟩ (.int .i64 ((ak l1 u).f3)))):=⟨oB D⟩
                (try clear G)
                (try clear z)
                (try clear D)
                generalize ((((bp.setCell ⟨F,0,none⟩ (.int .i64 ((ak l1 u).f0))).setCell ⟨F,1,none⟩ (.int .i64 ((ak l1 u).f1))).setCell ⟨F,2,none⟩ (.int .i64 ((ak l1 u).f2))).setCell ⟨F,3,none⟩ (.int .i64 ((ak l1 u).f3)))=cw at I O V ⊢;have G:=I;have z:=O;have D:=V;clear I O V;have I:=A_ (Kd.a8 G.out);have O:=A_ (aM z.out);have V:=A_ (cr D.out);clear G z D;have G:=I;have z:=O;have D:=V;clear I O V;have aw:0≤(((ak l1 u).f0):Int):=oD;have aF:((ak l1 u).f0)<(U.length:Int):=oD;obtain⟨bA,bD,ai⟩:=Kd.dG (Kd.aY G.out).2.2 ((ak l1 u).f0) aw aF;obtain rfl:(⟨Y,0,none⟩:Addr)=bA:=(by injection bD)
                (first|simp only[add_plain]at ai|simp only[pj]at ai|simp only[Addr.add,Nat.zero_add]at ai|skip)
                replace aw:=av aw;replace aF:=av aF;refine fk (n:=15) (S:=fun w'=>w'.cell? ⟨F,0,none⟩=some (.int .i64 ((ak l1 u).f0))∧w'.cell? ⟨F,1,none⟩=some (.int .i64 ((ak l1 u).f1))∧w'.cell? ⟨F,2,none⟩=some (.int .i64 ((ak l1 u).f2))∧w'.cell? ⟨F,3,none⟩=some (.int .i64 ((ak l1 u).f3))∧w'.cell? ⟨Y,(((ak l1 u).f0)).toNat,none⟩=some (.int .i64 (rd U ((ak l1 u).f0)))) (ds:=[14]) #[false,false,false,false,false,false,false,false,false,false,false,false,false,false,false] (by kernel_rfl) rfl rfl ⟨cz z 0,cz z 1,cz z 2,cz z 3,ai⟩ (fun hHeld=> ?_);refine fP cM.ju cM.iX (fun J ad=> ?_);generalize cw.drew=dt at G z D ai hHeld ⊢;refine pA 0 (some 27) J.out ?_;refine pA 1 (some 28) J.out ?_;refine pA 3 (some 30) J.out ?_;refine pA 4 (some 31) J.out ?_;refine pA 8 (some 35) J.out ?_;refine pA 10 (some 37) J.out ?_;refine pT 2 (some 29) J.out ad.out hHeld ?_;refine pT 5 (some 32) J.out ad.out hHeld ?_;refine pA 6 (some 33) J.out ?_;refine pT 7 (some 34) J.out ad.out hHeld ?_;refine pT 9 (some 36) J.out ad.out hHeld ?_;refine pT 11 (some 38) J.out ad.out hHeld ?_;refine dh (i:=12) (N:=some 39) #[true,true,true,true,true,true,true,true,true,true,true,true,true,false,false] rfl rfl (cX J.out (by kernel_rfl)) (by decide) (fun K hK=> ?_);refine cy Tryz.func146 (by kernel_rfl) rfl #[.int .i64 (rd U ((ak l1 u).f0)),.int .i64 ((ak l1 u).f2),.int .i64 ((ak l1 u).f3)] (by rfl) rfl rfl (by(try simp only[List.map_toArray,List.map_cons,List.map_nil]);first|done|rfl|(simp only[List.length_drop,List.length_take];rfl)) ?_
                with_reducible refine(ey.c k2 (rd U ((ak l1 u).f0)) ((ak l1 u).f2) ((ak l1 u).f3) X _ bM.out).mono ?_
                rintro e cx ⟨rfl,hb⟩;have bz:=(hb.cell (World.block_lt_of_cell? _ _ (hHeld.2.2.2.2))).trans (hHeld.2.2.2.2);refine⟨_,rfl,?_⟩;have I:=A_ (Kd.aV (oR G) hb);have O:=A_ (bb z hb);have V:=A_ (aC (oB D) hb);clear G z D;have G:=I;have z:=O;have D:=V;clear I O V
                (try clear hb)
                (try clear hb2)
                (try clear hk)
                (try clear hi)
                have az:0≤(((ak l1 u).f1):Int):=oD;have aI:(((ak l1 u).f1):Int)<((U.length:Int):Int):=oD;obtain⟨cu,cp⟩:=Kd.gC 0 G.out (((ak l1 u).f1):Int) az aI;replace az:=av az;replace aI:=av aI;have bv:=Kd.rj G.out (((ak l1 u).f1):Int) X;rw[←bd.out]at bv;have cb:=A_ bv;clear bv;refine hK.out _ _ ⟨cz z 0,cz z 1,cz z 2,cz z 3,bz⟩ (fun hHeld=> ?_);clear hK K;refine dL (a':= ?_) ?_ ?_;rotate_left
                ·show Act.put _ (some 39) _=_;simp only[Act.put,List.setIfInBounds_toArray,List.set_cons_zero,List.set_cons_succ,bG,bN];rfl
                refine pA 13 (some 40) J.out ?_;refine rR (i:=14) (N:=none) #[true,true,true,true,true,true,true,true,true,true,true,true,true,true,true] rfl rfl (cX J.out (by kernel_rfl)) (by decide) (fun K hK=> ?_);refine lU (w1:= ?_) (by rfl) rfl ?_ ?_;rotate_left
                ·go_simp
                 rfl
                refine hK.out _ _ ?_;clear hK K;refine eY (fH J.out (by kernel_rfl)) ?_;have cP:=cz z 0;have cQ:=cz z 1;have cR:=cz z 2;have cS:=cz z 3;have c':=ar z.out 0;have da:=ar z.out 1;have db:=ar z.out 2;have dc:=ar z.out 3;have aB:0≤(((ak l1 u).f1):Int):=oD;have a9:(((ak l1 u).f1):Int)<((U.length:Int):Int):=oD;have aL:(((ak l1 u).f1):Int).toNat<U.length:=(by omega);have bH:=(Kd.gC 0 cb.out (((ak l1 u).f1):Int) aB (by have h9:=(Kd.aY G.out).1;omega)).1;rw[bd.out,show bF 0 (U.set (((ak l1 u).f1):Int).toNat X) (((ak l1 u).f1):Int)=X by simp[bF,List.getD_eq_getElem?_getD,aL]]at bH;clear aL;have co:(cx.setCell ⟨Y,(((ak l1 u).f1):Int).toNat,none⟩ (.int .i64 X)).cell? ⟨F,1,none⟩=some (.int .i64 (((ak l1 u).f1):Int)):=(dH (dx z.out (fun e_=>Kd.fU G.out z.out (by decide) (by simp only[Value.ownBlock];rw[e_])) _) 1).trans rfl;replace aB:=av aB;replace a9:=av a9
                try go_wp2
                go_ret2;exact⟨_,eR,by first|exact Kd.bj _ _ _ _ _|exact Kd.jF _ _ _ _ _|exact Kd.jI _ _ _ _ _|exact Kd.jG _ _ _ _ _|exact Kd.jH _ _ _ _ _,oB D⟩
               ·rw[ag ap]at H;have cj:(X==0)=false:=beq_eq_false_iff_ne.mpr ap;have ck:(X != 0)=true:=bne_iff_ne.mpr ap;have H':=A_ H;clear H;have au:0≤(u:Int):=oD;have aE:u<(l1.length:Int):=oD;obtain⟨cd,bC,aP,aQ,aR,aS⟩:=eV bc.out u au aE;cases bC;replace aP:=hW D aP;replace aQ:=hW D aQ;replace aR:=hW D aR;replace aS:=hW D aS;replace au:=av au;replace aE:=av aE
                try go_wp2_with (first|((with_reducible refine ax (N:=8) rfl ?_);refine bX (N:=8) (cs:= #[.int .i64 0,.int .i64 0,.int .i64 0,.int .i64 0]) (t:=110) ?_;intro F hg bq aK hb;have I:=A_ (Kd.aV (oR G) hb);have O:=A_ (aC (oB D) hb);have V:=A_ (aK);have a2:=A_ ((by rw[hg];exact(aA (oB D)):w.heap.size≤F));have a3:=A_ ((by rw[hg];exact(aA (oB D)):w.heap.size≤F));clear G D;have G:=I;have D:=O;have z:=V;have ca:=a2;have b':=a3;clear I O V a2 a3 hb aK hg;have cT:=cz z 0;have cU:=cz z 1;have cV:=cz z 2;have cW:=cz z 3;have dd:=ar z.out 0;have de:=ar z.out 1;have dg:=ar z.out 2;have di:=ar z.out 3))
                have I:ae (Kd.R (Kd.int .i64) 3 ((((bq.setCell ⟨F,0,none⟩ (.int .i64 ((ak l1 u).f0))).setCell ⟨F,1,none⟩ (.int .i64 ((ak l1 u).f1))).setCell ⟨F,2,none⟩ (.int .i64 ((ak l1 u).f2))).setCell ⟨F,3,none⟩ (.int .i64 ((ak l1 u).f3))) w.heap.size (fun _=>True) (.slice (some ⟨Y,0,none⟩) U.length bf) U):=⟨by(with_reducible repeat(first|apply Kd.bm|apply Kd.br|apply Kd.a8));exact Kd.bh (Kd.aJ (p:=⟨F,3,none⟩) (Kd.aJ (p:=⟨F,2,none⟩) (Kd.aJ (p:=⟨F,1,none⟩) (Kd.aJ (p:=⟨F,0,none⟩) (Kd.dD G.out z.out (by decide)) (fun _ hk=>hk.2) (.int .i64 ((ak l1 u).f0))) (fun _ hk=>hk.2) (.int .i64 ((ak l1 u).f1))) (fun _ hk=>hk.2) (.int .i64 ((ak l1 u).f2))) (fun _ hk=>hk.2) (.int .i64 ((ak l1 u).f3))) (fun _ hk=>trivial)⟩;have O:ae (((((bq.setCell ⟨F,0,none⟩ (.int .i64 ((ak l1 u).f0))).setCell ⟨F,1,none⟩ (.int .i64 ((ak l1 u).f1))).setCell ⟨F,2,none⟩ (.int .i64 ((ak l1 u).f2))).setCell ⟨F,3,none⟩ (.int .i64 ((ak l1 u).f3))).heap[F]? =some (.cells #[.int .i64 ((ak l1 u).f0),.int .i64 ((ak l1 u).f1),.int .i64 ((ak l1 u).f2),.int .i64 ((ak l1 u).f3)] 110 (0,0))):=⟨by(with_reducible repeat(first|refine aT ?_ _|refine aM ?_|refine aN ?_ _));refine bw (cs:= #[.int .i64 ((ak l1 u).f0),.int .i64 ((ak l1 u).f1),.int .i64 ((ak l1 u).f2),.int .i64 0]) ?_ 3 _ rfl;(with_reducible repeat(first|refine aT ?_ _|refine aM ?_|refine aN ?_ _));refine bw (cs:= #[.int .i64 ((ak l1 u).f0),.int .i64 ((ak l1 u).f1),.int .i64 0,.int .i64 0]) ?_ 2 _ rfl;(with_reducible repeat(first|refine aT ?_ _|refine aM ?_|refine aN ?_ _));refine bw (cs:= #[.int .i64 ((ak l1 u).f0),.int .i64 0,.int .i64 0,.int .i64 0]) ?_ 1 _ rfl;(with_reducible repeat(first|refine aT ?_ _|refine aM ?_|refine aN ?_ _));refine bw (cs:= #[.int .i64 0,.int .i64 0,.int .i64 0,.int .i64 0]) ?_ 0 _ rfl;(with_reducible repeat(first|refine aT ?_ _|refine aM ?_|refine aN ?_ _));exact z.out⟩;have V:ae (Below w.heap.size w ((((bq.setCell ⟨F,0,none⟩ (.int .i64 ((ak l1 u).f0))).setCell ⟨F,1,none⟩ (.int .i64 ((ak l1 u).f1))).setCell ⟨F,2,none⟩ (.int .i64 ((ak l1 u).f2))).setCell ⟨F,3,none⟩ (.int .i64 ((ak l1 u).f3)))):=⟨oB D⟩
                (try clear G)
                (try clear z)
                (try clear D)
                generalize ((((bq.setCell ⟨F,0,none⟩ (.int .i64 ((ak l1 u).f0))).setCell ⟨F,1,none⟩ (.int .i64 ((ak l1 u).f1))).setCell ⟨F,2,none⟩ (.int .i64 ((ak l1 u).f2))).setCell ⟨F,3,none⟩ (.int .i64 ((ak l1 u).f3)))=cA at I O V ⊢;have G:=I;have z:=O;have D:=V;clear I O V;have I:=A_ (Kd.a8 G.out);have O:=A_ (aM z.out);have V:=A_ (cr D.out);clear G z D;have G:=I;have z:=O;have D:=V;clear I O V;have aw:0≤(((ak l1 u).f0):Int):=oD;have aF:((ak l1 u).f0)<(U.length:Int):=oD;obtain⟨bA,bD,ai⟩:=Kd.dG (Kd.aY G.out).2.2 ((ak l1 u).f0) aw aF;obtain rfl:(⟨Y,0,none⟩:Addr)=bA:=(by injection bD)
                (first|simp only[add_plain]at ai|simp only[pj]at ai|simp only[Addr.add,Nat.zero_add]at ai|skip)
                replace aw:=av aw;replace aF:=av aF;refine fk (n:=15) (S:=fun w'=>w'.cell? ⟨F,0,none⟩=some (.int .i64 ((ak l1 u).f0))∧w'.cell? ⟨F,1,none⟩=some (.int .i64 ((ak l1 u).f1))∧w'.cell? ⟨F,2,none⟩=some (.int .i64 ((ak l1 u).f2))∧w'.cell? ⟨F,3,none⟩=some (.int .i64 ((ak l1 u).f3))∧w'.cell? ⟨Y,(((ak l1 u).f0)).toNat,none⟩=some (.int .i64 (rd U ((ak l1 u).f0)))) (ds:=[14]) #[false,false,false,false,false,false,false,false,false,false,false,false,false,false,false] (by kernel_rfl) rfl rfl ⟨cz z 0,cz z 1,cz z 2,cz z 3,ai⟩ (fun hHeld=> ?_);refine fP cM.ju cM.iX (fun J ad=> ?_);generalize cA.drew=du at G z D ai hHeld ⊢;refine pA 0 (some 27) J.out ?_;refine pA 1 (some 28) J.out ?_;refine pA 3 (some 30) J.out ?_;refine pA 4 (some 31) J.out ?_;refine pA 8 (some 35) J.out ?_;refine pA 10 (some 37) J.out ?_;refine pT 2 (some 29) J.out ad.out hHeld ?_;refine pT 5 (some 32) J.out ad.out hHeld ?_;refine pA 6 (some 33) J.out ?_;refine pT 7 (some 34) J.out ad.out hHeld ?_;refine pT 9 (some 36) J.out ad.out hHeld ?_;refine pT 11 (some 38) J.out ad.out hHeld ?_;refine dh (i:=12) (N:=some 39) #[true,true,true,true,true,true,true,true,true,true,true,true,true,false,false] rfl rfl (cX J.out (by kernel_rfl)) (by decide) (fun K hK=> ?_);refine cy Tryz.func146 (by kernel_rfl) rfl #[.int .i64 (rd U ((ak l1 u).f0)),.int .i64 ((ak l1 u).f2),.int .i64 ((ak l1 u).f3)] (by rfl) rfl rfl (by(try simp only[List.map_toArray,List.map_cons,List.map_nil]);first|done|rfl|(simp only[List.length_drop,List.length_take];rfl)) ?_
                with_reducible refine(ey.c k2 (rd U ((ak l1 u).f0)) ((ak l1 u).f2) ((ak l1 u).f3) X _ bM.out).mono ?_
                rintro e cB ⟨rfl,hb⟩;have bz:=(hb.cell (World.block_lt_of_cell? _ _ (hHeld.2.2.2.2))).trans (hHeld.2.2.2.2);refine⟨_,rfl,?_⟩;have I:=A_ (Kd.aV (oR G) hb);have O:=A_ (bb z hb);have V:=A_ (aC (oB D) hb);clear G z D;have G:=I;have z:=O;have D:=V;clear I O V
                (try clear hb)
                (try clear hb2)
                (try clear hk)
                (try clear hi)
                have az:0≤(((ak l1 u).f1):Int):=oD;have aI:(((ak l1 u).f1):Int)<((U.length:Int):Int):=oD;obtain⟨cu,cp⟩:=Kd.gC 0 G.out (((ak l1 u).f1):Int) az aI;replace az:=av az;replace aI:=av aI;have bx:=Kd.rj G.out (((ak l1 u).f1):Int) X;rw[←bd.out]at bx;have bY:=A_ bx;clear bx;refine hK.out _ _ ⟨cz z 0,cz z 1,cz z 2,cz z 3,bz⟩ (fun hHeld=> ?_);clear hK K;refine dL (a':= ?_) ?_ ?_;rotate_left
                ·show Act.put _ (some 39) _=_;simp only[Act.put,List.setIfInBounds_toArray,List.set_cons_zero,List.set_cons_succ,bG,bN];rfl
                refine pA 13 (some 40) J.out ?_;refine rR (i:=14) (N:=none) #[true,true,true,true,true,true,true,true,true,true,true,true,true,true,true] rfl rfl (cX J.out (by kernel_rfl)) (by decide) (fun K hK=> ?_);refine lU (w1:= ?_) (by rfl) rfl ?_ ?_;rotate_left
                ·go_simp
                 rfl
                refine hK.out _ _ ?_;clear hK K;refine eY (fH J.out (by kernel_rfl)) ?_;have cY:=cz z 0;have cZ:=cz z 1;have c0:=cz z 2;have c3:=cz z 3;have dj:=ar z.out 0;have dk:=ar z.out 1;have dl:=ar z.out 2;have dm:=ar z.out 3;have aB:0≤(((ak l1 u).f1):Int):=oD;have a9:(((ak l1 u).f1):Int)<((U.length:Int):Int):=oD;have aL:(((ak l1 u).f1):Int).toNat<U.length:=(by omega);have bH:=(Kd.gC 0 bY.out (((ak l1 u).f1):Int) aB (by have h9:=(Kd.aY G.out).1;omega)).1;rw[bd.out,show bF 0 (U.set (((ak l1 u).f1):Int).toNat X) (((ak l1 u).f1):Int)=X by simp[bF,List.getD_eq_getElem?_getD,aL]]at bH;clear aL;have co:(cB.setCell ⟨Y,(((ak l1 u).f1):Int).toNat,none⟩ (.int .i64 X)).cell? ⟨F,1,none⟩=some (.int .i64 (((ak l1 u).f1):Int)):=(dH (dx z.out (fun e_=>Kd.fU G.out z.out (by decide) (by simp only[Value.ownBlock];rw[e_])) _) 1).trans rfl;replace aB:=av aB;replace a9:=av a9
                try go_wp2
                (try simp only[←bk])
                go_roundg k2
                case measure=>have:=bV.out;have:=bW.out;omega
                case rel=>exact⟨(b8),(wrap64 (u+1)),eS,H',⟨by have:=bV.out;have:=bW.out;omega⟩,⟨by(try simp only[bk]);(with_reducible repeat(first|apply Kd.bm|apply Kd.br|apply Kd.a8));exact bY.out⟩,⟨oB D⟩⟩
              ·rw[ag c24]at H;exact absurd H (by simp)
             ·rw[ag be]at H;exact absurd H (by simp)
            ·rw[ag c21]at H;exact absurd H (by simp)
           ·rw[ag c20]at H;exact absurd H (by simp)
          ·rw[ag c19]at H;exact absurd H (by simp)
         ·rw[ag c18]at H;exact absurd H (by simp)
        ·rw[ag c17]at H;have ci:decide (u<(l1.length:Int))=false:=ay c17;clear c17;simp only[Option.some.injEq,Prod.mk.injEq]at H;obtain⟨rfl,rfl⟩:=H;go_wp2;go_ret2;exact⟨_,eR,oR G,oB D⟩
     ·rw[ag c11]at H;exact absurd H (by simp)
    ·rw[ag c10]at H;exact absurd H (by simp)
end P
namespace Q
open Go.RowKit P
def jZ (l:List S64) (m:Int):Prop:=l.length=0∨(l.getD (l.length-1) z64).f2≤m
instance (l:List S64) (m:Int):Decidable (jZ l m):=by unfold jZ;exact inferInstance
def dX (p:List aj) (d:Int) (q:List Int) (a m:Int) (l:List S64):Bool:=dS p d q&&(dK l&&(decide (-10≤a∧a≤40)&&(decide (0≤m∧m≤100000)&&decide (jZ l m))))
theorem ki {p:List aj} {d:Int} {q:List Int} {a m:Int} {l:List S64}:dX p d q a m l=true↔dS p d q=true∧dK l=true∧(-10≤a∧a≤40)∧(0≤m∧m≤100000)∧jZ l m:=by
  unfold dX;simp only[Bool.and_eq_true,decide_eq_true_eq]
end Q
namespace Q
open Go.RowKit P WW.bq
theorem iP (a b c:Int):cv.f a b c=some (decide (b≤a∧a≤c)):=by
  unfold cv.f;by_cases h:b≤a<;>simp[h]
theorem gU (a b c:Int):cu.f a b c=some (decide (b≤a∧a≤c)):=by
  unfold cu.f;by_cases h:a≥b
  · rw[af h];simp[show b≤a from h]
  · rw[ag h];simp[show¬b≤a from h]
end Q
namespace Q
open Go.RowKit P WW.bq WW.cd
def fine (n:Int):Bool:=decide (1≤n∧n≤10000000)
theorem lu (n:Int):cW.f n=some (fine n):=by unfold cW.f;rw[gU];rfl
theorem lR (n:Int):df.f n=some (fine n):=by unfold df.f;rw[iP];rfl
theorem AU (l:List aj) (t:List Bool):kF l t=ke l t:=by
  induction l generalizing t with
  |nil=>rfl
  |cons x r ih=>simp only[kF,ke,ih];rfl
theorem u_ (l:List aj):jN.f l=some (fg l):=by
  show some (se l)=some (fg l);unfold se fg;rw[AU,Bool.and_comm];rfl
theorem AW (l:List aj):k9.f l=some (fg l):=rfl
def pM (x:aj):Prop:=0≤x.f0∧x.f0≤11∧0≤x.f1∧x.f1≤11∧x.f1=(x.f0+1)%12
theorem Cr {x:aj} {t:List Bool} (h:jP x t=true):pM x:=by
  simp[jP]at h;unfold pM;omega
theorem AV {l:List aj} {t:List Bool} (h:ke l t=true):∀x∈l,pM x:=by
  induction l generalizing t with
  |nil=>simp
  |cons y r ih=>
   simp only[ke,Bool.and_eq_true]at h;intro x hx;rcases List.mem_cons.1 hx with rfl|hx
   · exact Cr h.1
   · exact ih h.2 x hx
theorem kG {l:List aj} (h:fg l=true):∀x∈l,pM x:=by
  simp only[fg,Bool.and_eq_true]at h;exact AV h.2
theorem kf {l:List aj} (h:fg l=true):l.length≤11:=by
  simp only[fg,Bool.and_eq_true,decide_eq_true_eq]at h;exact h.1
theorem kg (l:List Int) (i:Int):rd l i=l.getD i.toNat 0:=rfl
def iv (c:Int):List aj→Nat→Int
  |[],_=> -1
  |x::r,j=>if x.f1=c then(j:Int)else iv c r (j+1)
theorem Cs (l:List aj) (c:Int) (hl:l.length≤4000000):Ev (fun n=>fD.f n l c) (iv c l 0):=by
  have key:∀i,i≤l.length→Ev (fun n=>fD.l0 n l c (i:Int)) (iv c (l.drop i) i):=by
    refine down (n:=l.length) ?_ ?_
    · refine Ev.step (fun n=>by rw[fD.l0]) (aw (by omega) (evs ?_));rw[lN];rfl
    · intro i hi ih;refine Ev.step (fun n=>by rw[fD.l0]) ?_;refine ai (by omega) (ai (by omega) ?_);rw[kJ l i hi,drop_cons l i hi,iv];by_cases h:l[i].f1=c
      · exact bC h<|ai h (Ev.now _)
      · refine bf h<|aw h ?_;rw[cm (by omega) (by omega)];exact ih
  exact key 0 (Nat.zero_le _)
theorem Ct (c:Int) (l:List aj) (j d:Nat):(0≤iv c l j∧iv c l j<((j+d:Nat):Int))↔∃x∈l.take d,x.f1=c:=by
  induction l generalizing j d with
  |nil=>simp[iv]
  |cons x r ih=>
   unfold iv;cases d with
   |zero=>
    simp only[List.take_zero,List.not_mem_nil,false_and,exists_false,iff_false];by_cases h:x.f1=c
    · rw[af h];omega
    · rw[ag h];have:=ih (j+1) 0;simp at this;have h1:=this;intro h2
      have:∀(l:List aj) (j:Nat),iv c l j= -1∨(j:Int)≤iv c l j:=by
        intro l
        induction l with
        |nil=>intro j;exact .inl rfl
        |cons y s ih2=>
         intro j;unfold iv;split
         · exact .inr (Int.le_refl _)
         · rcases ih2 (j+1)with h|h
           · exact .inl h
           · exact .inr (by omega)
      rcases this r (j+1)with h3|h3<;>omega
   |succ d=>
    rw[List.take_succ_cons];by_cases h:x.f1=c
    · rw[af h];exact⟨fun _=>⟨x,List.mem_cons_self,h⟩,fun _=>⟨by omega,by omega⟩⟩
    · rw[ag h];have:=ih (j+1) d;rw[show j+1+d=j+(d+1)by omega]at this;rw[this];constructor
      · rintro⟨y,hy,e⟩;exact⟨y,List.mem_cons_of_mem _ hy,e⟩
      · rintro⟨y,hy,e⟩;rcases List.mem_cons.1 hy with rfl|hy
        · exact absurd e h
        · exact⟨y,hy,e⟩
theorem sT (l:List aj) (t:List Bool):(P.gA l t).length=t.length:=by
  unfold P.gA
  induction l generalizing t with
  |nil=>rfl
  |cons x r ih=>rw[List.foldl_cons,ih,List.length_set]
theorem CO (l:List aj) (t:List Bool) (hin:∀x∈l,0≤x.f1) (c:Nat) (hc:c<t.length):(P.gA l t)[c]? =some (t[c]||l.any (fun x=>decide (x.f1=(c:Int)))):=by
  unfold P.gA
  induction l generalizing t with
  |nil=>simp[hc]
  |cons x r ih=>
   rw[List.foldl_cons,ih _ (fun y hy=>hin y (List.mem_cons_of_mem _ hy)) (by simpa using hc)];have:=hin x List.mem_cons_self;simp only[List.any_cons,List.getElem_set];by_cases h:x.f1=(c:Int)
   · rw[af (by omega)];simp[h]
   · rw[ag (by omega)];simp[h]
theorem o0 (p:List aj) (d:Int) (q:List Int):Ev (fun n=>cK.f n p d q) (dS p d q):=by
  have u:Ev (fun n=>cK.j0 n true p d q) false:=Ev.step (fun n=>by rw[cK.j0]) (ai rfl (Ev.now _));unfold cK.f dS;refine bc (u_ p) ?_;by_cases hp:fg p=true;rotate_left
  · rw[show fg p=false by simpa using hp,Bool.false_and];exact aw (by simp) u
  refine ai hp (bc (gU _ _ _) ?_);rw[hp,Bool.true_and];by_cases hd:0≤d∧d≤(p.length:Int);rotate_left
  · rw[ay hd,Bool.false_and];exact aw (by simp) u
  rw[ah hd,Bool.true_and];refine ai rfl ?_;by_cases hq:q.length=12;rotate_left
  · rw[ay hq,Bool.false_and,show((q.length:Int) != 12)=true by simpa using(show¬(q.length:Int)=12 by omega)];exact u
  rw[ah hq,Bool.true_and,show((q.length:Int) != 12)=false by simpa using(show(q.length:Int)=12 by omega)];have hl:=kf hp;have hin:=kG hp;obtain⟨T,hT⟩:∃T,P.gA (p.take d.toNat) iw=T:=⟨_,rfl⟩;have F:T.length=12:=by rw[←hT,sT];rfl
  have D:∀c:Nat,(hc:c<T.length)→T[c]=(decide (c=0)||decide (0≤iv (c:Int) p 0∧iv (c:Int) p 0<d)):=by
    intro c hc;have h1:=CO (p.take d.toNat) iw (fun x hx=>(hin x (List.mem_of_mem_take hx)).2.2.1) c (show c<12 by omega);rw[hT,List.getElem?_eq_getElem hc]at h1;rw[aH h1]
    congr 1
    · have:∀c,(h:c<iw.length)→iw[c]=decide (c=0):=(by decide);exact this c _
    · have h2:=Ct (c:Int) p 0 d.toNat;rw[Nat.zero_add,Int.toNat_of_nonneg hd.1]at h2;rw[Bool.eq_iff_iff,decide_eq_true_iff,h2];simp
  rw[hT]
  have key:∀i:Nat,i≤12→Ev (fun n=>cK.l0 n (i:Int) p d q) (jK (T.drop i) (q.drop i)):=by
    refine down (n:=12) ?_ ?_
    · refine Ev.step (fun n=>by rw[cK.l0]) (aw (by omega) (evs ?_));rw[List.drop_eq_nil_of_le (by omega)];rfl
    · intro i hi ih;refine Ev.step (fun n=>by rw[cK.l0]) ?_;refine ai (by omega) (Ev.bind (Cs p _ (by omega)) ?_);rw[ny q i (by omega),drop_cons T i (by omega),drop_cons q i (by omega),jK,D i (by omega),cm (n:=(i:Int)+1) (by omega) (by omega)]
      have fin:∀v:Bool,Ev (fun n=>(cW.f q[i]).bind fun t=>if t=true then cK.l0 n (((i+1:Nat)):Int) p d q else some false) (decide (1≤q[i]∧q[i]≤10000000)&&jK (T.drop (i+1)) (q.drop (i+1))):=by
        intro v;refine bc (lu _) ?_;by_cases hf:fine q[i]=true
        · rw[show decide (1≤q[i]∧q[i]≤10000000)=true from hf,Bool.true_and];exact ai hf ih
        · rw[show decide (1≤q[i]∧q[i]≤10000000)=false by simpa[fine]using hf,Bool.false_and];exact aw hf (Ev.now _)
      have z:Ev (fun n=>if 0≤(i:Int)then(if(i:Int)<(q.length:Int)then(if q[i]=0 then cK.l0 n (((i+1:Nat)):Int) p d q else some false)else none)else none) (decide (q[i]=0)&&jK (T.drop (i+1)) (q.drop (i+1))):=by
        refine ai (by omega) (ai (by omega) ?_);by_cases hz:q[i]=0
        · rw[ah hz,Bool.true_and];exact ai hz ih
        · rw[ay hz,Bool.false_and];exact aw hz (Ev.now _)
      by_cases h0:i=0
      · refine ai (by omega) (ai (by omega) (ai (by omega) ?_));rw[ah h0,Bool.true_or,af rfl];exact fin true
      refine aw (by omega) ?_;rw[ay h0,Bool.false_or];by_cases h1:0≤iv (i:Int) p 0;rotate_left
      · rw[ay (fun h=>h1 h.1),ag (by simp)];exact aw (by omega) z
      refine ai (by omega) ?_;by_cases h2:iv (i:Int) p 0<d
      · rw[ah ⟨h1,h2⟩,af rfl];exact ai h2 (ai (by omega) (ai (by omega) (fin true)))
      · rw[ay (fun h=>h2 h.2),ag (by simp)];exact aw h2 z
  refine Ev.step (fun n=>by rw[cK.j0]) (aw (by decide) ?_);exact key 0 (by omega)
theorem qG (p:List aj) (d:Int) (q:List Int):gb.f p d q=some (dS p d q):=rfl
theorem mS {p:List aj} {d:Int} {q:List Int} (h:dS p d q=true):fg p=true:=by
  simp only[dS,Bool.and_eq_true]at h;exact h.1
theorem nK {p:List aj} {d:Int} {q:List Int} (h:dS p d q=true):0≤d∧d≤p.length:=by
  simp only[dS,Bool.and_eq_true,decide_eq_true_eq]at h;exact h.2.1
theorem lZ {p:List aj} {d:Int} {q:List Int} (h:dS p d q=true):q.length=12:=by
  simp only[dS,Bool.and_eq_true,decide_eq_true_eq]at h;exact h.2.2.1
def iG (n:Int):Int:=if fine n=true then n else 0
def jz (a k b:Int):Int:=
  if fine a=true then
    if 0≤b∧b≤100000 then
      if k=1 then iG (wrap64 (Int.tdiv (mx (wrap64 ((wrap64 (3*a))-b)) 0) 2))
      else if k=2 then iG (wrap64 (Int.tdiv (mx (wrap64 ((wrap64 (3*a))-b)) 0) 4))
      else if k=3 then if b=0 then iG (wrap64 (2*a))else 0
      else if k=4 then if b=0 then iG (wrap64 (Int.tdiv a 2))else 0
      else 0
    else 0
  else 0
theorem uI (a b:Int):mx a b=mx b a:=by unfold mx;split<;>split<;>omega
theorem kW {n:Int} {x:Option Bool} (h:x=some (fine n)):Ev (fun _=>x.bind fun t=>if t=true then some n else some 0) (iG n):=by
  subst h;simp only[aG];unfold iG;by_cases h:fine n=true
  · rw[af h,af h];exact Ev.now _
  · rw[ag h,ag h];exact Ev.now _
theorem wo (a k b:Int):Ev (fun n=>ey.f n a k b) (jz a k b):=by
  have u:Ev (fun n=>ey.j0 n a k b true) 0:=Ev.step (fun n=>by rw[ey.j0]) (ai rfl (Ev.now _));unfold ey.f;refine bc (lR a) ?_;unfold jz;by_cases ha:fine a=true;rotate_left
  · exact bf ha<|aw ha u
  refine bC ha<|ai ha (bc (iP _ _ _) ?_);by_cases hb:0≤b∧b≤100000;rotate_left
  · exact bf hb<|aw (by simpa using hb) u
  refine bC hb<|ai (by simpa using hb) ?_
  have z:(k=3∨k=4→b=0)→Ev (fun n=>ey.j0 n a k b false) (if k=1 then iG (wrap64 (Int.tdiv (mx (wrap64 ((wrap64 (3*a))-b)) 0) 2))
      else if k=2 then iG (wrap64 (Int.tdiv (mx (wrap64 ((wrap64 (3*a))-b)) 0) 4))
      else if k=3 then if b=0 then iG (wrap64 (2*a))else 0
      else if k=4 then if b=0 then iG (wrap64 (Int.tdiv a 2))else 0
      else 0):=by
    intro h0;refine Ev.step (fun n=>by rw[ey.j0]) (aw (by decide) ?_);by_cases h1:k=1
    · exact bC h1<|ai h1 (kW (lR _))
    refine bf h1<|aw h1 ?_;by_cases h2:k=2
    · exact bC h2<|ai h2 (kW (lR _))
    refine bf h2<|aw h2 ?_;by_cases h3:k=3
    · exact bC h3<|bC (h0 (.inl h3))<|ai h3 (kW (lR _))
    refine bf h3<|aw h3 ?_;by_cases h4:k=4
    · exact bC h4<|bC (h0 (.inr h4))<|ai h4 (kW (lR _))
    refine bf h4<|aw h4 ?_;refine bc (lR _) (aw (by decide) (Ev.now _))
  by_cases b0:b=0
  · exact ai b0 (z fun _=>b0)
  refine aw b0 ?_;by_cases h3:k=3
  · refine ai h3 ?_;exact bf (by omega)<|bf (by omega)<|bC h3<|bf b0 u
  refine aw h3 ?_;by_cases h4:k=4
  · rw[show(k==4)=true by simp[h4]];exact bf (by omega)<|bf (by omega)<|bf (by omega)<|bC h4<|bf b0 u
  · rw[show(k==4)=false by simp[h4]];exact z (by omega)
theorem qz (a k b:Int):Ev (fun n=>cD.f n a k b) (jz a k b):=by
  have D:Ev (fun n=>cD.j0 n a k b true) 0:=Ev.step (fun n=>by rw[cD.j0]) (ai rfl (Ev.now _));unfold cD.f;refine bc (lu a) ?_;unfold jz;by_cases ha:fine a=true;rotate_left
  · exact bf ha<|aw ha D
  refine bC ha<|ai ha (bc (gU _ _ _) ?_);by_cases hb:0≤b∧b≤100000;rotate_left
  · rw[show(!decide (0≤b∧b≤100000))=true by rw[ay hb];rfl];exact bf hb D
  rw[show(!decide (0≤b∧b≤100000))=false by rw[ah hb];rfl];refine bC hb ?_;have F:Ev (fun n=>cD.j2 n a 0 true) (iG (wrap64 (Int.tdiv a 2))):=Ev.step (fun n=>by rw[cD.j2]) (ai rfl (kW (lu _)));have z:Ev (fun n=>cD.j2 n a 0 false) 0:=Ev.step (fun n=>by rw[cD.j2]) (aw (by decide) (kW (lu 0)));refine Ev.step (fun n=>by rw[cD.j0]) (aw (by decide) ?_);by_cases h1:k=1
  · rw[uI 0];exact bC h1<|ai h1 (kW (lu _))
  refine bf h1<|aw h1 ?_;by_cases h2:k=2
  · rw[uI 0];exact bC h2<|ai h2 (kW (lu _))
  refine bf h2<|aw h2 ?_
  have u:Ev (fun n=>cD.j1 n a k b 0 false) (if k=4 then if b=0 then iG (wrap64 (Int.tdiv a 2))else 0 else 0):=by
    refine Ev.step (fun n=>by rw[cD.j1]) (aw (by decide) ?_);by_cases h4:k=4
    · refine bC h4<|ai h4 ?_;by_cases b0:b=0
      · rw[show(b==0)=true by simp[b0]];exact bC b0 F
      · rw[show(b==0)=false by simp[b0]];exact bf b0 z
    · exact bf h4<|aw h4 z
  by_cases h3:k=3
  · refine bC h3<|ai h3 ?_;by_cases b0:b=0
    · rw[show(b==0)=true by simp[b0]];exact bC b0<|Ev.step (fun n=>by rw[cD.j1]) (ai rfl (kW (lu _)))
    · rw[show(b==0)=false by simp[b0]];rw[ag (by omega)]at u;exact bf b0 u
  exact bf h3<|aw h3 u
def fO (p:List aj) (q:List Int) (i:Nat):Int:=jz (q.getD (p.getD i lD).f0.toNat 0) (p.getD i lD).f2 (p.getD i lD).f3
theorem kY (p:List aj) (i:Nat) (hi:i<p.length):p.getD i lD=p[i]:=by simp[List.getD_eq_getElem?_getD,hi]
theorem sS (p:List aj) (d:Int) (q:List Int) (i:Nat) (hp:fg p=true) (hq:q.length=12) (hi:i<p.length):Ev (fun n=>fY.f n p d q (i:Int)) (fO p q i):=by
  obtain⟨k0,k1,k2,k3,k4⟩:=kG hp p[i] (List.getElem_mem hi);unfold fY.f fO;rw[kY p i hi,kJ p i hi];refine ai (by omega) (ai (by omega) (ai k0 (ai (by omega) (Ev.bind (wo _ _ _) (Ev.now _)))))
def nB:List aj→List Int→List Int×Bool
  |[],o=>(o,true)
  |x::r,o=>if jz (o.getD x.f0.toNat 0) x.f2 x.f3=0 then([],false)else nB r (o.set x.f1.toNat (jz (o.getD x.f0.toNat 0) x.f2 x.f3))
def begun (a:Int):List Int:=a::List.replicate 11 0
def kM (a:Int) (l:List aj):List Int×Bool:=if fg l=true∧fine a=true then nB l (begun a)else([],false)
theorem BA (a:Int) (l:List aj):Ev (fun n=>cM.f n a l) (kM a l):=by
  have u:Ev (fun n=>cM.j0 n a l true) ([],false):=Ev.step (fun n=>by rw[cM.j0]) (ai rfl (Ev.now _));unfold cM.f kM;refine bc (AW l) ?_;by_cases hp:fg l=true;rotate_left
  · exact bf (fun h=>hp h.1)<|aw hp u
  refine ai hp (bc (lR a) ?_);by_cases ha:fine a=true;rotate_left
  · rw[show(!fine a)=true by simpa using ha];exact bf (fun h=>ha h.2) u
  rw[show(!fine a)=false by simpa using ha];refine bC ⟨hp,ha⟩ ?_;have hl:=kf hp;have hin:=kG hp
  have key:∀i,i≤l.length→∀o:List Int,o.length=12→Ev (fun n=>cM.l0 n o l (l.length:Int) (i:Int)) (nB (l.drop i) o):=by
    refine down (n:=l.length) ?_ ?_
    · intro o ho;refine Ev.step (fun n=>by rw[cM.l0]) (aw (by omega) (evs ?_));rw[lN];rfl
    · intro i hi ih o ho;obtain⟨k0,k1,k2,k3,k4⟩:=hin l[i] (List.getElem_mem hi);refine Ev.step (fun n=>by rw[cM.l0]) ?_;refine ai (by omega) (ai (by omega) (ai (by omega) ?_));rw[kJ l i hi,drop_cons l i hi,nB];refine ai k0 (ai (by omega) (Ev.bind (wo _ _ _) (ai k2 (ai (by omega) ?_))));rw[kg];by_cases hz:jz (o.getD l[i].f0.toNat 0) l[i].f2 l[i].f3=0
      · exact bC hz<|ai hz (Ev.now _)
      refine bf hz<|aw hz ?_;rw[cm (by omega) (by omega)];exact ih _ (by simpa using ho)
  refine Ev.step (fun n=>by rw[cM.j0]) ?_;refine aw (by decide) (ai (by decide) ?_);simp only[aG];refine ai (by simp) ?_;exact key 0 (Nat.zero_le _) _ (by simp)
theorem BB (a:Int) (l:List aj):Ev (fun n=>cV.f n a l) (kM a l):=by
  have u:Ev (fun n=>cV.j0 n a l true) ([],false):=Ev.step (fun n=>by rw[cV.j0]) (ai rfl (Ev.now _));unfold cV.f kM;refine bc (u_ l) ?_;by_cases hp:fg l=true;rotate_left
  · exact bf (fun h=>hp h.1)<|aw hp u
  refine ai hp (bc (lu a) ?_);by_cases ha:fine a=true;rotate_left
  · rw[show(!fine a)=true by simpa using ha];exact bf (fun h=>ha h.2) u
  rw[show(!fine a)=false by simpa using ha];refine bC ⟨hp,ha⟩ ?_;have hl:=kf hp;have hin:=kG hp
  have key:∀i,i≤l.length→∀o:List Int,o.length=12→Ev (fun n=>cV.l0 n l o (i:Int)) (nB (l.drop i) o):=by
    refine down (n:=l.length) ?_ ?_
    · intro o ho;refine Ev.step (fun n=>by rw[cV.l0]) (aw (by omega) (evs ?_));rw[lN];rfl
    · intro i hi ih o ho;obtain⟨k0,k1,k2,k3,k4⟩:=hin l[i] (List.getElem_mem hi);refine Ev.step (fun n=>by rw[cV.l0]) ?_;refine ai (by omega) (ai (by omega) ?_);rw[kJ l i hi,drop_cons l i hi,nB];refine ai k0 (ai (by omega) (Ev.bind (qz _ _ _) ?_));rw[kg];by_cases hz:jz (o.getD l[i].f0.toNat 0) l[i].f2 l[i].f3=0
      · exact bC hz<|ai hz (Ev.now _)
      refine bf hz<|aw hz (ai k2 (ai (by omega) ?_));rw[cm (by omega) (by omega)];exact ih _ (by simpa using ho)
  refine Ev.step (fun n=>by rw[cV.j0]) ?_;refine aw (by decide) (ai (by decide) ?_);simp only[aG];refine ai (by simp) ?_;exact key 0 (Nat.zero_le _) _ (by simp)
def lB (i:Nat):Int:=if i=0∨i=2∨i=4∨i=7∨i=9 then 1 else 2
def kp (b:Int):List aj:=if 0≤b∧b≤5000 then(List.range 11).map (fun(i:Nat)=>⟨(i:Int),(i:Int)+1,lB i,b⟩)else[]
theorem CS:∀i:Nat,i<11→rd [1,2,1,2,1,2,2,1,2,1,2] (i:Int)=lB i:=by decide
theorem CT (b:Int):Ev (fun k=>f_.f k b) (kp b):=by
  unfold f_.f kp;by_cases hb:0≤b∧b≤5000;rotate_left
  · refine bf hb (Ev.step (fun k=>by rw[f_.l0]) (ai (by decide) (bc (gU _ _ _) (aw (nV hb) (Ev.now _)))))
  refine bC hb ?_
  have key:∀i:Nat,i≤11→Ev (fun k=>f_.l0 k b ((List.range i).map (fun(i:Nat)=>(⟨(i:Int),(i:Int)+1,lB i,b⟩:aj))) (i:Int)) ((List.range 11).map (fun(i:Nat)=>⟨(i:Int),(i:Int)+1,lB i,b⟩)):=by
    refine down (n:=11) ?_ ?_
    · exact Ev.step (fun k=>by rw[f_.l0]) (aw (by decide) (Ev.now _))
    · intro i hi ih;refine Ev.step (fun k=>by rw[f_.l0]) ?_;refine ai (by omega) (bc (gU _ _ _) ?_);refine ai (oa hb) (bc rfl ?_);refine ai (by omega) ?_;refine ai (by simp;omega) ?_;refine ai (by simp;omega) ?_;rw[CS i hi,cm (n:=(i:Int)+1) (by omega) (by omega)];rw[List.range_succ,List.map_append]at ih;exact ih
  exact key 0 (by omega)
end Q
namespace P
open Go.RowKit WW.bq WW.cg WW.cd
open Go.Maps (Keyed)
theorem zK:laidOutB Tryz.prog=true:=by kernel_rfl
theorem AR:WideMaps.KeyLaw Tryz.prog 62:=deep_law_gate zK (of_decide_eq_true (by kernel_rfl)) (of_decide_eq_true (by kernel_rfl)) (by kernel_rfl) (by kernel_rfl)
theorem mA:Keyed Tryz.prog 62:=Keyed.of_law AR
def cw (a:Int):Prop:=(Lit.int .i64 a).wf=true
theorem nJ {a:Int} (h: -9223372036854775808≤a) (h2:a≤9223372036854775807):cw a:=by
  have e1:IntKind.i64.min= -9223372036854775808:=by decide
  have e2:IntKind.i64.max=9223372036854775807:=by decide
  unfold cw Lit.wf;simp[e1,e2];omega
def lp (a b:Int):Value:= .agg #[.int .i64 a,.int .i64 b]
def nw (x:S64):Value:= .agg #[.int .i64 x.f0.f0,.int .i64 x.f0.f1,.int .i64 x.f1,.int .i64 x.f2]
theorem qf:Tryz.prog.cellsOf 62=2:=by kernel_rfl
theorem uo:Tryz.prog.cellsOf 3=1:=by kernel_rfl
theorem wA:∃m,Tryz.prog.types.size=m+1:=⟨Tryz.prog.types.size-1,by have:0<Tryz.prog.types.size:=of_decide_eq_true (by kernel_rfl);omega⟩
theorem keyLits_int (m:Nat) (v:Value):Tryz.prog.keyLits (m+1) 3 [v]=(match v with| .int q' n=>if q'= .i64∧(Lit.int .i64 n).wf=true then some [.int .i64 n]else none|_=>none):=by
  simp only[Program.keyLits,Tryz.underlying3];cases v<;>rfl
def fZ (a b:Int):Lit:= .string (keyBytes [.int .i64 a,.int .i64 b])
theorem my {a b:Int} (ha:cw a) (hb:cw b):keyOf Tryz.prog 62 (lp a b)=some (fZ a b):=by
  obtain⟨m,hm⟩:=wA;have kt:Tryz.prog.keyType 62=true:=by kernel_rfl
  unfold cw at ha hb;have fm:(lp a b).formed Tryz.prog 62=true:=by simp[lp,Value.formed,Tryz.underlying62,qf]
  have hl:Tryz.prog.keyLits (m+1+1) 62 [.int .i64 a,.int .i64 b]=some [.int .i64 a,.int .i64 b]:=by
    unfold Program.keyLits;simp only[Tryz.underlying62];simp[qf,uo,keyLits_int,ha,hb]
  rw[←hm]at hl;unfold keyOf;simp only[Tryz.underlying62,kt,fm,Bool.and_self,if_true,Option.map_eq_some_iff];exact⟨_,hl,rfl⟩
theorem ur {v:Value} {l:Lit} (h:keyOf Tryz.prog 62 v=some l):∃a b,v=lp a b∧cw a∧cw b:=by
  obtain⟨m,hm⟩:=wA;have kt:Tryz.prog.keyType 62=true:=by kernel_rfl
  unfold keyOf at h;simp only[Tryz.underlying62,kt,Bool.true_and]at h
  split at h
  case isFalse=>cases h
  case isTrue hf=>
    cases v<;>simp[Value.formed,Tryz.underlying62,qf]at hf
    rename_i cs
    obtain⟨c0,c1,rfl⟩:∃c0 c1,cs= #[c0,c1]:=by
      rcases cs with ⟨_|⟨x,_|⟨y,_|⟨z,t⟩⟩⟩⟩<;>simp at hf ⊢
    simp only[Option.map_eq_some_iff]at h;obtain⟨ls,h,_⟩:=h;rw[hm]at h;replace h:Tryz.prog.keyLits (m+1+1) 62 [c0,c1]=some ls:=h;unfold Program.keyLits at h;simp only[Tryz.underlying62]at h;simp[qf,uo,keyLits_int]at h;cases c0<;>simp at h
    rename_i k0 n0
    by_cases e0:k0= .i64∧(Lit.int .i64 n0).wf=true
    · obtain⟨rfl,e0⟩:=e0;cases c1<;>simp[e0]at h
      rename_i k1 n1
      by_cases e1:k1= .i64∧(Lit.int .i64 n1).wf=true
      · obtain⟨rfl,e1⟩:=e1;exact⟨_,_,rfl,e0,e1⟩
      · simp[e1]at h
    · simp[e0]at h
instance C9:DecidableEq bP:=fun a b=>decidable_of_iff (a.f0=b.f0∧a.f1=b.f1) ⟨fun h=>by obtain⟨x,y⟩:=a;obtain⟨z,u⟩:=b;simp only at h;obtain⟨rfl,rfl⟩:=h;rfl,fun h=>by rw[h];exact⟨rfl,rfl⟩⟩
abbrev kd (v:Value):Option (DataW Unit×List MemPlace):=
  match v with
  | .agg ⟨[.int .i64 a,.int .i64 b,.int .i64 c,.int .i64 d]⟩=>some (.agg [.lit (.int .i64 a),.lit (.int .i64 b),.lit (.int .i64 c),.lit (.int .i64 d)],[])
  |_=>none
def jL (x:S64):DataW Unit:= .agg [.lit (.int .i64 x.f0.f0),.lit (.int .i64 x.f0.f1),.lit (.int .i64 x.f1),.lit (.int .i64 x.f2)]
theorem r9 (x:S64):kd (nw x)=some (jL x,[]):=rfl
theorem uX {v:Value} {y:DataW Unit×List MemPlace} (h:kd v=some y):∃x:S64,v=nw x∧y=(jL x,[]):=by
  unfold kd at h
  split at h
  · exact⟨⟨⟨_,_⟩,_,_⟩,rfl,(aH h).symm⟩
  · cases h
theorem sk {x y:S64} (h:jL x=jL y):x=y:=by
  obtain⟨⟨a,b⟩,c,d⟩:=x;obtain⟨⟨a',b'⟩,c',d'⟩:=y;simp[jL]at h;obtain⟨rfl,rfl,rfl,rfl⟩:=h;rfl
structure lG (D:DataW Unit) (m:bP→Option S64):Prop where
  isMap:Maps.IsMap D
  at_:∀p:bP,cw p.f0→cw p.f1→∀z,D.atKey (fZ p.f0 p.f1) z=((m p).map jL).getD z
theorem zI:lG (.map []) (fun _=>none):=⟨Maps.isMap_empty,fun _ _ _ _=>rfl⟩
theorem uV {a b a' b':Int} (ha:cw a) (hb:cw b) (ha':cw a') (hb':cw b') (h:fZ a b=fZ a' b'):a=a'∧b=b':=by
  have h1:=my ha hb;have h2:=my ha' hb';rw[←h]at h2;have e:=mA.inj h1 h2;simp[lp]at e;exact e
theorem lG.put {D:DataW Unit} {m:bP→Option S64} (h:lG D m) (p:bP) (ha:cw p.f0) (hb:cw p.f1) (x:S64):
    lG (D.put (fZ p.f0 p.f1) (jL x)) (fun q=>if q=p then some x else m q):=by
  refine⟨h.isMap.put _ _,fun q u hq1 z=> ?_⟩;by_cases e:q=p
  · subst e;rw[Maps.atKey_put_same h.isMap (mA.key (my ha hb))];simp
  · have hne:fZ q.f0 q.f1≠fZ p.f0 p.f1:=fun hh=>e (by
      have:=uV u hq1 ha hb hh;obtain⟨a,b⟩:=q;obtain⟨c,d⟩:=p;simp only at this;obtain⟨rfl,rfl⟩:=this;rfl)
    rw[Maps.atKey_put_other hne,h.at_ q u hq1];simp[e]
def jm (l:List S64) (p:bP):Option S64:=l.foldl (fun o x=>if p=x.f0 then some x else o) none
theorem rQ (l:List S64) (x:S64):jm (l++[x])=fun q=>if q=x.f0 then some x else jm l q:=by
  funext q
  simp[jm]
abbrev uW (w:World) (b n:Nat) (l:List S64):Prop:=∃D,w.ownsMap Tryz.prog 62 kd b n D∧lG D (jm l)
set_option maxHeartbeats 4000000 in
set_option maxRecDepth 100000 in
theorem rN.c (A0:Option Addr) (c0:Nat) (l0:List S64) (w:World) (J:Kd.C aW w A0 l0.length l0) (hc0:l0.length≤c0) (hl:l0.length≤1000) (hw:∀x∈l0,cw x.f0.f0∧cw x.f0.f1):
    Calls Tryz.prog 133 #[.slice A0 l0.length c0] w fun e w'=>∃b:Nat,e= .returned (.map (some b))∧w.heap.size≤b∧uW w' b l0.length l0∧Below w.heap.size w w':=by
  have X:=ae.mk J;have HW:=ae.mk hw;have u:=ae.mk (Below.refl w.heap.size w);clear J hw;have I:=World.ownsMap_made w Tryz.prog 62 kd;have HO:=ae.mk I;clear I;have aj:=@run_makeMap Tryz.prog;go_enter Tryz.func133,Tryz.ntmps133;go_wp2
  go_loopg [9] (l0.length+1) (fun Z v9 w'=>∃(i:Nat),v9= .int .i64 (i:Int)∧ae (i+Z=l0.length+1)∧ae (i≤l0.length)∧ae (uW w' w.heap.size i (l0.take i))∧ae (Below w.heap.size w w'))
  case atStart=>
    exact⟨0,rfl,⟨by omega⟩,⟨by omega⟩,⟨⟨_,HO.out,zI⟩⟩,⟨cj u.out _⟩⟩
  case round=>
    clear u HO;obtain⟨i,rfl,U,V,z,u⟩:=hrel;by_cases hlt:i<l0.length
    · have hb3:decide ((i:Int)<(l0.length:Int))=true:=ah (by omega);have hb4:decide (i<l0.length)=true:=ah (by omega);obtain⟨ad,e,hx0,hx1,hx2,hx3⟩:=eW X.out (i:Int) (by omega) (by omega);cases e;replace hx0:=(u.out.cell (World.block_lt_of_cell? w _ hx0)).trans hx0;replace hx1:=(u.out.cell (World.block_lt_of_cell? w _ hx1)).trans hx1;replace hx2:=(u.out.cell (World.block_lt_of_cell? w _ hx2)).trans hx2;replace hx3:=(u.out.cell (World.block_lt_of_cell? w _ hx3)).trans hx3;obtain⟨x,hx⟩:∃x,au l0 (i:Int)=x:=⟨_,rfl⟩;rw[hx]at hx0 hx1 hx2 hx3;simp only[Int.toNat_natCast]at hx0 hx1 hx2 hx3;have e0:l0[i]=x:=(by rw[←hx];simp[au,List.getD_eq_getElem?_getD,hlt]);obtain⟨q1,q2⟩:=HW.out x (by rw[←e0];exact List.getElem_mem hlt);have Y:ae (l0.take (i+1)=l0.take i++[x]):=⟨by rw[List.take_succ_eq_append_getElem hlt,e0]⟩;have F:=ae.mk q1;have G:=ae.mk q2;obtain⟨D,hD,H⟩:=z.out;have HD:=ae.mk hD;have K:=ae.mk H;have ai:=ae.mk hlt;clear hx e0 q1 q2 z hD H
      go_wp2_with (first|(at_mapUpdate;refine wpList_mapUpdate_own _ rfl _ _ _ 141 rfl 62 64 mA Tryz.underlying141 kd w.heap.size i D rfl (HD.out.alloc _) (show i<maxLen from Nat.lt_of_le_of_lt (show i≤1000 by omega) (by decide)) (lp x.f0.f0 x.f0.f1) (nw x) _ rfl rfl (my F.out G.out) (jL x) [] (r9 x) ?_;intro w2 h2 hg2;have H2:=ae.mk h2;have O:=ae.mk hg2;clear h2 hg2))
      go_roundg (l0.length-i)
      case measure=>have:=U.out;omega
      case rel=>
        refine⟨i+1,by go_num,⟨by omega⟩,⟨by omega⟩,⟨⟨_,H2.out,?_⟩⟩,⟨?_⟩⟩
        · rw[Y.out,rQ];exact lG.put K.out x.f0 F.out G.out x
        · exact(cj u.out _).grown O.out (cj u.out _).size (fun k hk=>by cases hk;exact Nat.le_refl _)
    · have hb3:decide ((i:Int)<(l0.length:Int))=false:=ay (by omega);have hb4:decide (i<l0.length)=false:=ay (by omega);obtain rfl:i=l0.length:=(by have:=V.out;omega);go_wp2;go_ret;exact⟨w.heap.size,rfl,Nat.le_refl _,by simpa using z.out,u.out⟩
def iZ (l:List S64) (p:bP):Int:=((jm l p).getD z64).f1
instance (a:Int):Decidable (cw a):=by unfold cw;infer_instance
theorem C7 (w:World):(zeroValue 64).run Tryz.prog w= .ok (nw z64) w:=by kernel_rfl
theorem yu (a b c d:Int) (w:World):(Instr.field 64 (.agg #[.int .i64 a,.int .i64 b,.int .i64 c,.int .i64 d]) 1).run Tryz.prog w= .ok (.int .i64 c) w:=by kernel_rfl
theorem uC {w:World} {b n:Nat} {D:DataW Unit} {m:bP→Option S64} (h:w.ownsMap Tryz.prog 62 kd b n D) (hD:lG D m) (p:bP) (h0:cw p.f0) (h1:cw p.f1):
    ∃x:S64,(Instr.lookup 141 (.map (some b)) (.agg #[.int .i64 p.f0,.int .i64 p.f1]) false).run Tryz.prog w= .ok (.agg #[.int .i64 x.f0.f0,.int .i64 x.f0.f1,.int .i64 x.f1,.int .i64 x.f2]) w∧x=(m p).getD z64:=by
  obtain⟨v,ps,hrun,hv⟩:=h.lookup mA Tryz.underlying141 (C7 w) (r9 _) (my h0 h1);obtain⟨x,rfl,e⟩:=uX hv;refine⟨x,hrun,?_⟩;rw[hD.at_ p h0 h1]at e;simp only[Prod.mk.injEq]at e;cases hm:m p with
  |none=>rw[hm]at e;exact(sk e.1).symm
  |some y=>rw[hm]at e;exact(sk e.1).symm
end P
namespace V
open Go.RowKit WW.bq
class From (w0 W:World):Prop where out:Below w0.heap.size w0 W
class az (w:outParam World) (W:World):Prop where out:Below w.heap.size w W
class jC (w:outParam World) (g:Nat):Prop where out:g=w.heap.size
class aU (W:World) (g:Nat) (cs:outParam (Array Value)) (t:outParam TypeId):Prop where out:W.heap[g]? =some (.cells cs t (0,0))
class Sz (w0 W:World):Prop where out:w0.heap.size≤W.heap.size
class Nw (w0:World) (g:Nat):Prop where out:w0.heap.size≤g
class fc (g g':Nat):Prop where out:g≠g'
class aq (n c:Nat):Prop where out:n≤c
class bn {α:Type} (d:Kd α) (w0:outParam World) (A:Option Addr) (xs:outParam (List α)):Prop where out:d.C w0 A xs.length xs
class Rd {α:Type} (d:Kd α) (W:World) (A:Option Addr) (xs:List α):Prop where out:d.C W A xs.length xs
class dT {α:Type} (d:Kd α) (e:outParam Nat) (w1 w2:outParam World) (A:Option Addr) (c:outParam Nat) (xs:outParam (List α)):Prop where out:d.R e w2 w1.heap.size (fun _=>True) (.slice A xs.length c) xs
class dY (w1 w2 W:World):Prop where out:∀k,w1.heap.size≤k→k<w2.heap.size→W.heap[k]? =w2.heap[k]?
class l5 (w1 w2:World) (g:Nat):Prop where out:g<w1.heap.size∨w2.heap.size≤g
section
variable {w0 w1 w2 w W W':World} {g g':Nat} {cs cs':Array Value} {t t':TypeId} {o:Obj} {n i:Nat} {v:Value}
instance:From w w:=⟨Below.refl _ _⟩
instance [h:From w0 W]:From w0 (W.alloc o):=⟨cj h.out _⟩
instance [h:From w0 W]:From w0 W.drew:=⟨cr h.out⟩
instance [h:From w0 W]:From w0 (W.drewN n):=⟨dM h.out _⟩
instance [h:From w0 W] [hg:Nw w0 g]:From w0 (W.setCell ⟨g,i,none⟩ v):=⟨fo h.out hg.out⟩
instance [h:az w W] [k:From w0 w]:From w0 W:=⟨aC k.out h.out⟩
instance:Sz w w:=⟨Nat.le_refl _⟩
instance [h:Sz w0 W]:Sz w0 (W.alloc o):=⟨Nat.le_trans h.out (by simp)⟩
instance [h:Sz w0 W]:Sz w0 W.drew:=⟨h.out⟩
instance [h:Sz w0 W]:Sz w0 (W.drewN n):=⟨h.out⟩
instance {p:Addr} [h:Sz w0 W]:Sz w0 (W.setCell p v):=⟨by simpa using h.out⟩
instance [h:az w W] [k:Sz w0 w]:Sz w0 W:=⟨Nat.le_trans k.out h.out.size⟩
instance [h:jC W g] [k:Sz w0 W]:Nw w0 g:=⟨by rw[h.out];exact k.out⟩
instance [h:aU W g cs t]:aU (W.alloc o) g cs t:=⟨aN h.out _⟩
instance [h:aU W g cs t]:aU W.drew g cs t:=⟨h.out⟩
instance [h:aU W g cs t]:aU (W.drewN n) g cs t:=⟨h.out⟩
instance [h:aU W g cs t] [k:fc g g']:aU (W.setCell ⟨g',i,none⟩ v) g cs t:=⟨dx h.out k.out _⟩
instance [h:aU W g cs t]:aU (W.setCell ⟨g,i,none⟩ v) g (cs.setIfInBounds i v) t:=⟨rB h.out _ _⟩
instance [h:az w W] [k:aU w g cs t]:aU W g cs t:=⟨fV k.out h.out⟩
instance [h:jC W g'] [k:aU W g cs t]:fc g g':=⟨by rw[h.out];exact Nat.ne_of_lt (eX k.out)⟩
instance [h:jC W g] [k:aU W g' cs t]:fc g g':=⟨by rw[h.out];exact Nat.ne_of_gt (eX k.out)⟩
theorem dN (W:World) (g i:Nat) [h:aU W g cs t]:W.cell? ⟨g,i,none⟩=cs[i]? :=dH h.out i
theorem dO (W:World) (g i:Nat) [h:aU W g cs t]:W.frozen? ⟨g,i,none⟩=false:=ar h.out i
instance:dY w1 w2 w2:=⟨fun _ _ _=>rfl⟩
theorem oq (h:dY w1 w2 W) {k:Nat} (h1:w1.heap.size≤k) (h2:k<w2.heap.size):k<W.heap.size:=by
  have:=h.out k h1 h2;rw[Array.getElem?_eq_getElem h2]at this;exact(Array.getElem?_eq_some_iff.1 this).1
instance [h:dY w1 w2 W]:dY w1 w2 (W.alloc o):=⟨fun k h1 h2=>(Below.heap_alloc W o k (oq h h1 h2)).trans (h.out k h1 h2)⟩
instance [h:dY w1 w2 W]:dY w1 w2 W.drew:=⟨h.out⟩
instance [h:dY w1 w2 W]:dY w1 w2 (W.drewN n):=⟨h.out⟩
instance [h:az w W] [k:dY w1 w2 w]:dY w1 w2 W:=⟨fun j h1 h2=>(h.out.block j (oq k h1 h2)).trans (k.out j h1 h2)⟩
instance [h:dY w1 w2 W] [k:l5 w1 w2 g]:dY w1 w2 (W.setCell ⟨g,i,none⟩ v):=⟨fun j h1 h2=>(Below.heap_setCell W _ v j (by have:=k.out;show j≠g;omega)).trans (h.out j h1 h2)⟩
instance [h:aU w1 g cs t]:l5 w1 w2 g:=⟨.inl (eX h.out)⟩
instance [h:Nw w2 g]:l5 w1 w2 g:=⟨.inr h.out⟩
section
variable {α:Type} {d:Kd α} {e:Nat} {A:Option Addr} {c:Nat} {xs:List α}
instance [h:bn d w0 A xs] [k:From w0 W]:Rd d W A xs:=⟨Kd.mU h.out k.out⟩
theorem qi [h:dT d e w1 w2 A c xs] [k:dY w1 w2 W]:d.R e W w1.heap.size (fun _=>True) (.slice A xs.length c) xs:=
  Kd.bh (Kd.l6 (Kd.iU h.out) (fun j hj=>k.out j hj.2.1 hj.2.2.1)) (fun _ _=>trivial)
theorem qh [h:dT d e w1 w2 A c xs] [k:dY w1 w2 W]:d.C W A xs.length xs:=(Kd.aY (qi (h:=h) (k:=k))).2.2
instance [h:dT d e w1 w2 A c xs] [k:dY w1 w2 W]:Rd d W A xs:=⟨qh (h:=h) (k:=k)⟩
theorem iJ (h:dT d e w1 w2 A c xs):xs.length≤c:=(Kd.aY h.out).2.1
theorem bl [h:dT d e w1 w2 A c xs] [k:dY w1 w2 W] [l:From w w1]:d.R e W w.heap.size (fun _=>True) (.slice A xs.length c) xs:=Kd.bE (qi (h:=h) (k:=k)) l.out.size
end
class gl (w0:outParam World) (W:World):Prop where out:Below w0.heap.size w0 W
instance {w0 w W:World} [h:gl w0 W] [k:Sz w w0]:Sz w W:=⟨Nat.le_trans k.out h.out.size⟩
instance {w0 w W:World} [h:gl w0 W] [k:From w w0]:From w W:=⟨aC k.out h.out⟩
instance {w0 W:World} {g:Nat} {cs:Array Value} {t:TypeId} [h:gl w0 W] [k:aU w0 g cs t]:aU W g cs t:=⟨fV k.out h.out⟩
instance {w0 w1 w2 W:World} [h:gl w0 W] [k:dY w1 w2 w0]:dY w1 w2 W:=⟨fun j h1 h2=>(h.out.block j (oq k h1 h2)).trans (k.out j h1 h2)⟩
class l7 (B:outParam Nat) (w0:outParam World) (W:World):Prop where out:B≤w0.heap.size∧Below B w0 W
class qX (g B:Nat):Prop where out:g<B
class gB (B:Nat) (w0 W:World):Prop where out:B≤w0.heap.size∧Below B w0 W
section
variable {w0 w W W1:World} {g g' B i n:Nat} {cs:Array Value} {t:TypeId} {o:Obj} {v:Value}
instance [h:jC W g'] [k:aU W g cs t]:qX g g':=⟨by rw[h.out];exact eX k.out⟩
instance [h:l7 B w0 W] [k:aU w0 g cs t] [l:qX g B]:aU W g cs t:=⟨(h.out.2.block g l.out).trans k.out⟩
instance [h:l7 B w0 W] [k:Sz w w0]:Sz w W:=⟨Nat.le_trans k.out h.out.2.size⟩
instance [h:l7 B w0 W] [k:From w w0] [l:Nw w B]:From w W:=⟨xK k.out l.out h.out.2⟩
instance [k:aU w0 g cs t]:gB g w0 w0:=⟨⟨Nat.le_of_lt (eX k.out),Below.refl _ _⟩⟩
instance [h:gB B w0 W]:gB B w0 (W.alloc o):=⟨⟨h.out.1,h.out.2.alloc (Nat.le_trans h.out.1 h.out.2.size) _⟩⟩
instance [h:gB B w0 W]:gB B w0 W.drew:=⟨⟨h.out.1,h.out.2.drew⟩⟩
instance [h:gB B w0 W]:gB B w0 (W.drewN n):=⟨⟨h.out.1,dM h.out.2 _⟩⟩
instance [k:az w W] [h:gB B w0 w]:gB B w0 W:=⟨⟨h.out.1,tK h.out.2 (Nat.le_trans h.out.1 h.out.2.size) k.out⟩⟩
instance [h:gB g w0 W]:gB g w0 (W.setCell ⟨g,i,none⟩ v):=⟨⟨h.out.1,h.out.2.setCell (Nat.le_refl _) _⟩⟩
instance [h:gB B w0 W] [l:qX B g']:gB B w0 (W.setCell ⟨g',i,none⟩ v):=⟨⟨h.out.1,h.out.2.setCell (Nat.le_of_lt l.out) _⟩⟩
instance [k:l7 B w0 W]:gB B w0 W:=⟨k.out⟩
end
theorem sr {P:Program} {id:Nat} {ops:Array Oper} {Q:Exit→Act→World→Prop} {a:Act} {W:World} (N:Nat) {g:Nat} (hp:a.tmps.getD N undef= .pointer (some ⟨g,0,none⟩))
    (h:∀g',g'=g→∀w3,az W w3→(Code.region id ops true).wp P Q a w3):(Code.region id ops true).wp P Q a W:=h g rfl W ⟨Below.refl _ _⟩
theorem oJ {P:Program} {id:Nat} {ops:Array Oper} {Q:Exit→Act→World→Prop} {a:Act} {W:World} (h:∀w3,az W w3→(Code.region id ops true).wp P Q a w3):(Code.region id ops true).wp P Q a W:=h W ⟨Below.refl _ _⟩
class Mk (W:outParam World) (W':World) (w1 w2:outParam World):Prop where out:Kept W W' (fun k=>w1.heap.size≤k∧k<w2.heap.size)
class o8 (a b w1 w2:World):Prop where out:b.heap.size≤w1.heap.size∨w2.heap.size≤a.heap.size
section
variable {a b w1 w2 W W':World} {g:Nat} {cs:Array Value} {t:TypeId}
instance [h:Sz b w1]:o8 a b w1 w2:=⟨.inl h.out⟩
instance [h:Sz w2 a]:o8 a b w1 w2:=⟨.inr h.out⟩
instance {w0:World} [m:Mk W W' a b] [h:Sz w0 W]:Sz w0 W':=⟨Nat.le_trans h.out m.out.1⟩
instance [m:Mk W W' a b] [h:dY w1 w2 W] [d:o8 a b w1 w2]:dY w1 w2 W':=
  ⟨fun k h1 h2=>(m.out.2 k (oq h h1 h2) (fun hk=>by have:=d.out;omega)).trans (h.out k h1 h2)⟩
instance [m:Mk W W' a b] [h:aU W g cs t] [d:l5 a b g]:aU W' g cs t:=⟨(m.out.2 g (eX h.out) (fun hk=>by have:=d.out;omega)).trans h.out⟩
end
theorem bA {b:Bool} (h:¬b=true):b=false:=Bool.eq_false_iff.mpr h
theorem dz {b:Bool} (h:(!b)=true):b=false:=(Bool.not_eq_true' _).mp h
theorem dA {b:Bool} (h:¬(!b)=true):b=true:=(Bool.not_eq_false' _).mp (Bool.eq_false_iff.mpr h)
theorem bQ {α:Type} [BEq α] [LawfulBEq α] {a b:α} (h:a=b):(a==b)=true:=beq_iff_eq.mpr h
theorem bR {α:Type} [BEq α] [LawfulBEq α] {a b:α} (h:a=b):(a != b)=false:=bne_eq_false_iff_eq.mpr h
theorem bS {α:Type} [BEq α] [LawfulBEq α] {a b:α} (h:a≠b):(a==b)=false:=beq_eq_false_iff_ne.mpr h
theorem bT {α:Type} [BEq α] [LawfulBEq α] {a b:α} (h:a≠b):(a != b)=true:=bne_iff_ne.mpr h
theorem bL {α:Type} {r:α} (h:none=some r):False:=by cases h
theorem bU {α:Type} {c:Prop} [Decidable c] {x y:Option α} {r:α} (h:(if c then x else y)=some r):(c∧x=some r)∨(¬c∧y=some r):=by
  by_cases hc:c
  · exact .inl ⟨hc,by rwa [af hc]at h⟩
  · exact .inr ⟨hc,by rwa [ag hc]at h⟩
end
end V
namespace V
open Go.RowKit WW.bq
theorem bV {P:Program} {ops:Array Oper} {rest:List Oper} {o:Oper} {a:Act} {Q:Exit→Act→World→Prop} {W:World} {N:Tmp} (cs:Array Value) (t:TypeId) (h:∀g w1,jC W g→az W w1→aU w1 g cs t→wpList P ops Q rest (a.put o.dst (.pointer (some ⟨g,0,none⟩))) w1)
    (hgd:o.guard=none:=by rfl) (hd:o.dst=some N:=by rfl) (hrun:(execOp a.eval o).run P W= .ok (.value (.pointer (some ⟨W.heap.size,0,none⟩))) (W.alloc (.cells cs t (0,0))):=by first|(go_simp;done)|(go_simp;rfl)):wpList P ops Q (o::rest) a W:=
  Go.Proofs.YtnjfiaekdcekgaaGreatDoor.P.bX (N:=N) (fun g hg w1 hk hb=>h g w1 ⟨hg⟩ ⟨hb⟩ ⟨hk⟩) hgd hd hrun
theorem aQ {α:Type} {d:Kd α} {e:Nat} {w1 w2:World} {v:Value} {xs:List α} (h:d.R e w2 w1.heap.size (fun _=>True) v xs):∃A c,v= .slice A xs.length c∧dT d e w1 w2 A c xs∧aq xs.length c:=by
  obtain⟨A,c,rfl⟩:=Kd.bz h;exact⟨A,c,rfl,⟨h⟩,⟨(Kd.aY h).2.1⟩⟩
theorem bI {α β:Type} {x:Option α} {f:α→Option β} {b:β} (h:x.bind f=some b):∃a,x=some a∧f a=some b:=aD h
end V
namespace P
set_option maxHeartbeats 8000000
set_option maxRecDepth 100000
set_option synthInstance.maxHeartbeats 400000
set_option synthInstance.maxSize 100000
open Go.RowKit WW.bq WW.cg WW.cd V
attribute [local go_sem] dN dO
attribute [local go_sem] cN cR cQ cU cP cT cO cS
def e5.f (G:List (aj)) (z:Int) (H:List Int) (D:Int) (F:Int) (I:List (S64)):Option ((List (aj))×Int×List Int×Int×Int×(List (S64))):=(fx.f G z H).bind fun u=>((iA.f I).bind fun J=>(some (u.1,u.2.1,u.2.2,D,F,J)))
theorem e5.c (G:Option Addr) (U:Nat) (u:List (aj)) (J:Int) (H:Option Addr) (V:Nat) (z:List Int) (K:Int) (O:Int) (I:Option Addr) (X:Nat) (D:List (S64)) (r1:List (aj)) (r2:Int) (r3:List Int) (am:Int) (ao:Int) (ap:List (S64)) (w:World) (ai:Kd.C aX w G u.length u) (Y:u.length≤U) (ak:Kd.C (Kd.int .i64) w H z.length z) (Z:z.length≤V) (al:Kd.C aW w I D.length D) (ad:D.length≤X) (h:e5.f u J z K O D=some (r1,r2,r3,am,ao,ap)):
  Calls Tryz.prog 27 #[.agg #[.slice G u.length U,.int .i64 J,.slice H z.length V,.int .i64 K,.int .i64 O,.slice I D.length X]] w fun e w'=>∃ar au aw:Value,e= .returned (.agg #[ar,.int .i64 r2,au,.int .i64 am,.int .i64 ao,aw])∧Kd.R aX 110 w' w.heap.size (fun _=>True) ar r1∧Kd.R (Kd.int .i64) 3 w' w.heap.size (fun _=>True) au r3∧Kd.R aW 64 w' w.heap.size (fun _=>True) aw ap∧Below w.heap.size w w':=by
 replace ai:=bn.mk ai;replace Y:=aq.mk Y;replace ak:=bn.mk ak;replace Z:=aq.mk Z;replace al:=bn.mk al;replace ad:=aq.mk ad;unfold e5.f at h;have aE:=Tryz.underlying30
 all_goals go_enter Tryz.func27,Tryz.ntmps27
 all_goals go_wp2_with ((first
  |((with_reducible refine ax (N:=1) rfl ?_);refine bV #[.slice G u.length U,.int .i64 J,.slice H z.length V,.int .i64 K,.int .i64 O,.slice I D.length X] 30 fun g w1 j1 j2 aB=> ?_)
  |((with_reducible refine ax (N:=2) rfl ?_);refine bV #[.slice none 0 0,.int .i64 0,.slice none 0 0,.int .i64 0,.int .i64 0,.slice none 0 0] 30 fun g w1 j1 j2 aB=> ?_)
  |((with_reducible refine oJ ?_);intro w3 aI;refine sr 2 (by rfl) ?_;intro g hg w4 aF;subst hg;go_region_held3 (fun w'=>l7 g w4 w') (first|exact⟨gB.out⟩|skip) (first|(go_at_call 53;replace h:=bI h;obtain⟨⟨t1,t2,t3⟩,A,h⟩:=h;(try dsimp only at h);refine(fx.c _ _ _ _ _ _ _ _ _ _ _ Rd.out aq.out Rd.out aq.out A).mono ?_;rintro e w2 ⟨v0,v1,rfl,F,ae,hb⟩;obtain⟨aA,b0,rfl,j0,q0⟩:=aQ F;obtain⟨B1,b1,rfl,j1,q1⟩:=aQ ae;have aC:=az.mk hb;clear A F ae hb;(repeat' first|((with_reducible replace h:=bU h);rcases h with ⟨hc,h⟩|⟨hc,h⟩<;>first|exact(bL h).elim|exact absurd hc (by decide)|subst hc|(replace hc:=bA hc;subst hc)|(have hd:=bQ hc;have he:=bR hc;clear hc)|(have hd:=bS hc;have he:=bT hc)|(have hd:=ay hc)|(have hd:=ah hc)|skip)))|(go_at_call 54;replace h:=bI h;obtain⟨t,A,h⟩:=h;(try dsimp only at h);refine(iA.c _ _ _ _ _ Rd.out aq.out A).mono ?_;rintro e w2 ⟨v0,rfl,F,hb⟩;obtain⟨aA,b0,rfl,j0,q0⟩:=aQ F;have aC:=az.mk hb;clear A F hb));(repeat' first|((with_reducible replace h:=bU h);rcases h with ⟨hc,h⟩|⟨hc,h⟩<;>first|exact(bL h).elim|exact absurd hc (by decide)|subst hc|(replace hc:=bA hc;subst hc)|(have hd:=bQ hc;have he:=bR hc;clear hc)|(have hd:=bS hc;have he:=bT hc)|(have hd:=ay hc)|(have hd:=ah hc)|skip));all_goals(try have hn:decide (0<t.length)=true:=ah (by omega));all_goals(try have hn:decide (0<t.length)=false:=ay (by omega)))))
 all_goals simp only[Option.some.injEq,Prod.mk.injEq]at h
 all_goals obtain⟨rfl,rfl,rfl,rfl,rfl,rfl⟩:=h
 all_goals refine bodyPost_ret (results_cell_row rfl _ _ _ _ _ (0,0) _ rfl aU.out Tryz.underlying30 rfl (by kernel_rfl)) rfl ?_
 all_goals exact⟨_,_,_,rfl,(by first|exact bl|exact Kd.bj _ _ _ _ _),(by first|exact bl|exact Kd.bj _ _ _ _ _),(by first|exact bl|exact Kd.bj _ _ _ _ _),From.out⟩
def iM.f (z:List (aj)) (u:Int) (D:List Int):Option ((List (aj))×Int×List Int):=(jO.f z).bind fun t216=>((nE.f D).bind fun t219=>(some (t216,u,t219)))
theorem iM.c (F:Option Addr) (I:Nat) (u:List (aj)) (H:Int) (G:Option Addr) (J:Nat) (z:List Int) (r1:List (aj)) (r2:Int) (r3:List Int) (w:World) (U:Kd.C aX w F u.length u) (K:u.length≤I) (V:Kd.C (Kd.int .i64) w G z.length z) (O:z.length≤J) (h:iM.f u H z=some (r1,r2,r3)):
  Calls Tryz.prog 68 #[.agg #[.slice F u.length I,.int .i64 H,.slice G z.length J]] w fun e w'=>∃X Y:Value,e= .returned (.agg #[X,.int .i64 r2,Y])∧Kd.R aX 110 w' w.heap.size (fun _=>True) X r1∧Kd.R (Kd.int .i64) 3 w' w.heap.size (fun _=>True) Y r3∧Below w.heap.size w w':=by
 replace U:=bn.mk U;replace K:=aq.mk K;replace V:=bn.mk V;replace O:=aq.mk O;unfold iM.f at h;have ai:=Tryz.underlying27
 all_goals go_enter Tryz.func68,Tryz.ntmps68
 all_goals go_wp2_with ((first
  |((with_reducible refine ax (N:=1) rfl ?_);refine bV #[.slice F u.length I,.int .i64 H,.slice G z.length J] 27 fun g w1 j1 j2 ad=> ?_)
  |((with_reducible refine ax (N:=2) rfl ?_);refine bV #[.slice none 0 0,.int .i64 0,.slice none 0 0] 27 fun g w1 j1 j2 ad=> ?_)
  |((with_reducible refine oJ ?_);intro w3 al;refine sr 2 (by rfl) ?_;intro g hg w4 ak;subst hg;go_region_held3 (fun w'=>l7 g w4 w') (first|exact⟨gB.out⟩|skip) (first|(go_at_call 107;replace h:=bI h;obtain⟨t,A,h⟩:=h;(try dsimp only at h);refine(jO.c _ _ _ _ _ Rd.out aq.out A).mono ?_;rintro e w2 ⟨v0,rfl,D,hb⟩;obtain⟨Z,b0,rfl,j0,q0⟩:=aQ D;have ae:=az.mk hb;clear A D hb;(repeat' first|((with_reducible replace h:=bU h);rcases h with ⟨hc,h⟩|⟨hc,h⟩<;>first|exact(bL h).elim|exact absurd hc (by decide)|subst hc|(replace hc:=bA hc;subst hc)|(have hd:=bQ hc;have he:=bR hc;clear hc)|(have hd:=bS hc;have he:=bT hc)|(have hd:=ay hc)|(have hd:=ah hc)|skip));(try have hn:decide (0<t.length)=true:=ah (by omega));(try have hn:decide (0<t.length)=false:=ay (by omega)))|(go_at_call 108;replace h:=bI h;obtain⟨t,A,h⟩:=h;(try dsimp only at h);refine(nE.c _ _ _ _ _ Rd.out aq.out A).mono ?_;rintro e w2 ⟨v0,rfl,D,hb⟩;obtain⟨Z,b0,rfl,j0,q0⟩:=aQ D;have ae:=az.mk hb;clear A D hb));(repeat' first|((with_reducible replace h:=bU h);rcases h with ⟨hc,h⟩|⟨hc,h⟩<;>first|exact(bL h).elim|exact absurd hc (by decide)|subst hc|(replace hc:=bA hc;subst hc)|(have hd:=bQ hc;have he:=bR hc;clear hc)|(have hd:=bS hc;have he:=bT hc)|(have hd:=ay hc)|(have hd:=ah hc)|skip));all_goals(try have hn:decide (0<t.length)=true:=ah (by omega));all_goals(try have hn:decide (0<t.length)=false:=ay (by omega)))))
 all_goals simp only[Option.some.injEq,Prod.mk.injEq]at h
 all_goals obtain⟨rfl,rfl,rfl⟩:=h
 all_goals refine bodyPost_ret (results_cell_row rfl _ _ _ _ _ (0,0) _ rfl aU.out Tryz.underlying27 rfl (by kernel_rfl)) rfl ?_
 all_goals exact⟨_,_,rfl,(by first|exact bl|exact Kd.bj _ _ _ _ _),(by first|exact bl|exact Kd.bj _ _ _ _ _),From.out⟩
def fM.f (G:List (aj)) (z:Int) (H:List Int) (D:Int) (F:Int) (I:List (S64)):Option ((List (aj))×Int×List Int×Int×Int×(List (S64))):=(iM.f G z H).bind fun u=>((iL.f I).bind fun t237=>(some (u.1,u.2.1,u.2.2,D,F,t237)))
theorem fM.c (G:Option Addr) (U:Nat) (u:List (aj)) (J:Int) (H:Option Addr) (V:Nat) (z:List Int) (K:Int) (O:Int) (I:Option Addr) (X:Nat) (D:List (S64)) (r1:List (aj)) (r2:Int) (r3:List Int) (am:Int) (ao:Int) (ap:List (S64)) (w:World) (ai:Kd.C aX w G u.length u) (Y:u.length≤U) (ak:Kd.C (Kd.int .i64) w H z.length z) (Z:z.length≤V) (al:Kd.C aW w I D.length D) (ad:D.length≤X) (h:fM.f u J z K O D=some (r1,r2,r3,am,ao,ap)):
  Calls Tryz.prog 30 #[.agg #[.slice G u.length U,.int .i64 J,.slice H z.length V,.int .i64 K,.int .i64 O,.slice I D.length X]] w fun e w'=>∃ar au aw:Value,e= .returned (.agg #[ar,.int .i64 r2,au,.int .i64 am,.int .i64 ao,aw])∧Kd.R aX 110 w' w.heap.size (fun _=>True) ar r1∧Kd.R (Kd.int .i64) 3 w' w.heap.size (fun _=>True) au r3∧Kd.R aW 64 w' w.heap.size (fun _=>True) aw ap∧Below w.heap.size w w':=by
 replace ai:=bn.mk ai;replace Y:=aq.mk Y;replace ak:=bn.mk ak;replace Z:=aq.mk Z;replace al:=bn.mk al;replace ad:=aq.mk ad;unfold fM.f at h;have aE:=Tryz.underlying30
 all_goals go_enter Tryz.func30,Tryz.ntmps30
 all_goals go_wp2_with ((first
  |((with_reducible refine ax (N:=1) rfl ?_);refine bV #[.slice G u.length U,.int .i64 J,.slice H z.length V,.int .i64 K,.int .i64 O,.slice I D.length X] 30 fun g w1 j1 j2 aB=> ?_)
  |((with_reducible refine ax (N:=2) rfl ?_);refine bV #[.slice none 0 0,.int .i64 0,.slice none 0 0,.int .i64 0,.int .i64 0,.slice none 0 0] 30 fun g w1 j1 j2 aB=> ?_)
  |((with_reducible refine oJ ?_);intro w3 aI;refine sr 2 (by rfl) ?_;intro g hg w4 aF;subst hg;go_region_held3 (fun w'=>l7 g w4 w') (first|exact⟨gB.out⟩|skip) (first|(go_at_call 68;replace h:=bI h;obtain⟨⟨t1,t2,t3⟩,A,h⟩:=h;(try dsimp only at h);refine(iM.c _ _ _ _ _ _ _ _ _ _ _ Rd.out aq.out Rd.out aq.out A).mono ?_;rintro e w2 ⟨v0,v1,rfl,F,ae,hb⟩;obtain⟨aA,b0,rfl,j0,q0⟩:=aQ F;obtain⟨B1,b1,rfl,j1,q1⟩:=aQ ae;have aC:=az.mk hb;clear A F ae hb;(repeat' first|((with_reducible replace h:=bU h);rcases h with ⟨hc,h⟩|⟨hc,h⟩<;>first|exact(bL h).elim|exact absurd hc (by decide)|subst hc|(replace hc:=bA hc;subst hc)|(have hd:=bQ hc;have he:=bR hc;clear hc)|(have hd:=bS hc;have he:=bT hc)|(have hd:=ay hc)|(have hd:=ah hc)|skip)))|(go_at_call 69;replace h:=bI h;obtain⟨t,A,h⟩:=h;(try dsimp only at h);refine(iL.c _ _ _ _ _ Rd.out aq.out A).mono ?_;rintro e w2 ⟨v0,rfl,F,hb⟩;obtain⟨aA,b0,rfl,j0,q0⟩:=aQ F;have aC:=az.mk hb;clear A F hb));(repeat' first|((with_reducible replace h:=bU h);rcases h with ⟨hc,h⟩|⟨hc,h⟩<;>first|exact(bL h).elim|exact absurd hc (by decide)|subst hc|(replace hc:=bA hc;subst hc)|(have hd:=bQ hc;have he:=bR hc;clear hc)|(have hd:=bS hc;have he:=bT hc)|(have hd:=ay hc)|(have hd:=ah hc)|skip));all_goals(try have hn:decide (0<t.length)=true:=ah (by omega));all_goals(try have hn:decide (0<t.length)=false:=ay (by omega)))))
 all_goals simp only[Option.some.injEq,Prod.mk.injEq]at h
 all_goals obtain⟨rfl,rfl,rfl,rfl,rfl,rfl⟩:=h
 all_goals refine bodyPost_ret (results_cell_row rfl _ _ _ _ _ (0,0) _ rfl aU.out Tryz.underlying30 rfl (by kernel_rfl)) rfl ?_
 all_goals exact⟨_,_,_,rfl,(by first|exact bl|exact Kd.bj _ _ _ _ _),(by first|exact bl|exact Kd.bj _ _ _ _ _),(by first|exact bl|exact Kd.bj _ _ _ _ _),From.out⟩
end P
namespace P
open Go.RowKit WW.bq V
abbrev kr (w:World):Prop:=Go.Lib.TabIs Tryz.prog w "internal/strconv.uint64pow10" .u64 Go.Lib.pow10Tab
theorem iN {w W:World} (h:kr w) (hb:Below w.heap.size w W):kr W:=Go.Lib.tabBelow_of_tabIs h W hb
theorem sP {w W:World} [k:From w W] (h:ae (kr w)):kr W:=iN h.out k.out
end P
namespace P
open Go.RowKit WW.bq V
open Go.Maps (Keyed)
theorem vZ:Keyed Tryz.prog 9:=Keyed.of_law (WideMaps.string_law Tryz.underlying9)
theorem keyOf_str {s:ByteArray} (hs:s.size≤maxLen):keyOf Tryz.prog 9 (.string s)=some (.string s.data.toList):=WideMaps.keyOf_string_mk Tryz.underlying9 hs
abbrev nj (v:Value):Option (DataW Unit×List MemPlace):=
  match v with
  | .int .i64 a=>some (.lit (.int .i64 a),[])
  |_=>none
theorem yT {v:Value} {y:DataW Unit×List MemPlace} (h:nj v=some y):∃x:Int,v= .int .i64 x∧y=(.lit (.int .i64 x),[]):=by
  unfold nj at h
  split at h
  · exact⟨_,rfl,(aH h).symm⟩
  · cases h
structure nP (D:DataW Unit) (m:List UInt8→Int):Prop where
  isMap:Maps.IsMap D
  at_:∀l:List UInt8,D.atKey (.string l) (.lit (.int .i64 0))= .lit (.int .i64 (m l))
theorem zh:nP (.map []) (fun _=>0):=⟨Maps.isMap_empty,fun _=>rfl⟩
theorem nP.put {D:DataW Unit} {m:List UInt8→Int} (h:nP D m) (l:List UInt8) (c:Int):nP (D.put (.string l) (.lit (.int .i64 c))) (fun x=>if x=l then c else m x):=by
  refine⟨h.isMap.put _ _,fun x=> ?_⟩;by_cases e:x=l
  · subst e;rw[Maps.atKey_put_same h.isMap (show WideAt.IsKeyLit (.string x)from trivial)];simp
  · rw[Maps.atKey_put_other (by simpa using e),h.at_ x];simp[e]
abbrev ot (w:World) (b n:Nat) (m:List UInt8→Int):Prop:=∃D,w.ownsMap Tryz.prog 9 nj b n D∧nP D m
theorem mr {ops:Array Oper} {rest:List Oper} {o:Oper} {a:Act} {Q:Exit→Act→World→Prop} {w:World} {x:Operand} {bs:ByteArray} {c:Int} {b n:Nat} {m:List UInt8→Int}
    (hM:ae (ot w b n m)) (hg:o.guard=none) (hop:o.op=Op.insert 106 x (.const (.string bs)) (.const (.int .i64 c))) (hm:a.eval x= .map (some b)) (hn:n<100) (hb:bs.size≤100)
    (h:∀w',ae (ot w' b (n+1) (fun y=>if y=bs.data.toList then c else m y))→w.grownBy w' (some b)→wpList Tryz.prog ops Q rest (a.put o.dst undef) w'):wpList Tryz.prog ops Q (o::rest) a w:=by
  obtain⟨D,h1,h2⟩:=hM.out;have hl:maxLen=9223372036854775807:=by decide
  obtain⟨w',hrun,r1,r2⟩:=h1.update vZ Tryz.underlying106 (by omega) (keyOf_str (s:=bs) (by omega)) (show nj (.int .i64 c)=some (.lit (.int .i64 c),[])from rfl);have e1:a.eval (.const (.string bs))= .string bs:=rfl;have e2:a.eval (.const (.int .i64 c))= .int .i64 c:=rfl;refine wpList_plain hg fun K' hK'=> ?_;unfold Oper.wp;simp[execOp,hop,hm,e1,e2,hrun,Result.andThen];exact hK' _ _ (h w' ⟨_,r1,h2.put _ _⟩ r2)
def dQ (l:List UInt8):Int:=
  if l=(⟨#[104,101,97,114,100]⟩:ByteArray).data.toList then 7 else
  if l=(⟨#[108,101,102,116]⟩:ByteArray).data.toList then 6 else
  if l=(⟨#[114,101,112,97,105,114]⟩:ByteArray).data.toList then 5 else
  if l=(⟨#[107,110,111,99,107]⟩:ByteArray).data.toList then 4 else
  if l=(⟨#[102,97,117,108,116]⟩:ByteArray).data.toList then 3 else
  if l=(⟨#[119,97,114,109]⟩:ByteArray).data.toList then 2 else
  if l=(⟨#[116,117,110,101]⟩:ByteArray).data.toList then 1 else 0
theorem zl {ops:Array Oper} {rest:List Oper} {o o1 o2 o3 o4 u z D:Oper} {a:Act} {Q:Exit→Act→World→Prop} {w:World} {x:Operand}
    (h:∀b W,Below w.heap.size w W→ae (ot W b 7 dQ)→wpList Tryz.prog ops Q rest (a.put o.dst (.map (some b))) W)
    (hx:∀v,(a.put o.dst v).eval x=v)
    (g0:o.guard=none) (p0:o.op=Op.makeMap 106 none)
    (g1:o1.guard=none) (d1:o1.dst=none) (p1:o1.op=Op.insert 106 x (.const (.string ⟨#[116,117,110,101]⟩)) (.const (.int .i64 1)))
    (g2:o2.guard=none) (d2:o2.dst=none) (p2:o2.op=Op.insert 106 x (.const (.string ⟨#[119,97,114,109]⟩)) (.const (.int .i64 2)))
    (g3:o3.guard=none) (d3:o3.dst=none) (p3:o3.op=Op.insert 106 x (.const (.string ⟨#[102,97,117,108,116]⟩)) (.const (.int .i64 3)))
    (g4:o4.guard=none) (d4:o4.dst=none) (aj:o4.op=Op.insert 106 x (.const (.string ⟨#[107,110,111,99,107]⟩)) (.const (.int .i64 4)))
    (g5:u.guard=none) (d5:u.dst=none) (ak:u.op=Op.insert 106 x (.const (.string ⟨#[114,101,112,97,105,114]⟩)) (.const (.int .i64 5)))
    (g6:z.guard=none) (d6:z.dst=none) (al:z.op=Op.insert 106 x (.const (.string ⟨#[108,101,102,116]⟩)) (.const (.int .i64 6)))
    (g7:D.guard=none) (d7:D.dst=none) (am:D.op=Op.insert 106 x (.const (.string ⟨#[104,101,97,114,100]⟩)) (.const (.int .i64 7))):
    wpList Tryz.prog ops Q (o::o1::o2::o3::o4::u::z::D::rest) a w:=by
  have st:∀{W W':World},Below w.heap.size w W→w.heap.size≤W.heap.size→W.grownBy W' (some w.heap.size)→Below w.heap.size w W'∧w.heap.size≤W'.heap.size:=fun hb hs hg=>
    ⟨hb.grown hg hs (fun k hk=>by cases hk;exact Nat.le_refl _),Nat.le_trans hs hg.size⟩
  refine Kd.pJ g0 (show(execOp a.eval o).run Tryz.prog w= .ok (.value (.map (some w.heap.size))) (w.alloc (.map #[] 0))by simp[execOp,p0,run_makeMap]) ?_;have F:Below w.heap.size w (w.alloc (.map #[] 0))∧w.heap.size≤(w.alloc (.map #[] 0)).heap.size:=⟨cj (Below.refl _ _) _,by simp⟩;have V:ae (ot (w.alloc (.map #[] 0)) w.heap.size 0 (fun _=>0)):=⟨⟨_,World.ownsMap_made w Tryz.prog 9 nj,zh⟩⟩;refine mr V g1 p1 (hx _) (by omega) (by decide) (fun W1 M1 G=> ?_);rw[d1];have B1:=st F.1 F.2 G;refine mr M1 g2 p2 (hx _) (by omega) (by decide) (fun W2 M2 H=> ?_);rw[d2];have B2:=st B1.1 B1.2 H;refine mr M2 g3 p3 (hx _) (by omega) (by decide) (fun W3 X I=> ?_);rw[d3];have B3:=st B2.1 B2.2 I;refine mr X g4 aj (hx _) (by omega) (by decide) (fun ao Y J=> ?_);rw[d4];have B4:=st B3.1 B3.2 J;refine mr Y g5 ak (hx _) (by omega) (by decide) (fun ap Z K=> ?_);rw[d5];have B5:=st B4.1 B4.2 K;refine mr Z g6 al (hx _) (by omega) (by decide) (fun aq ad O=> ?_);rw[d6];have B6:=st B5.1 B5.2 O;refine mr ad g7 am (hx _) (by omega) (by decide) (fun ar ai U=> ?_);rw[d7];exact h _ _ (st B6.1 B6.2 U).1 ai
theorem C8 (w:World):(zeroValue 3).run Tryz.prog w= .ok (.int .i64 0) w:=by kernel_rfl
theorem zj {w:World} {b n:Nat} {m:List UInt8→Int} (hM:ot w b n m) (s:ByteArray) (hs:s.size≤maxLen):(Instr.lookup 106 (.map (some b)) (.string s) false).run Tryz.prog w= .ok (.int .i64 (m s.data.toList)) w:=by
  obtain⟨D,h1,h2⟩:=hM;obtain⟨v,ps,hrun,hv⟩:=h1.lookup vZ Tryz.underlying106 (C8 w) (show nj (.int .i64 0)=some (.lit (.int .i64 0),[])from rfl) (keyOf_str hs);obtain⟨x,rfl,e⟩:=yT hv;rw[h2.at_]at e;simp only[Prod.mk.injEq,DataW.lit.injEq,Lit.int.injEq]at e;rw[hrun,e.1.2]
def nM (w:World):Prop:=(∃tp p,w.var? Tryz.prog "strconv.ErrSyntax" =some #[.iface tp p])∧(∃tp p,w.var? Tryz.prog "strconv.ErrRange" =some #[.iface tp p])
theorem wD {w W:World} {n:String} {g:Nat} {v:Value} (hg:(Tryz.prog).globalNamed n=some g) (h:w.var? Tryz.prog n=some #[v]) (hb:Below w.heap.size w W):W.var? Tryz.prog n=some #[v]:=by
  have hc:=World.var?_cell hg h 0;exact var?_below hb hg (World.block_lt_of_cell? _ _ (show w.cell? ⟨g,0,none⟩=some v by simpa using hc)) h
theorem rL {w W:World} (h:nM w) (hb:Below w.heap.size w W):nM W:=by
  obtain⟨⟨t1,p1,h1⟩,t2,p2,h2⟩:=h;exact⟨⟨t1,p1,wD mN.m15 h1 hb⟩,t2,p2,wD mN.m16 h2 hb⟩
abbrev mZ (w:World):Prop:=kr w∧nM w
theorem qx {w W:World} (h:mZ w) (hb:Below w.heap.size w W):mZ W:=⟨iN h.1 hb,rL h.2 hb⟩
def jV (s:ByteArray):Option Int:=match Go.Lib.atoiAll s.data.toList with
  | .ok v=>some v
  |_=>none
theorem po (s:ByteArray) (v:Int) (w:World) (hs:s.size≤281474976710656) (h:jV s=some v):
    Calls Tryz.prog 86 #[.string s] w fun e w'=>e= .returned (.tuple #[.int .i64 v,.nilIface])∧Below w.heap.size w w':=by
  have h':Go.Lib.atoiAll s.data.toList= .ok v:=by
    unfold jV at h
    split at h
    · next x e=>rw[e,aH h]
    · cases h
  exact(Any.strconv_Atoi_ok mN s (by omega) v h' w).mono fun e w' hh=>by
    obtain⟨h1,rfl|⟨t,rfl⟩⟩:=hh
    · exact⟨h1,Below.refl _ _⟩
    · exact⟨h1,xR (Below.refl _ _) (Nat.le_refl _) _ _⟩
theorem tH (s:ByteArray) (w:World) (hs:s.size≤281474976710656) (h:jV s=none) (hv:nM w):
    Calls Tryz.prog 86 #[.string s] w fun e w'=>∃(n:Int) (t:TypeId) (p:Value),e= .returned (.tuple #[.int .i64 n,.iface t p])∧Below w.heap.size w w':=by
  obtain⟨⟨t1,p1,h1⟩,t2,p2,h2⟩:=hv;cases e:Go.Lib.atoiAll s.data.toList with
  |ok v=>unfold jV at h;rw[e]at h;cases h
  | «syntax» =>exact(Any.strconv_Atoi_syntax_var mN s hs e t1 p1 w h1).mono fun e w' ⟨N,h1,_,_,hb⟩=>⟨_,_,_,h1,hb⟩
  |range=>exact(Any.strconv_Atoi_range_var mN s hs e t2 p2 w h2).mono fun e w' ⟨N,h1,_,_,hb⟩=>⟨_,_,_,h1,hb⟩
end P
namespace V
open Go.RowKit WW.bq
class dC (W:World) (a:Addr) (v:outParam Value):Prop where out:W.cell? a=some v
class sY (a:Addr) (g:Nat):Prop where out:a.block≠g
section
variable {w w0 W:World} {a:Addr} {v u:Value} {o:Obj} {n g i:Nat}
theorem pz (h:dC W a v):a.block<W.heap.size:=World.block_lt_of_cell? W a h.out
instance [h:dC W a v]:dC (W.alloc o) a v:=⟨((cj (RowKit.Below.refl W.heap.size W) o).cell (pz h)).trans h.out⟩
instance [h:dC W a v]:dC W.drew a v:=⟨h.out⟩
instance [h:dC W a v]:dC (W.drewN n) a v:=⟨h.out⟩
instance [b:az w W] [h:dC w a v]:dC W a v:=⟨(b.out.cell (pz h)).trans h.out⟩
instance [b:gl w0 W] [h:dC w0 a v]:dC W a v:=⟨(b.out.cell (pz h)).trans h.out⟩
instance [h:jC W g] [k:dC W a v]:sY a g:=⟨by rw[h.out];exact Nat.ne_of_lt (pz k)⟩
instance [h:dC W a v] [k:sY a g]:dC (W.setCell ⟨g,i,none⟩ u) a v:=⟨(cell_far k.out u).trans h.out⟩
theorem iY (W:World) (a:Addr) {v:Value} [h:dC W a v]:W.cell? a=some v:=h.out
end
class nN (w1 w2:outParam World) (g:Nat):Prop where out:w1.heap.size≤g∧g<w2.heap.size
class e8 (e:outParam Nat) (w1:outParam World) (W:World) (g:Nat) (c:outParam Nat) (xs:outParam (List Int)):Prop where out:(Kd.int .i64).R e W w1.heap.size (fun _=>True) (.slice (some ⟨g,0,none⟩) xs.length c) xs
class At {α:Type} (d:Kd α) (e:outParam Nat) (w1:outParam World) (W:World) (A:Option Addr) (c:outParam Nat) (xs:outParam (List α)):Prop where out:d.R e W w1.heap.size (fun _=>True) (.slice A xs.length c) xs
class nO (i:Int) (xs:List Int):Prop where out:0≤i∧i<xs.length
class bu (w0:outParam World) (a:Addr) (v:outParam Value):Prop where out:w0.cell? a=some v
class cL {α:Type} (d:Kd α) (e t:Nat):Prop where out:∀q,q∈e::d.E→q≠t
section
variable {w0 w1 w2 a b w W:World} {g g' e c i n t B:Nat} {A:Option Addr} {xs ys:List Int} {v:Int} {u:Value} {o:Obj} {cs:Array Value}
instance [h:dT (Kd.int .i64) e w1 w2 (some ⟨g,0,none⟩) c xs]:nN w1 w2 g:=⟨by
  have:=(Kd.iU h.out).1 g (by simp[Value.ownBlock]);exact⟨this.2.1,this.2.2.1⟩⟩
instance [h:nN w1 w2 g] [k:l5 w1 w2 g']:fc g' g:=⟨by have:=h.out;have:=k.out;omega⟩
instance [h:nN w1 w2 g] [k:l5 w1 w2 g']:fc g g':=⟨by have:=h.out;have:=k.out;omega⟩
instance [h:nN w1 w2 g] [k:Sz w0 w1]:Nw w0 g:=⟨Nat.le_trans k.out h.out.1⟩
instance [h:nN w1 w2 g] [k:o8 w1 w2 a b]:l5 a b g:=⟨by have:=h.out;have:=k.out;omega⟩
instance [h:dT (Kd.int .i64) e w1 w2 (some ⟨g,0,none⟩) c xs] [k:dY w1 w2 W]:e8 e w1 W g c xs:=⟨qi (h:=h) (k:=k)⟩
instance [h:e8 e w1 W g c xs]:e8 e w1 (W.alloc o) g c xs:=⟨Kd.bm h.out o⟩
instance [h:e8 e w1 W g c xs]:e8 e w1 W.drew g c xs:=⟨Kd.a8 h.out⟩
instance [h:e8 e w1 W g c xs]:e8 e w1 (W.drewN n) g c xs:=⟨Kd.br h.out n⟩
instance [k:az w W] [h:e8 e w1 w g c xs]:e8 e w1 W g c xs:=⟨Kd.aV h.out k.out⟩
instance [k:gl w W] [h:e8 e w1 w g c xs]:e8 e w1 W g c xs:=⟨Kd.aV h.out k.out⟩
instance [h:e8 e w1 W g c xs]:e8 e w1 (W.setCell ⟨g,i,none⟩ (.int .i64 v)) g c (xs.set i v):=⟨by
  have:=Kd.rj h.out (i:Int) v;rw[List.length_set];exact this⟩
instance [h:e8 e w1 W g c xs] [k:fc g g']:e8 e w1 (W.setCell ⟨g',i,none⟩ u) g c xs:=⟨Kd.bh (Kd.aJ (p:=⟨g',i,none⟩) (ok:=fun k=>k=g) (Kd.ri (Kd.nu h.out) (fun k hk=>by simp[Value.ownBlock]at hk;exact hk.symm)) (fun j hj=>by rw[hj];exact k.out) u) (fun _ _=>trivial)⟩
theorem kV (W:World) (g:Nat) (i:Int) [h:e8 e w1 W g c xs] [k:nO i xs]:W.cell? ⟨g,i.toNat,none⟩=some (.int .i64 (rd xs i)):=(Kd.gC 0 h.out i k.out.1 k.out.2).1
theorem kX (W:World) (g:Nat) (i:Int) [h:e8 e w1 W g c xs] [k:nO i xs]:W.frozen? ⟨g,i.toNat,none⟩=false:=(Kd.gC 0 h.out i k.out.1 k.out.2).2
theorem lK (W:World) (g:Nat) [h:e8 e w1 W g c xs] [k:nO 0 xs]:W.cell? ⟨g,0,none⟩=some (.int .i64 (rd xs 0)):=kV W g 0
theorem lQ (W:World) (g:Nat) [h:e8 e w1 W g c xs] [k:nO 0 xs]:W.frozen? ⟨g,0,none⟩=false:=kX W g 0
theorem dy {i:Int} (j:dT (Kd.int .i64) e w1 w2 A c xs) (h0:0≤i) (h1:i<(xs.length:Int)):∃g,A=some ⟨g,0,none⟩∧nO i xs:=by
  obtain⟨g,c',h,_⟩:=Kd.kR j.out (by omega);injection h with h _ _;exact⟨g,h,⟨⟨h0,h1⟩⟩⟩
theorem dv {i:Int} (j:bn (Kd.int .i64) w0 A xs) (h0:0≤i) (h1:i<(xs.length:Int)):∃ad,A=some ad∧bu w0 (ad.add i.toNat) (.int .i64 (rd xs i)):=by
  obtain⟨ad,e,h⟩:=Kd.dG j.out i h0 h1;exact⟨ad,e,⟨h⟩⟩
instance {p:Addr} [h:bu w0 p u] [k:From w0 W]:dC W p u:=⟨(k.out.cell (World.block_lt_of_cell? w0 p h.out)).trans h.out⟩
theorem dw {β:Type} {i:Nat} {f:List Int→Option β} {r:β} (h:(some (xs.set i v)).bind f=some r):xs.length=(xs.set i v).length∧f (xs.set i v)=some r:=⟨(List.length_set ..).symm,h⟩
instance [h:aq xs.length c]:aq (xs.set i v).length c:=⟨by rw[List.length_set];exact h.out⟩
theorem yY [h:e8 e w1 W g c xs] [l:From w w1]:(Kd.int .i64).R e W w.heap.size (fun _=>True) (.slice (some ⟨g,0,none⟩) xs.length c) xs:=Kd.bE h.out l.out.size
theorem dJ {m:Nat} [h:e8 e w1 W g c xs] [l:From w w1] (hm:m=xs.length):(Kd.int .i64).R e W w.heap.size (fun _=>True) (.slice (some ⟨g,0,none⟩) m c) xs:=by rw[hm];exact yY
instance [h:e8 e w1 W g c xs]:Rd (Kd.int .i64) W (some ⟨g,0,none⟩) xs:=⟨(Kd.aY h.out).2.2⟩
section
variable {α:Type} {d:Kd α} {zs:List α} {c':Nat}
instance [h:dT d t w1 w2 A c zs] [k:dY w1 w2 W] [l:e8 e w W g c' ys] [m:cL d t e]:At d t w1 (W.setCell ⟨g,i,none⟩ (.int .i64 v)) A c zs:=⟨Kd.eG (v:= .slice (some ⟨g,0,none⟩) ys.length c') (qi (h:=h) (k:=k)) (Kd.eH l.out) m.out (Kd.lI l.out (i:Int) v).2⟩
instance [h:At d t w1 W A c zs] [l:e8 e w W g c' ys] [m:cL d t e]:At d t w1 (W.setCell ⟨g,i,none⟩ (.int .i64 v)) A c zs:=⟨Kd.eG (v:= .slice (some ⟨g,0,none⟩) ys.length c') h.out (Kd.eH l.out) m.out (Kd.lI l.out (i:Int) v).2⟩
instance [h:At d t w1 W A c zs]:At d t w1 (W.alloc o) A c zs:=⟨Kd.bm h.out o⟩
instance [h:At d t w1 W A c zs]:At d t w1 W.drew A c zs:=⟨Kd.a8 h.out⟩
instance [h:At d t w1 W A c zs]:At d t w1 (W.drewN n) A c zs:=⟨Kd.br h.out n⟩
instance [k:az w W] [h:At d t w1 w A c zs]:At d t w1 W A c zs:=⟨Kd.aV h.out k.out⟩
instance [k:gl w W] [h:At d t w1 w A c zs]:At d t w1 W A c zs:=⟨Kd.aV h.out k.out⟩
instance [h:At d t w1 W A c zs] [k:aU W g cs e] [m:cL d t e]:At d t w1 (W.setCell ⟨g,i,none⟩ u) A c zs:=⟨Kd.bh (Kd.aJ (p:=⟨g,i,none⟩) (Kd.dD h.out k.out m.out) (fun _ hk=>hk.2) u) (fun _ _=>trivial)⟩
theorem bZ [h:At d t w1 W A c zs] [l:From w w1]:d.R t W w.heap.size (fun _=>True) (.slice A zs.length c) zs:=Kd.bE h.out l.out.size
instance [h:At d t w1 W A c zs]:Rd d W A zs:=⟨(Kd.aY h.out).2.2⟩
end
end
end V
namespace V
open Go.RowKit WW.bq WW.cg
section
variable {P:Program} {ops:Array Oper} {Q:Exit→Act→World→Prop} {T:Bool×List (List Nat×List Nat)} {B:List Nat} {oi:Oper} {v:Value} {fuel:Nat} {l l':Array Bool} {ds:List Nat} {a a':Act} {w w1 w3:World}
abbrev Sb (w3:World):World→Prop:=fun w'=>Below w3.heap.size w3 w'
theorem qR {id n:Nat} (hT:bo .any ops=T) (hB:cp T.2 B=true) (h:ae (bo .any ops=T)→ae (cp T.2 B=true)→∀w3,az w w3→∀u,az w3 u→Sb w3 u→bK P .any ops Q (Sb w3) ds n l a u)
    (hn:ops.size=n:=by rfl) (hl:Array.replicate n false=l:=by rfl) (hm:P.follows .mixedOrders=true:=by kernel_rfl):(Code.region id ops true).wp P Q a w:=
  fk (S:=Sb w) (ds:=ds) l hm hn hl (cr (Below.refl _ _)) fun hS=>h ⟨hT⟩ ⟨hB⟩ w ⟨Below.refl _ _⟩ w.drew ⟨hS⟩ hS
theorem qA (i:Nat) (N:Option Tmp) (u:ae (bo .any ops=T)) (h:bK P .any ops Q (Sb w3) ds fuel l' a' w) (hi:ops[i]? =some oi:=by rfl) (hN:oi.dst=N:=by rfl)
    (hl:l.setIfInBounds i true=l':=by simp only[List.setIfInBounds_toArray,List.set_cons_zero,List.set_cons_succ];rfl) (hc:nU T l.toList l'.toList i=true:=by kernel_rfl)
    (hQ:∀c a w,Q (.panic c) (a.put oi.dst v) w→Q (.panic c) a w:=by exact fun _ _ _ h=>h) (hw:Region.wanted oi (yielded ops a.tmps)=true:=by rfl)
    (hy:∀w',(execOp a.eval oi).run P w'= .ok (.value v) w':=by intro w';go_simp;with_reducible rfl) (ha:a.put N v=a':=by simp only[Act.put,List.setIfInBounds_toArray,List.set_cons_zero,List.set_cons_succ,bG,bN];rfl):
    bK P .any ops Q (Sb w3) ds (fuel+1) l a w:=jo l' hi hN (ru u.out hc) hQ (Or.inl ⟨hw,hy⟩) ha h
theorem qT (i:Nat) (N:Option Tmp) (u:ae (bo .any ops=T)) (HW:ae (cp T.2 B=true)) (hS:Sb w3 w) (h:bK P .any ops Q (Sb w3) ds fuel l' a' w) (hi:ops[i]? =some oi:=by rfl) (hN:oi.dst=N:=by rfl)
    (hl:l.setIfInBounds i true=l':=by simp only[List.setIfInBounds_toArray,List.set_cons_zero,List.set_cons_succ];rfl) (hc:qy T B ds l.toList l'.toList i=true:=by kernel_rfl)
    (hQ:∀c a w,Q (.panic c) (a.put oi.dst v) w→Q (.panic c) a w:=by exact fun _ _ _ h=>h) (hw:Region.wanted oi (yielded ops a.tmps)=true:=by rfl)
    (hy:∀w',gl w3 w'→(execOp a.eval oi).run P w'= .ok (.value v) w':=by intro w' jS;go_simp;with_reducible rfl) (ha:a.put N v=a':=by simp only[Act.put,List.setIfInBounds_toArray,List.set_cons_zero,List.set_cons_succ,bG,bN];rfl):
    bK P .any ops Q (Sb w3) ds (fuel+1) l a w:=nI l' hi hN (wk u.out HW.out hc) hQ (Or.inl ⟨hw,fun w' hS=>hy w' ⟨hS⟩⟩) hS ha h
theorem qB {a':Nat→Act} (i N:Nat) (cs:Array Value) (t:TypeId) (u:ae (bo .any ops=T)) (hS:Sb w3 w) (h:∀g,jC w g→∀w1,az w w1→aU w1 g cs t→Sb w3 w1→bK P .any ops Q (Sb w3) ds fuel l' (a' g) w1) (hi:ops[i]? =some oi:=by rfl) (hN:oi.dst=some N:=by rfl)
    (hl:l.setIfInBounds i true=l':=by simp only[List.setIfInBounds_toArray,List.set_cons_zero,List.set_cons_succ];rfl) (hc:(gi T.2 l.toList==[i]&&l.toList.set i true==l'.toList)=true:=by kernel_rfl) (hd:i∉ds:=by decide) (hw:Region.wanted oi (yielded ops a.tmps)=true:=by rfl)
    (hr:(execOp a.eval oi).run P w= .ok (.value (.pointer (some ⟨w.heap.size,0,none⟩))) (w.alloc (.cells cs t (0,0))):=by first|(go_simp;done)|(go_simp;rfl))
    (ha:∀g,a.put (some N) (.pointer (some ⟨g,0,none⟩))=a' g:=by intro g;simp only[Act.put,List.setIfInBounds_toArray,List.set_cons_zero,List.set_cons_succ,bG,bN];rfl):
    bK P .any ops Q (Sb w3) ds (fuel+1) l a w:=dh l' hi hN (cX u.out hc) hd fun K hK=>by
  rw[←hN];refine n4 hw hN hr fun g hg w1 hb hk=> ?_;have h1:Sb w3 w1:=aC hS hk;exact hK.out _ _ h1 fun _=>by rw[hN,ha];exact h g ⟨hg⟩ w1 ⟨hk⟩ ⟨hb⟩ h1
theorem qS (i:Nat) (u:ae (bo .any ops=T)) (h:Sb w3 w1→bK P .any ops Q (Sb w3) ds fuel l' a w1) (hi:ops[i]? =some oi:=by rfl) (hN:oi.dst=none:=by rfl)
    (hl:l.setIfInBounds i true=l':=by simp only[List.setIfInBounds_toArray,List.set_cons_zero,List.set_cons_succ];rfl) (hc:(gi T.2 l.toList==[i]&&l.toList.set i true==l'.toList)=true:=by kernel_rfl) (hd:i∉ds:=by decide) (hw:Region.wanted oi (yielded ops a.tmps)=true:=by rfl)
    (hr:(execOp a.eval oi).run P w= .ok .skip w1:=by go_simp;rfl) (hS:From w3 w1:=by infer_instance):
    bK P .any ops Q (Sb w3) ds (fuel+1) l a w:=dh l' hi hN (cX u.out hc) hd fun K hK=>lU hw hN hr (hK.out _ _ hS.out fun _=>h hS.out)
theorem qL (i:Nat) (u:ae (bo .any ops=T)) (h:bK P .any ops Q (Sb w3) ds fuel l' a w1) (hi:ops[i]? =some oi:=by rfl) (hN:oi.dst=none:=by rfl)
    (hl:l.setIfInBounds i true=l':=by simp only[List.setIfInBounds_toArray,List.set_cons_zero,List.set_cons_succ];rfl) (hc:(gi T.2 l.toList==[i]&&l.toList.set i true==l'.toList)=true:=by kernel_rfl) (hd:i∈ds:=by decide) (hw:Region.wanted oi (yielded ops a.tmps)=true:=by rfl)
    (hr:(execOp a.eval oi).run P w= .ok .skip w1:=by go_simp;rfl):
    bK P .any ops Q (Sb w3) ds (fuel+1) l a w:=rR l' hi hN (cX u.out hc) hd fun K hK=>lU hw hN hr (hK.out _ _ h)
theorem qC {f:FuncId} {args:Array Value} {xs:Array Operand} {ts:Array TypeId} (i N:Nat) {fn:Func} (hf:P.funcs[f]? =some fn) (u:ae (bo .any ops=T)) (h:∀K:Act→World→Prop,(∀a' w',Sb w3 w'→(Sb w3 w'→bK P .any ops Q (Sb w3) ds fuel l' a' w')→K a' w')→Calls P f args w fun e w'=>∃v,e= .returned v∧K (a.put (some N) v) w') (hi:ops[i]? =some oi:=by rfl) (hN:oi.dst=some N:=by rfl)
    (hl:l.setIfInBounds i true=l':=by simp only[List.setIfInBounds_toArray,List.set_cons_zero,List.set_cons_succ];rfl) (hc:(gi T.2 l.toList==[i]&&l.toList.set i true==l'.toList)=true:=by kernel_rfl) (hd:i∉ds:=by decide) (hw:Region.wanted oi (yielded ops a.tmps)=true:=by rfl)
    (hop:oi.op= .call {callee:= .value (.func f),args:=xs,argTypes:=ts}:=by rfl) (hname:(fn.name== "runtime.NumGoroutine")=false:=by kernel_rfl) (hb:fn.body.isSome=true:=by rfl)
    (hargs:xs.map a.eval=args:=by(try simp only[List.map_toArray,List.map_cons,List.map_nil]);first|done|rfl):
    bK P .any ops Q (Sb w3) ds (fuel+1) l a w:=dh l' hi hN (cX u.out hc) hd fun K hK=>cy hf hname hb args hw hN hop hargs (h K (fun a' w' h1 h2=>hK.out a' w' h1 h2))
theorem qN (h:bK P .any ops Q (Sb w3) ds fuel l a' w) (ha:a=a':=by show Act.put _ (some _) _=_;simp only[Act.put,List.setIfInBounds_toArray,List.set_cons_zero,List.set_cons_succ,bG,bN];rfl):bK P .any ops Q (Sb w3) ds fuel l a w:=dL ha h
theorem qD (u:ae (bo .any ops=T)) (h:Q .normal a w) (hr:(gi T.2 l.toList==[])=true:=by kernel_rfl):bK P .any ops Q (Sb w3) ds fuel l a w:=eY (fH u.out hr) h
theorem gu (i:Nat) (Ni:Option Tmp) (u:ae (bo .any ops=T))
    (h:∀K:Act→World→Prop,Shut (∀a' w',Sb w3 w'→(Sb w3 w'→bK P .any ops Q (Sb w3) ds fuel l' a' w')→K a' w')→if Region.wanted oi (yielded ops a.tmps)=true then Oper.wp P oi a w K Q else K (a.put Ni undef) w)
    (hi:ops[i]? =some oi:=by rfl) (hN:oi.dst=Ni:=by rfl) (hl:l.setIfInBounds i true=l':=by simp only[List.setIfInBounds_toArray,List.set_cons_zero,List.set_cons_succ];rfl) (hc:(gi T.2 l.toList==[i]&&l.toList.set i true==l'.toList)=true:=by kernel_rfl) (hd:i∉ds:=by decide):
    bK P .any ops Q (Sb w3) ds (fuel+1) l a w:=dh l' hi hN (cX u.out hc) hd h
theorem vv {oj ok:Oper} {li lj lk:Array Bool} (i j k:Nat) (Ni Nj Nk:Option Tmp) (u:ae (bo .any ops=T))
    (h1:∀K:Act→World→Prop,Shut (∀a' w',Sb w3 w'→(Sb w3 w'→bK P .any ops Q (Sb w3) ds fuel li a' w')→K a' w')→if Region.wanted oi (yielded ops a.tmps)=true then Oper.wp P oi a w K Q else K (a.put Ni undef) w)
    (h2:∀K:Act→World→Prop,Shut (∀a' w',Sb w3 w'→(Sb w3 w'→bK P .any ops Q (Sb w3) ds fuel lj a' w')→K a' w')→if Region.wanted oj (yielded ops a.tmps)=true then Oper.wp P oj a w K Q else K (a.put Nj undef) w)
    (h3:∀K:Act→World→Prop,Shut (∀a' w',Sb w3 w'→(Sb w3 w'→bK P .any ops Q (Sb w3) ds fuel lk a' w')→K a' w')→if Region.wanted ok (yielded ops a.tmps)=true then Oper.wp P ok a w K Q else K (a.put Nk undef) w)
    (hi:ops[i]? =some oi:=by rfl) (hj:ops[j]? =some oj:=by rfl) (hk:ops[k]? =some ok:=by rfl) (mf:oi.dst=Ni:=by rfl) (mg:oj.dst=Nj:=by rfl) (rM:ok.dst=Nk:=by rfl)
    (yM:l.setIfInBounds i true=li:=by simp only[List.setIfInBounds_toArray,List.set_cons_zero,List.set_cons_succ];rfl) (hlj:l.setIfInBounds j true=lj:=by simp only[List.setIfInBounds_toArray,List.set_cons_zero,List.set_cons_succ];rfl) (hlk:l.setIfInBounds k true=lk:=by simp only[List.setIfInBounds_toArray,List.set_cons_zero,List.set_cons_succ];rfl)
    (hc:(gi T.2 l.toList==[i,j,k]&&l.toList.set i true==li.toList&&l.toList.set j true==lj.toList&&l.toList.set k true==lk.toList)=true:=by kernel_rfl) (kv:i∉ds:=by decide) (hdj:j∉ds:=by decide) (hdk:k∉ds:=by decide):
    bK P .any ops Q (Sb w3) ds (fuel+1) l a w:=CM li lj lk hi hj hk mf mg rM (CN u.out hc) kv hdj hdk h1 h2 h3
theorem iH {K:Act→World→Prop} (N:Nat) (cs:Array Value) (t:TypeId) (h:∀g,jC w g→∀w1,az w w1→aU w1 g cs t→K (a.put (some N) (.pointer (some ⟨g,0,none⟩))) w1) (hN:oi.dst=some N:=by rfl) (hw:Region.wanted oi (yielded ops a.tmps)=true:=by rfl)
    (hr:(execOp a.eval oi).run P w= .ok (.value (.pointer (some ⟨w.heap.size,0,none⟩))) (w.alloc (.cells cs t (0,0))):=by first|(go_simp;done)|(go_simp;rfl)):if Region.wanted oi (yielded ops a.tmps)=true then Oper.wp P oi a w K Q else K (a.put (some N) undef) w:=by
  rw[←hN];refine n4 hw hN hr fun g hg w1 hb hk=> ?_;rw[hN];exact h g ⟨hg⟩ w1 ⟨hk⟩ ⟨hb⟩
theorem kH {K:Act→World→Prop} (e N:Nat) (t:TypeId) (x y:Operand) (m:Nat) (bytes:Nat) (hu:P.underlying t=some (.slice e)) (hinfo:(P.info? e).map (fun i=>(i.zero,i.size,i.bytes))=some (some (.int .i64 0),1,bytes)) (hb0:0<bytes) (hl:m*bytes≤281474976710656)
    (h:∀A c w1,dT (Kd.int .i64) e w w1 A c (List.replicate m 0)→az w w1→K (a.put (some N) (.slice A (List.replicate m (0:Int)).length c)) w1) (hN:oi.dst=some N:=by rfl) (hw:Region.wanted oi (yielded ops a.tmps)=true:=by rfl)
    (ho:oi.op= .makeSlice t x y:=by rfl) (hx:a.eval x= .int .i64 (m:Int):=by rfl) (hy:a.eval y= .int .i64 (m:Int):=by rfl):if Region.wanted oi (yielded ops a.tmps)=true then Oper.wp P oi a w K Q else K (a.put (some N) undef) w:=by
  rw[←hN];refine Kd.xq (Kd.int .i64) w.heap.size e hw hN t x y ho (m:Int) hx hy hu (.int .i64 0) bytes hinfo rfl (by decide) hb0 0 (ok:=fun _=>True) (bB:=fun _=>True) rfl (fun _ h=>h) trivial (by omega) (by simpa using hl) (Below.refl _ _) (Nat.le_refl _) ?_;intro v1 w1 u hb _ _;obtain⟨A,c,rfl⟩:=Kd.bz u;rw[Int.toNat_natCast]at u ⊢;rw[hN];exact h A c w1 ⟨u⟩ ⟨hb⟩
theorem kI {oj:Oper} {li lj:Array Bool} (i j:Nat) (Ni Nj:Option Tmp) (u:ae (bo .any ops=T))
    (h1:∀K:Act→World→Prop,Shut (∀a' w',Sb w3 w'→(Sb w3 w'→bK P .any ops Q (Sb w3) ds fuel li a' w')→K a' w')→if Region.wanted oi (yielded ops a.tmps)=true then Oper.wp P oi a w K Q else K (a.put Ni undef) w)
    (h2:∀K:Act→World→Prop,Shut (∀a' w',Sb w3 w'→(Sb w3 w'→bK P .any ops Q (Sb w3) ds fuel lj a' w')→K a' w')→if Region.wanted oj (yielded ops a.tmps)=true then Oper.wp P oj a w K Q else K (a.put Nj undef) w)
    (hi:ops[i]? =some oi:=by rfl) (hj:ops[j]? =some oj:=by rfl) (mf:oi.dst=Ni:=by rfl) (mg:oj.dst=Nj:=by rfl)
    (yM:l.setIfInBounds i true=li:=by simp only[List.setIfInBounds_toArray,List.set_cons_zero,List.set_cons_succ];rfl) (hlj:l.setIfInBounds j true=lj:=by simp only[List.setIfInBounds_toArray,List.set_cons_zero,List.set_cons_succ];rfl)
    (hc:(gi T.2 l.toList==[i,j]&&l.toList.set i true==li.toList&&l.toList.set j true==lj.toList)=true:=by kernel_rfl) (kv:i∉ds:=by decide) (hdj:j∉ds:=by decide):
    bK P .any ops Q (Sb w3) ds (fuel+1) l a w:=wu li lj hi hj mf mg (wy u.out hc) kv hdj h1 h2
section
variable {α:Type} {xs ys:List α} {inner:List Value} {K:Act→World→Prop} {N:Nat}
theorem sj (d:Kd α) (e N:Nat) (xs:List α) (inner:List Value) (hp:aI (d.M w w.heap.size (fun _=>True)) d.sz xs inner) (h:∀A c w1,dT d e w w1 A c xs→az w w1→K (a.put (some N) (.slice A xs.length c)) w1)
    (hN:oi.dst=some N:=by rfl) (hw:Region.wanted oi (yielded ops a.tmps)=true:=by rfl) (hr:(execOp a.eval oi).run P w= .ok (.value (.slice (some ⟨w.heap.size,0,none⟩) xs.length xs.length)) (w.alloc (.cells inner.toArray e)):=by first|(go_simp;done)|(go_simp;rfl)) (hl:xs.length≤9223372036854775807:=by simp):
    if Region.wanted oi (yielded ops a.tmps)=true then Oper.wp P oi a w K Q else K (a.put (some N) undef) w:=by
  rw[←hN];refine Kd.kS d w.heap.size e hw hN (xs:=xs) (inner:=inner) (ok:=fun _=>True) (bB:=fun _=>True) hr hp (fun _ h=>h) trivial (Below.refl _ _) (Nat.le_refl _) hl ?_;intro v1 w1 ho hb _ _;obtain⟨A,c,rfl⟩:=Kd.bz ho;rw[hN];exact h A c w1 ⟨ho⟩ ⟨hb⟩
theorem qI {a':Option Addr→Nat→Act} (d:Kd α) (i e N:Nat) (xs:List α) (inner:List Value) (u:ae (bo .any ops=T)) (hS:Sb w3 w) (hp:aI (d.M w w.heap.size (fun _=>True)) d.sz xs inner) (h:∀A c w1,dT d e w w1 A c xs→az w w1→Sb w3 w1→bK P .any ops Q (Sb w3) ds fuel l' (a' A c) w1) (hi:ops[i]? =some oi:=by rfl)
    (hN:oi.dst=some N:=by rfl) (hl':l.setIfInBounds i true=l':=by simp only[List.setIfInBounds_toArray,List.set_cons_zero,List.set_cons_succ];rfl) (hc:(gi T.2 l.toList==[i]&&l.toList.set i true==l'.toList)=true:=by kernel_rfl) (hd:i∉ds:=by decide) (hw:Region.wanted oi (yielded ops a.tmps)=true:=by rfl)
    (hr:(execOp a.eval oi).run P w= .ok (.value (.slice (some ⟨w.heap.size,0,none⟩) xs.length xs.length)) (w.alloc (.cells inner.toArray e)):=by first|(go_simp;done)|(go_simp;rfl)) (hl:xs.length≤9223372036854775807:=by simp)
    (ha:∀A c,a.put (some N) (.slice A xs.length c)=a' A c:=by intro A c;simp only[Act.put,List.setIfInBounds_toArray,List.set_cons_zero,List.set_cons_succ,bG,bN];rfl):
    bK P .any ops Q (Sb w3) ds (fuel+1) l a w:=dh l' hi hN (cX u.out hc) hd fun K hK=>sj d e N xs inner hp (fun A c w1 j b=>hK.out _ _ (aC hS b.out) fun _=>by rw[ha];exact h A c w1 j b (aC hS b.out)) hN hw hr hl
theorem qP {a':Option Addr→Nat→Act} {A A2:Option Addr} {c c2 e:Nat} (d:Kd α) (xs ys:List α) (i N:Nat) (so xo:Operand) (t:TypeId) (z:Value) (bytes:Nat) (D:ae (bo .any ops=T)) (hS:Sb w3 w)
    (hu:P.underlying t=some (.slice e)) (hinfo:(P.info? e).map (fun i=>(i.zero,i.size,i.bytes))=some (some z,d.sz,bytes)) (hz:z.cells.size=d.sz) (hs0:0<d.sz) (hb0:0<bytes) (F:∀x cs,d.K w x cs→d.M w w3.heap.size (fun _=>False) x cs) (hlen:(xs.length+ys.length)*bytes≤140737488355328)
    (h:∀A' c' w1,dT d e w3 w1 A' c' (xs++ys)→az w3 w1→Sb w3 w1→bK P .any ops Q (Sb w3) ds fuel l' (a' A' c') w1)
    (hi:ops[i]? =some oi:=by rfl) (hN:oi.dst=some N:=by rfl) (ho:oi.op= .call {callee:= .builtin .append,args:= #[so,xo],argTypes:= #[t,t]}:=by rfl) (hs:a.eval so= .slice A xs.length c:=by rfl) (hx:a.eval xo= .slice A2 ys.length c2:=by rfl)
    (hl':l.setIfInBounds i true=l':=by simp only[List.setIfInBounds_toArray,List.set_cons_zero,List.set_cons_succ];rfl) (hc:(gi T.2 l.toList==[i]&&l.toList.set i true==l'.toList)=true:=by kernel_rfl) (hd:i∉ds:=by decide) (hw:Region.wanted oi (yielded ops a.tmps)=true:=by rfl)
    (hR:d.R e w w3.heap.size (fun _=>True) (.slice A xs.length c) xs:=by exact bl) (yG:d.C w A2 ys.length ys:=by exact qh)
    (ha:∀A c,a.put (some N) (.slice A (xs++ys).length c)=a' A c:=by intro A c;simp only[Act.put,List.setIfInBounds_toArray,List.set_cons_zero,List.set_cons_succ,bG,bN];rfl):
    bK P .any ops Q (Sb w3) ds (fuel+1) l a w:=dh l' hi hN (cX D.out hc) hd fun K hK=>by
  rw[←hN];refine Kd.s7 d (w0:=w3) w3.heap.size hw so xo t e z bytes ho hu hinfo hz hs0 hb0 (.slice A xs.length c) xs ys A2 ys.length c2 (fun _=>True) (fun _=>False) hs hx hR yG F (fun _ h=>h.elim) (fun _ _=>trivial) hS hS.size hlen ?_;intro v1 w1 u hb _ _;obtain⟨A',c',rfl⟩:=Kd.bz u;rw[hN];exact hK.out _ _ hb fun _=>by rw[ha];exact h A' c' w1 ⟨u⟩ ⟨hb⟩ hb
end
end
class qW (W:outParam World) (W':World) (e:outParam Nat):Prop where out:∀(g:Nat) (cs:Array Value) (t:TypeId),W.heap[g]? =some (.cells cs t (0,0))→e≠t→W'.heap[g]? =some (.cells cs t (0,0))
class mW (e t:Nat):Prop where out:e≠t
section
variable {w w0 W W':World} {g e t:Nat} {cs:Array Value}
instance [h:qW W W' e] [k:aU W g cs t] [n:mW e t]:aU W' g cs t:=⟨h.out g cs t k.out n.out⟩
theorem grE {α:Type} {d:Kd α} {v:Value} {xs:List α} {B:Nat} {ok:Nat→Prop} (h:d.R e W B ok v xs) (hg:W.grownBy W' v.ownBlock):qW W W' e:=⟨fun g cs t hb ht=>px hb hg (Kd.fU h hb ht)⟩
theorem bW {α:Type} {d:Kd α} {w1 w2:World} {A:Option Addr} {c n:Nat} {xs:List α} [h:dT d e w1 w2 A c xs] [k:dY w1 w2 W] [l:From w w1] (hn:n=xs.length):d.R e W w.heap.size (fun _=>True) (.slice A n c) xs:=by rw[hn];exact bl
theorem sw {α:Type} {d:Kd α} {v:Value} {xs:List α} (h:d.R e W w.heap.size (fun _=>True) v xs):∃A c,v= .slice A xs.length c∧dT d e w W A c xs:=by
  obtain⟨A,c,rfl⟩:=Kd.bz h;exact⟨A,c,rfl,⟨h⟩⟩
theorem gP {α:Type} {d:Kd α} {w1:World} {A:Option Addr} {c n:Nat} {xs:List α} [h:At d e w1 W A c xs] [l:From w w1] (hn:n=xs.length):d.R e W w.heap.size (fun _=>True) (.slice A n c) xs:=by rw[hn];exact bZ
class Dj (A B:Option Addr):Prop where out:∀a b:Addr,A=some a→B=some b→a.block≠b.block
theorem p8 {a:Addr} {n c k:Nat} (h:(Value.slice (some a) n c).ownBlock=some k):k=a.block:=by cases h;rfl
theorem lM {A B:Option Addr} {n c n' c':Nat} (h:∀k,(Value.slice A n c).ownBlock=some k→some k≠(Value.slice B n' c').ownBlock):Dj A B:=
  ⟨by rintro a b rfl rfl e;exact h a.block rfl (by rw[e];rfl)⟩
instance {B:Option Addr}:Dj none B:=⟨fun _ _ h=>by cases h⟩
instance {A:Option Addr}:Dj A none:=⟨fun _ _ _ h=>by cases h⟩
theorem oL {e:Nat} {w1 w2:World} {a:Addr} {c:Nat} {xs:List Int} (h:dT (Kd.int .i64) e w1 w2 (some a) c xs):w1.heap.size≤a.block∧a.block<w2.heap.size:=⟨Kd.dr h.out a.block rfl,Kd.en h.out a.block rfl⟩
instance {e e':Nat} {w1 w2 u z:World} {A B:Option Addr} {c c':Nat} {xs ys:List Int} [a:dT (Kd.int .i64) e w1 w2 A c xs] [b:dT (Kd.int .i64) e' u z B c' ys] [s:Sz w2 u]:Dj A B:=
  ⟨by rintro x y rfl rfl h;have h1:=oL a;have h2:=oL b;have:=s.out;omega⟩
instance {e e':Nat} {w1 w2 z u:World} {A B:Option Addr} {c c':Nat} {xs ys:List Int} [a:dT (Kd.int .i64) e w1 w2 A c xs] [b:dT (Kd.int .i64) e' z u B c' ys] [s:Sz u w1]:Dj A B:=
  ⟨by rintro x y rfl rfl h;have h1:=oL a;have h2:=oL b;have:=s.out;omega⟩
theorem pL {W W':World} {A:Option Addr} {c:Nat} {xs:List Int} (hg:W.grownBy W' (Value.slice A xs.length c).ownBlock) [h:At (Kd.int .i64) e w W A c xs]:qW W W' e:=grE h.out hg
theorem pE {A B:Option Addr} (h:Dj A B):Dj B A:=⟨fun a b h1 h2 e=>h.out b a h2 h1 e.symm⟩
theorem gR {e u n c n' c':Nat} {A B:Option Addr} {ok:Nat→Prop} {xs:List Int} (h:(Kd.int .i64).R e W u ok (.slice A n c) xs) [d:Dj A B]:(Kd.int .i64).R e W u (fun k=>some k≠(Value.slice B n' c').ownBlock) (.slice A n c) xs:=
  Kd.th rfl h (by
    intro k hk he;rcases A with _|a
    · cases hk
    rcases B with _|b
    · cases he
    have h1:=p8 hk;have h2:=p8 he.symm;exact d.out a b rfl rfl (h1.symm.trans h2))
theorem lJ {α:Type} {d:Kd α} {ok:Nat→Prop} {v:Value} {xs:List α} (h:d.R e W w.heap.size ok v xs):∃A c,v= .slice A xs.length c∧At d e w W A c xs∧aq xs.length c∧∀k,(Value.slice A xs.length c).ownBlock=some k→ok k:=by
  obtain⟨A,c,rfl⟩:=Kd.bz h;exact⟨A,c,rfl,⟨Kd.bh h (fun _ _=>trivial)⟩,⟨(Kd.aY h).2.1⟩,h.1⟩
theorem pP {α:Type} {d:Kd α} {e':Nat} {w1 w2:World} {A B:Option Addr} {c c' n:Nat} {xs:List α} {ys:List Int} (j:dT d e' w1 w2 A c xs) [k:dY w1 w2 W] (hg:W.grownBy W' (Value.slice B n c').ownBlock) [a:At (Kd.int .i64) e w w1 B c' ys]:dY w1 w2 W':=
  ⟨fun i h1 h2=>(hg.block i (oq k h1 h2) (by
    rintro hb;rcases B with _|b
    · cases hb
    have h3:=p8 hb.symm;have h4:=Kd.en a.out b.block rfl;omega)).trans (k.out i h1 h2)⟩
theorem pD {w1 w2:World} {A B C:Option Addr} {c c' c7 n u:Nat} {xs ys:List Int} {e':Nat} (j:dT (Kd.int .i64) e' w1 w2 A c xs)
    (hat:(Value.slice C u c7).ownBlock=(Value.slice B n c').ownBlock∨∃b,(Value.slice C u c7).ownBlock=some b∧W.heap.size≤b) [s:Sz w2 W] [a:At (Kd.int .i64) e w w1 B c' ys]:Dj C A:=
  ⟨by
    rintro x y rfl rfl he;have h1:=oL j;have h2:=s.out;rcases hat with h|⟨b,hb,hs⟩
    · rcases B with _|z
      · cases h
      have h3:x.block=z.block:=(by cases z;cases x;injection h);have h4:=Kd.en a.out z.block rfl;omega
    · have h3:=p8 hb;omega⟩
end
end V
namespace P
set_option maxHeartbeats 8000000
set_option maxRecDepth 100000
set_option synthInstance.maxHeartbeats 400000
set_option synthInstance.maxSize 100000
open Go.RowKit WW.bq WW.cg WW.cd V
attribute [local go_sem] dN dO iY kV kX lK lQ
attribute [local go_sem] cN cR cQ cU cP cT cO cS
def fe.j0:Nat→Bool→List (aj)→Int→List Int→List (aj)→Int→List Int→Option ((List (aj))×Int×List Int×Bool)
 |0,_,_,_,_,_,_,_=>none
 |k+1,I,z,u,J,F,G,D=>if I=true then(some (F,G,D,false))else((fY.f k z u J u).bind fun H=>(if H=0 then(some (F,G,D,false))else(if 0≤u then(if u<(z.length:Int)then(if 0≤((ak z u).f1)then(if((ak z u).f1)<(D.length:Int)then(some (F,wrap64 (G+1),(D.set (((ak z u).f1):Int).toNat H),true))else(none))else(none))else(none))else(none))))
def fe.f (k:Nat) (D:List (aj)) (z:Int) (F:List Int):Option ((List (aj))×Int×List Int×Bool):=(fx.f D z F).bind fun u=>((gb.f D z F).bind fun G=>(if G=true then(fe.j0 k (z==(D.length:Int)) D z F u.1 u.2.1 u.2.2)else(fe.j0 k true D z F u.1 u.2.1 u.2.2)))
def fe.T7:Bool×List (List Nat×List Nat):=(true,[([],[]),([0],[0]),([],[]),([2],[2]),([],[]),([4],[4]),([3,5],[3,5]),([6],[6]),([7],[7]),([],[]),([1,8,0,1,2,3,4,5,6,7,8,9],[1,8]),([10,9,0,1,2,3,4,5,6,7,8,9],[9,10])])
def fe.B7:List Nat:=[0,1,0,4,0,16,60,124,252,0,1023,2047]
theorem fe.qu:bo .any (opsOf Tryz.f99 7)=fe.T7:=by kernel_rfl
theorem fe.pq:cp fe.T7.2 fe.B7=true:=by kernel_rfl
theorem fe.c (k:Nat) (H:Option Addr) (K:Nat) (z:List (aj)) (J:Int) (I:Option Addr) (O:Nat) (D:List Int) (r1:List (aj)) (r2:Int) (r3:List Int) (ap:Bool) (w:World) (ak:Kd.C aX w H z.length z) (Z:z.length≤K) (al:Kd.C (Kd.int .i64) w I D.length D) (ad:D.length≤O) (h:fe.f k z J D=some (r1,r2,r3,ap)):
  Calls Tryz.prog 99 #[.agg #[.slice H z.length K,.int .i64 J,.slice I D.length O]] w fun e w'=>∃ar au:Value,e= .returned (.tuple #[.agg #[ar,.int .i64 r2,au],.bool ap])∧Kd.R aX 110 w' w.heap.size (fun _=>True) ar r1∧Kd.R (Kd.int .i64) 3 w' w.heap.size (fun _=>True) au r3∧Below w.heap.size w w':=by
 replace ak:=bn.mk ak;replace Z:=aq.mk Z;replace al:=bn.mk al;replace ad:=aq.mk ad;have aJ:=cL.mk (d:=aX) (e:=110) (t:=3) (by decide);have aI:=cL.mk (d:=aX) (e:=110) (t:=27) (by decide);unfold fe.f at h;have aC:=Tryz.underlying27
 all_goals go_enter Tryz.func99,Tryz.ntmps99
 all_goals go_wp2_with ((first
  |((with_reducible refine ax (N:=1) rfl ?_);refine bV #[.slice H z.length K,.int .i64 J,.slice I D.length O] 27 fun g w1 j1 j2 am=> ?_)
  |((with_reducible refine ax (N:=2) rfl ?_);refine bV #[.slice none 0 0,.int .i64 0,.slice none 0 0] 27 fun g w1 j1 j2 am=> ?_)
  |((with_reducible refine ax (N:=4) rfl ?_);refine bV #[.slice none 0 0,.int .i64 0,.slice none 0 0] 27 fun g w1 j1 j2 am=> ?_)
  |(go_at_call 53;(try rw[F.out]);replace h:=bI h;obtain⟨⟨t1,t2,t3⟩,A,h⟩:=h;(try dsimp only at h);refine(fx.c _ _ _ _ _ _ _ _ _ _ _ Rd.out aq.out Rd.out aq.out A).mono ?_;rintro e w2 ⟨v0,v1,rfl,ae,ai,hb⟩;obtain⟨aA,b0,rfl,j0,q0⟩:=aQ ae;obtain⟨B1,b1,rfl,j1,q1⟩:=aQ ai;have ao:=az.mk hb;clear A ae ai hb)
  |(go_at_call 55;(try rw[F.out]);replace h:=bI h;obtain⟨t,A,h⟩:=h;(try dsimp only at h);refine(gb.c _ _ _ _ _ _ _ _ _ Rd.out aq.out Rd.out aq.out A).mono ?_;rintro e w2 ⟨rfl,hb⟩;have ao:=az.mk hb;clear A hb)
  |(go_at_call 131;(try rw[F.out]);replace h:=bI h;obtain⟨t,A,h⟩:=h;(try dsimp only at h);refine(fY.c _ _ _ _ _ _ _ _ _ _ _ Rd.out aq.out Rd.out aq.out A).mono ?_;rintro e w2 ⟨rfl,hb⟩;have ao:=az.mk hb;clear A hb)
  |(refine qR (id:=7) (ds:=[11]) (l:= #[false,false,false,false,false,false,false,false,false,false,false,false]) fe.qu fe.pq ?_;intro u G w3 aF u0 aE hHeld;refine qA 0 (some 27) u ?_;refine qA 2 (some 29) u ?_;refine qA 4 (some 31) u ?_;refine qA 9 (some 36) u ?_;refine qT 1 (some 28) u G hHeld ?_;refine qT 3 (some 30) u G hHeld ?_;refine qT 5 (some 32) u G hHeld ?_;refine qA 6 (some 33) u ?_;refine qA 7 (some 34) u ?_;refine qT 8 (some 35) u G hHeld ?_;refine qA 10 (some 37) u ?_;refine qL 11 u ?_;refine qD u ?_));(repeat' first|((with_reducible replace h:=bU h);rcases h with ⟨hc,h⟩|⟨hc,h⟩<;>first|exact(bL h).elim|exact absurd hc (by decide)|subst hc|(replace hc:=bA hc;subst hc)|(replace hc:=dz hc;subst hc)|(replace hc:=dA hc;subst hc)|(have hd:(_==_)=true:=hc)|(have hd:(_==_)=false:=bA hc)|(have hd:=bQ hc;have he:=bR hc;clear hc)|(have hd:=bS hc;have he:=bT hc)|(have hd:=ay hc)|(have hd:=ah hc;(try(have hn:=Int.natCast_pos.mp hc;have hm:=ah hn;replace hn:=av hn));first|(obtain⟨aB,e_,i_⟩:=dy (by assumption) (by first|assumption|decide) hc;cases e_)|(obtain⟨aw,e_,c_⟩:=dv (by assumption) (by first|assumption|decide) hc;cases e_)|(obtain⟨aw,e_,U,V,X,Y⟩:=eV (bn.out (self:=by assumption)) _ (by first|assumption|decide) hc;cases e_;replace U:=bu.mk U;replace V:=bu.mk V;replace X:=bu.mk X;replace Y:=bu.mk Y))|(have hd:=ah hc)|skip)|((with_reducible have hj:fe.j0 k _ _ _ _ _ _ _=_:=h);clear hj;rcases k with _|k<;>rw[fe.j0]at h<;>first|exact(bL h).elim|skip)|((with_reducible replace h:=dw h);obtain⟨F,h⟩:=h;replace F:=A_ F;(try dsimp only at h))))
 all_goals simp only[Option.some.injEq,Prod.mk.injEq]at h
 all_goals obtain⟨rfl,rfl,rfl,rfl⟩:=h
 all_goals refine bodyPost_ret (di rfl _ _ _ _ _ (0,0) _ rfl aU.out Tryz.underlying27 rfl (by kernel_rfl)) rfl ?_
 all_goals exact⟨_,_,rfl,(by first|exact bl|exact Kd.bj _ _ _ _ _|exact bZ|exact dJ (by simp)),(by first|exact bl|exact Kd.bj _ _ _ _ _|exact bZ|exact dJ (by simp)),From.out⟩
def eZ.f (k:Nat) (D:List (aj)) (F:Int) (G:List Int):Option ((List (aj))×Int×List Int×Bool):=(fx.f D F G).bind fun u=>((dB.f k D F G).bind fun z=>(if(z.length:Int)=0 then(some (u.1,u.2.1,u.2.2,false))else(if 0<(z.length:Int)then((fY.f k D F G (rd z 0)).bind fun H=>(if H=0 then(some (u.1,u.2.1,u.2.2,false))else(if 0≤(rd z 0)then(if(rd z 0)<(D.length:Int)then(if 0≤((ak D (rd z 0)).f1)then(if((ak D (rd z 0)).f1)<(u.2.2.length:Int)then(some (u.1,u.2.1,(u.2.2.set (((ak D (rd z 0)).f1):Int).toNat H),true))else(none))else(none))else(none))else(none))))else(none))))
def eZ.T8:Bool×List (List Nat×List Nat):=(true,[([],[]),([0],[0]),([],[]),([2],[2]),([],[]),([4],[4]),([5],[5]),([3,6],[3,6]),([7],[7]),([8],[8]),([],[]),([1,9,0,1,2,3,4,5,6,7,8,9,10],[1,9]),([11,10,0,1,2,3,4,5,6,7,8,9,10],[10,11])])
def eZ.B8:List Nat:=[0,1,0,4,0,16,48,124,252,508,0,2047,4095]
theorem eZ.ju:bo .any (opsOf Tryz.f101 8)=eZ.T8:=by kernel_rfl
theorem eZ.iX:cp eZ.T8.2 eZ.B8=true:=by kernel_rfl
noncomputable def eZ.T5:Bool×List (List Nat×List Nat):=bo .any (opsOf Tryz.f101 5)
def eZ.B5:List Nat:=[0,0,2,6,15,31]
theorem eZ.oW:bo .any (opsOf Tryz.f101 5)=eZ.T5:=rfl
theorem eZ.nY:cp eZ.T5.2 eZ.B5=true:=by kernel_rfl
theorem eZ.c (k:Nat) (I:Option Addr) (U:Nat) (D:List (aj)) (O:Int) (J:Option Addr) (V:Nat) (F:List Int) (r1:List (aj)) (r2:Int) (r3:List Int) (ar:Bool) (w:World) (al:Kd.C aX w I D.length D) (ae:D.length≤U) (am:Kd.C (Kd.int .i64) w J F.length F) (ai:F.length≤V) (h:eZ.f k D O F=some (r1,r2,r3,ar)):
  Calls Tryz.prog 101 #[.agg #[.slice I D.length U,.int .i64 O,.slice J F.length V]] w fun e w'=>∃au aw:Value,e= .returned (.tuple #[.agg #[au,.int .i64 r2,aw],.bool ar])∧Kd.R aX 110 w' w.heap.size (fun _=>True) au r1∧Kd.R (Kd.int .i64) 3 w' w.heap.size (fun _=>True) aw r3∧Below w.heap.size w w':=by
 replace al:=bn.mk al;replace ae:=aq.mk ae;replace am:=bn.mk am;replace ai:=aq.mk ai;have aK:=cL.mk (d:=aX) (e:=110) (t:=3) (by decide);have aJ:=cL.mk (d:=aX) (e:=110) (t:=27) (by decide);unfold eZ.f at h;have aI:=Tryz.underlying27
 all_goals go_enter Tryz.func101,Tryz.ntmps101
 all_goals go_wp2_with ((first
  |((with_reducible refine ax (N:=1) rfl ?_);refine bV #[.slice I D.length U,.int .i64 O,.slice J F.length V] 27 fun g w1 j1 j2 ao=> ?_)
  |((with_reducible refine ax (N:=2) rfl ?_);refine bV #[.slice none 0 0,.int .i64 0,.slice none 0 0] 27 fun g w1 j1 j2 ao=> ?_)
  |((with_reducible refine ax (N:=4) rfl ?_);refine bV #[.slice none 0 0,.int .i64 0,.slice none 0 0] 27 fun g w1 j1 j2 ao=> ?_)
  |(go_at_call 53;(try rw[H.out]);replace h:=bI h;obtain⟨⟨t1,t2,t3⟩,A,h⟩:=h;(try dsimp only at h);refine(fx.c _ _ _ _ _ _ _ _ _ _ _ Rd.out aq.out Rd.out aq.out A).mono ?_;rintro e w2 ⟨v0,v1,rfl,G,ak,hb⟩;obtain⟨aA,b0,rfl,j0,q0⟩:=aQ G;obtain⟨B1,b1,rfl,j1,q1⟩:=aQ ak;have ap:=az.mk hb;clear A G ak hb)
  |(go_at_call 100;(try rw[H.out]);replace h:=bI h;obtain⟨t,A,h⟩:=h;(try dsimp only at h);refine(dB.c _ _ _ _ _ _ _ _ _ _ Rd.out aq.out Rd.out aq.out A).mono ?_;rintro e w2 ⟨v0,rfl,G,hb⟩;obtain⟨aA,b0,rfl,j0,q0⟩:=aQ G;have ap:=az.mk hb;clear A G hb)
  |(refine qR (id:=5) (ds:=[]) (l:= #[false,false,false,false,false,false]) eZ.oW eZ.nY ?_;intro u z w3 aE u0 aC hHeld;refine qA 1 (some 16) u ?_;refine qA 2 (some 17) u ?_;refine qT 0 (some 15) u z hHeld ?_;refine qT 3 (some 18) u z hHeld ?_;replace h:=bI h;obtain⟨t,A,h⟩:=h;(try dsimp only at h);refine qC 4 19 Tryz.func131 u fun K hK=> ?_;refine(fY.c _ _ _ _ _ _ _ _ _ _ _ Rd.out aq.out Rd.out aq.out A).mono ?_;rintro e w2 ⟨rfl,hb⟩;have ap:=az.mk hb;clear A hb;refine⟨_,rfl,hK _ _ From.out fun hHeld=> ?_⟩;clear hK K;refine qN ?_;refine qA 5 (some 6) u ?_;refine qD u ?_)
  |(refine qR (id:=8) (ds:=[12]) (l:= #[false,false,false,false,false,false,false,false,false,false,false,false,false]) eZ.ju eZ.iX ?_;intro u z w3 aE u0 aC hHeld;refine qA 0 (some 23) u ?_;refine qA 2 (some 25) u ?_;refine qA 4 (some 27) u ?_;refine qA 5 (some 28) u ?_;refine qA 10 (some 33) u ?_;refine qT 1 (some 24) u z hHeld ?_;refine qT 3 (some 26) u z hHeld ?_;refine qT 6 (some 29) u z hHeld ?_;refine qA 7 (some 30) u ?_;refine qA 8 (some 31) u ?_;refine qT 9 (some 32) u z hHeld ?_;refine qA 11 (some 34) u ?_;refine qL 12 u ?_;refine qD u ?_));(repeat' first|((with_reducible replace h:=bU h);rcases h with ⟨hc,h⟩|⟨hc,h⟩<;>first|exact(bL h).elim|exact absurd hc (by decide)|subst hc|(replace hc:=bA hc;subst hc)|(replace hc:=dz hc;subst hc)|(replace hc:=dA hc;subst hc)|(have hd:(_==_)=true:=hc)|(have hd:(_==_)=false:=bA hc)|(have hd:=bQ hc;have he:=bR hc;clear hc)|(have hd:=bS hc;have he:=bT hc)|(have hd:=ay hc)|(have hd:=ah hc;(try(have hn:=Int.natCast_pos.mp hc;have hm:=ah hn;replace hn:=av hn));first|(obtain⟨aF,e_,i_⟩:=dy (by assumption) (by first|assumption|decide) hc;cases e_)|(obtain⟨aB,e_,c_⟩:=dv (by assumption) (by first|assumption|decide) hc;cases e_)|(obtain⟨aB,e_,X,Y,Z,ad⟩:=eV (bn.out (self:=by assumption)) _ (by first|assumption|decide) hc;cases e_;replace X:=bu.mk X;replace Y:=bu.mk Y;replace Z:=bu.mk Z;replace ad:=bu.mk ad))|(have hd:=ah hc)|skip)|((with_reducible replace h:=dw h);obtain⟨H,h⟩:=h;replace H:=A_ H;(try dsimp only at h)));all_goals(try have hn:decide (0<t.length)=true:=ah (by omega));all_goals(try have hn:decide (0<t.length)=false:=ay (by omega)))
 all_goals simp only[Option.some.injEq,Prod.mk.injEq]at h
 all_goals obtain⟨rfl,rfl,rfl,rfl⟩:=h
 all_goals refine bodyPost_ret (di rfl _ _ _ _ _ (0,0) _ rfl aU.out Tryz.underlying27 rfl (by kernel_rfl)) rfl ?_
 all_goals exact⟨_,_,rfl,(by first|exact bl|exact Kd.bj _ _ _ _ _|exact bZ|exact dJ (by simp)),(by first|exact bl|exact Kd.bj _ _ _ _ _|exact bZ|exact dJ (by simp)),From.out⟩
end P

end Go.Proofs.YtnjfiaekdcekgaaGreatDoor
