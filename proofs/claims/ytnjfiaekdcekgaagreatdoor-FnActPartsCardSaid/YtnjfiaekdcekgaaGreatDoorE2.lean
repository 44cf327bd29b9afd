/- What functions of the program come to (f), that their calls come to just this (calls), and the plain laws over lists and numbers. No condition but those of the given row. -/
import Derived.Test.YtnjfiaekdcekgaaGreatDoorE1
import Derived.KernelRfl
import Derived.Maps.RangeWalk
import Derived.Maps.OwnSet
import Derived.Maps.OwnOps
import Derived.Maps.Ext
import Derived.DeepKeys5
import Derived.Deep.RegionHeld3
set_option linter.unusedVariables false
set_option linter.unusedSimpArgs false
namespace Go.Proofs.YtnjfiaekdcekgaaGreatDoor
namespace P
set_option maxHeartbeats 8000000
set_option maxRecDepth 100000
open Go.RowKit WW.bc WW.bY WW.bZ
attribute [local go_sem] cP cT cS cW cR cV cQ cU
def lM.f (u:Int) (I:Int) (z:Int) (D:Int) (F:Int) (J:Int) (G:Int) (H:Int):Option (Bool):=if z=G then(if D=H then(if u=F then(some (decide (I<J)))else(some (decide (u<F))))else(some (decide (D<H))))else(some (decide (z>G)))
theorem lM.c (O:Int) (ar:Int) (U:Int) (V:Int) (X:Int) (au:Int) (ad:Int) (af:Int) (r:Bool) (w:World) (h:lM.f O ar U V X au ad af=some r):
  Calls Tryz.prog 155 #[.agg #[.int .i64 O,.int .i64 ar,.int .i64 U,.int .i64 V],.agg #[.int .i64 X,.int .i64 au,.int .i64 ad,.int .i64 af]] w fun e w'=>e= .returned (.bool r)∧Below w.heap.size w w':=by
 have hu64:=Tryz.underlying64;have z:=A_ (Below.refl w.heap.size w);have H:(if U=ad then(if V=af then(if O=X then(some (decide (ar<au)))else(some (decide (O<X))))else(some (decide (V<af))))else(some (decide (U>ad))))=some r:=h;clear h;by_cases c3:U=ad
 ·rw[ai c3]at H;have aG:(U==ad)=true:=beq_iff_eq.mpr c3;have aH:(U != ad)=false:=bne_eq_false_iff_eq.mpr c3;clear c3;by_cases c4:V=af
  ·rw[ai c4]at H;have aI:(V==af)=true:=beq_iff_eq.mpr c4;have aJ:(V != af)=false:=bne_eq_false_iff_eq.mpr c4;clear c4;by_cases c5:O=X
   ·rw[ai c5]at H;have aK:(O==X)=true:=beq_iff_eq.mpr c5;have aL:(O != X)=false:=bne_eq_false_iff_eq.mpr c5;clear c5;obtain rfl:=aA H;go_enter Tryz.func155,Tryz.ntmps155
    go_wp2_with (first|((with_reducible refine aC (N:=2) rfl ?_);refine bX (N:=2) (cs:= #[.int .i64 O,.int .i64 ar,.int .i64 U,.int .i64 V]) (t:=64) ?_;intro ag hg cb F hb;have G:=A_ (aV (oB z) hb);have I:=A_ (F);have J:=A_ ((by rw[hg];exact(aZ (oB z)):w.heap.size≤ag));have K:=A_ ((by rw[hg];exact(aZ (oB z)):w.heap.size≤ag));clear z;have z:=G;have u:=I;have aE:=J;have av:=K;clear G I J K hb F hg)|((with_reducible refine aC (N:=3) rfl ?_);refine bX (N:=3) (cs:= #[.int .i64 X,.int .i64 au,.int .i64 ad,.int .i64 af]) (t:=64) ?_;intro ak hg w7 F hb;have G:=A_ (bb u hb);have I:=A_ (aV (oB z) hb);have J:=A_ (F);have K:=A_ ((by rw[hg];exact(aZ (oB z)):w.heap.size≤ak));have al:=A_ ((by rw[hg];exact(aZ (oB z)):w.heap.size≤ak));have am:=A_ (nL u hg);have ao:=A_ (nG u hg);clear u z;have u:=G;have z:=I;have D:=J;have aF:=K;have aB:=al;have ap:=am;have aq:=ao;clear G I J K al am ao hb F hg;have b2:=ap.out;have b6:=aq.out;have bl:=cz u 0;have bm:=cz u 1;have bn:=cz u 2;have bo:=cz u 3;have bU:=aD u.out 0;have bV:=aD u.out 1;have bW:=aD u.out 2;have bY:=aD u.out 3;have aM:=cz D 0;have aN:=cz D 1;have aO:=cz D 2;have aP:=cz D 3;have bp:=aD D.out 0;have bq:=aD D.out 1;have br:=aD D.out 2;have bs:=aD D.out 3))
    go_ret;exact⟨eR,oB z⟩
   ·rw[aj c5]at H;have aK:(O==X)=false:=beq_eq_false_iff_ne.mpr c5;have aL:(O != X)=true:=bne_iff_ne.mpr c5;obtain rfl:=aA H;go_enter Tryz.func155,Tryz.ntmps155
    go_wp2_with (first|((with_reducible refine aC (N:=2) rfl ?_);refine bX (N:=2) (cs:= #[.int .i64 O,.int .i64 ar,.int .i64 U,.int .i64 V]) (t:=64) ?_;intro ag hg b7 F hb;have G:=A_ (aV (oB z) hb);have I:=A_ (F);have J:=A_ ((by rw[hg];exact(aZ (oB z)):w.heap.size≤ag));have K:=A_ ((by rw[hg];exact(aZ (oB z)):w.heap.size≤ag));clear z;have z:=G;have u:=I;have aE:=J;have av:=K;clear G I J K hb F hg)|((with_reducible refine aC (N:=3) rfl ?_);refine bX (N:=3) (cs:= #[.int .i64 X,.int .i64 au,.int .i64 ad,.int .i64 af]) (t:=64) ?_;intro ak hg b8 F hb;have G:=A_ (bb u hb);have I:=A_ (aV (oB z) hb);have J:=A_ (F);have K:=A_ ((by rw[hg];exact(aZ (oB z)):w.heap.size≤ak));have al:=A_ ((by rw[hg];exact(aZ (oB z)):w.heap.size≤ak));have am:=A_ (nL u hg);have ao:=A_ (nG u hg);clear u z;have u:=G;have z:=I;have D:=J;have aF:=K;have aB:=al;have ap:=am;have aq:=ao;clear G I J K al am ao hb F hg;have bZ:=ap.out;have b3:=aq.out;have aQ:=cz u 0;have aR:=cz u 1;have aS:=cz u 2;have aT:=cz u 3;have bt:=aD u.out 0;have bu:=aD u.out 1;have bv:=aD u.out 2;have bw:=aD u.out 3;have aU:=cz D 0;have aW:=cz D 1;have aY:=cz D 2;have a0:=cz D 3;have bx:=aD D.out 0;have bz:=aD D.out 1;have bA:=aD D.out 2;have bB:=aD D.out 3))
    go_ret;exact⟨eR,oB z⟩
  ·rw[aj c4]at H;have aI:(V==af)=false:=beq_eq_false_iff_ne.mpr c4;have aJ:(V != af)=true:=bne_iff_ne.mpr c4;obtain rfl:=aA H;go_enter Tryz.func155,Tryz.ntmps155
   go_wp2_with (first|((with_reducible refine aC (N:=2) rfl ?_);refine bX (N:=2) (cs:= #[.int .i64 O,.int .i64 ar,.int .i64 U,.int .i64 V]) (t:=64) ?_;intro ag hg b9 F hb;have G:=A_ (aV (oB z) hb);have I:=A_ (F);have J:=A_ ((by rw[hg];exact(aZ (oB z)):w.heap.size≤ag));have K:=A_ ((by rw[hg];exact(aZ (oB z)):w.heap.size≤ag));clear z;have z:=G;have u:=I;have aE:=J;have av:=K;clear G I J K hb F hg)|((with_reducible refine aC (N:=3) rfl ?_);refine bX (N:=3) (cs:= #[.int .i64 X,.int .i64 au,.int .i64 ad,.int .i64 af]) (t:=64) ?_;intro ak hg b_ F hb;have G:=A_ (bb u hb);have I:=A_ (aV (oB z) hb);have J:=A_ (F);have K:=A_ ((by rw[hg];exact(aZ (oB z)):w.heap.size≤ak));have al:=A_ ((by rw[hg];exact(aZ (oB z)):w.heap.size≤ak));have am:=A_ (nL u hg);have ao:=A_ (nG u hg);clear u z;have u:=G;have z:=I;have D:=J;have aF:=K;have aB:=al;have ap:=am;have aq:=ao;clear G I J K al am ao hb F hg;have b0:=ap.out;have b4:=aq.out;have a1:=cz u 0;have a2:=cz u 1;have a3:=cz u 2;have a4:=cz u 3;have bC:=aD u.out 0;have bD:=aD u.out 1;have bE:=aD u.out 2;have bF:=aD u.out 3;have a5:=cz D 0;have a6:=cz D 1;have a7:=cz D 2;have a9:=cz D 3;have bG:=aD D.out 0;have bH:=aD D.out 1;have bI:=aD D.out 2;have bK:=aD D.out 3))
   go_ret;exact⟨eR,oB z⟩
 ·rw[aj c3]at H;have aG:(U==ad)=false:=beq_eq_false_iff_ne.mpr c3;have aH:(U != ad)=true:=bne_iff_ne.mpr c3;obtain rfl:=aA H;go_enter Tryz.func155,Tryz.ntmps155
  go_wp2_with (first|((with_reducible refine aC (N:=2) rfl ?_);refine bX (N:=2) (cs:= #[.int .i64 O,.int .i64 ar,.int .i64 U,.int .i64 V]) (t:=64) ?_;intro ag hg b' F hb;have G:=A_ (aV (oB z) hb);have I:=A_ (F);have J:=A_ ((by rw[hg];exact(aZ (oB z)):w.heap.size≤ag));have K:=A_ ((by rw[hg];exact(aZ (oB z)):w.heap.size≤ag));clear z;have z:=G;have u:=I;have aE:=J;have av:=K;clear G I J K hb F hg)|((with_reducible refine aC (N:=3) rfl ?_);refine bX (N:=3) (cs:= #[.int .i64 X,.int .i64 au,.int .i64 ad,.int .i64 af]) (t:=64) ?_;intro ak hg ca F hb;have G:=A_ (bb u hb);have I:=A_ (aV (oB z) hb);have J:=A_ (F);have K:=A_ ((by rw[hg];exact(aZ (oB z)):w.heap.size≤ak));have al:=A_ ((by rw[hg];exact(aZ (oB z)):w.heap.size≤ak));have am:=A_ (nL u hg);have ao:=A_ (nG u hg);clear u z;have u:=G;have z:=I;have D:=J;have aF:=K;have aB:=al;have ap:=am;have aq:=ao;clear G I J K al am ao hb F hg;have b1:=ap.out;have b5:=aq.out;have a_:=cz u 0;have bc:=cz u 1;have bd:=cz u 2;have be:=cz u 3;have bL:=aD u.out 0;have bN:=aD u.out 1;have bO:=aD u.out 2;have bP:=aD u.out 3;have bf:=cz D 0;have bg:=cz D 1;have bj:=cz D 2;have bk:=cz D 3;have bQ:=aD D.out 0;have bR:=aD D.out 1;have bS:=aD D.out 2;have bT:=aD D.out 3))
  go_ret;exact⟨eR,oB z⟩
def mZ.f (a0:Int) (a1:Int):Option (Int):=(dn.f a0).bind fun u=>(if u=true then((fC.f a1).bind fun z=>(if z=true then(some (wrap64 (Int.tdiv (wrap64 (a0*(wrap64 (1000+(wrap64 (2*(wrap64 (a1-15)))))))) 1000)))else(some 0)))else(some 0))
theorem mZ.c (a0:Int) (a1:Int) (r:Int) (w:World) (h:mZ.f a0 a1=some r):
  Calls Tryz.prog 106 #[.int .i64 a0,.int .i64 a1] w fun e w'=>e= .returned (.int .i64 r)∧bf w w':=by
 have H:((dn.f a0).bind fun z=>(if z=true then((fC.f a1).bind fun D=>(if D=true then(some (wrap64 (Int.tdiv (wrap64 (a0*(wrap64 (1000+(wrap64 (2*(wrap64 (a1-15)))))))) 1000)))else(some 0)))else(some 0)))=some r:=h;clear h;replace H:=ay H;obtain⟨z,F,H⟩:=H
 (try dsimp only at H)
 have u:=A_ F;clear F;by_cases c4:z=true
 ·subst c4;rw[ai rfl]at H;replace H:=ay H;obtain⟨D,I,H⟩:=H
  (try dsimp only at H)
  have G:=A_ I;clear I;by_cases c6:D=true
  ·subst c6;rw[ai rfl]at H;obtain rfl:=aA H;go_enter Tryz.func106,Tryz.ntmps106
   go_wp2_with (first|((with_reducible refine bp (f:=98) rfl ?_);refine gL (some 6) Tryz.func98 #[.int .i64 a0] ?_;(with_reducible refine(dn.c a0 true _ u.out).mono ?_);rintro e w' ⟨rfl,⟨nd,rfl⟩⟩;refine⟨_,rfl,?_⟩)|(go_at_call 57;(with_reducible refine(fC.c a1 true _ G.out).mono ?_);rintro e w' ⟨rfl,⟨nd,rfl⟩⟩))
   go_ret;exact⟨eS,by repeat(first|exact bf.refl _|apply bf.step)⟩
  ·replace c6:=Bool.eq_false_iff.mpr c6;subst c6;rw[aj (show¬(false=true)by decide)]at H;obtain rfl:=aA H;go_enter Tryz.func106,Tryz.ntmps106
   go_wp2_with (first|((with_reducible refine bp (f:=98) rfl ?_);refine gL (some 6) Tryz.func98 #[.int .i64 a0] ?_;(with_reducible refine(dn.c a0 true _ u.out).mono ?_);rintro e w' ⟨rfl,⟨nd,rfl⟩⟩;refine⟨_,rfl,?_⟩)|(go_at_call 57;(with_reducible refine(fC.c a1 false _ G.out).mono ?_);rintro e w' ⟨rfl,⟨nd,rfl⟩⟩))
   go_ret;exact⟨eS,by repeat(first|exact bf.refl _|apply bf.step)⟩
 ·replace c4:=Bool.eq_false_iff.mpr c4;subst c4;rw[aj (show¬(false=true)by decide)]at H;obtain rfl:=aA H;go_enter Tryz.func106,Tryz.ntmps106
  go_wp2_with (first|((with_reducible refine bp (f:=98) rfl ?_);refine gL (some 6) Tryz.func98 #[.int .i64 a0] ?_;(with_reducible refine(dn.c a0 false _ u.out).mono ?_);rintro e w' ⟨rfl,⟨nd,rfl⟩⟩;refine⟨_,rfl,?_⟩))
  go_ret;exact⟨eS,by repeat(first|exact bf.refl _|apply bf.step)⟩
def nz.f (a0:Int) (a1:Int):Option (Int):=(cL.f a0).bind fun u=>(if u=true then((cA.f a1 (-10) 40).bind fun z=>(if z=true then(some (wrap64 (Int.tdiv (wrap64 (a0*(wrap64 (1000+(wrap64 (2*(wrap64 (a1-15)))))))) 1000)))else(some 0)))else(some 0))
theorem nz.c (a0:Int) (a1:Int) (r:Int) (w:World) (h:nz.f a0 a1=some r):
  Calls Tryz.prog 119 #[.int .i64 a0,.int .i64 a1] w fun e w'=>e= .returned (.int .i64 r)∧bf w w':=by
 have H:((cL.f a0).bind fun z=>(if z=true then((cA.f a1 (-10) 40).bind fun D=>(if D=true then(some (wrap64 (Int.tdiv (wrap64 (a0*(wrap64 (1000+(wrap64 (2*(wrap64 (a1-15)))))))) 1000)))else(some 0)))else(some 0)))=some r:=h;clear h;replace H:=ay H;obtain⟨z,F,H⟩:=H
 (try dsimp only at H)
 have u:=A_ F;clear F;by_cases c4:z=true
 ·subst c4;rw[ai rfl]at H;replace H:=ay H;obtain⟨D,I,H⟩:=H
  (try dsimp only at H)
  have G:=A_ I;clear I;by_cases c6:D=true
  ·subst c6;rw[ai rfl]at H;obtain rfl:=aA H;go_enter Tryz.func119,Tryz.ntmps119
   go_wp2_with (first|((with_reducible refine bp (f:=111) rfl ?_);refine gL (some 6) Tryz.func111 #[.int .i64 a0] ?_;(with_reducible refine(cL.c a0 true _ u.out).mono ?_);rintro e w' ⟨rfl,⟨nd,rfl⟩⟩;refine⟨_,rfl,?_⟩)|(go_at_call 72;(with_reducible refine(cA.c a1 (-10) 40 true _ G.out).mono ?_);rintro e w' ⟨rfl,⟨nd,rfl⟩⟩))
   go_ret;exact⟨eS,by repeat(first|exact bf.refl _|apply bf.step)⟩
  ·replace c6:=Bool.eq_false_iff.mpr c6;subst c6;rw[aj (show¬(false=true)by decide)]at H;obtain rfl:=aA H;go_enter Tryz.func119,Tryz.ntmps119
   go_wp2_with (first|((with_reducible refine bp (f:=111) rfl ?_);refine gL (some 6) Tryz.func111 #[.int .i64 a0] ?_;(with_reducible refine(cL.c a0 true _ u.out).mono ?_);rintro e w' ⟨rfl,⟨nd,rfl⟩⟩;refine⟨_,rfl,?_⟩)|(go_at_call 72;(with_reducible refine(cA.c a1 (-10) 40 false _ G.out).mono ?_);rintro e w' ⟨rfl,⟨nd,rfl⟩⟩))
   go_ret;exact⟨eS,by repeat(first|exact bf.refl _|apply bf.step)⟩
 ·replace c4:=Bool.eq_false_iff.mpr c4;subst c4;rw[aj (show¬(false=true)by decide)]at H;obtain rfl:=aA H;go_enter Tryz.func119,Tryz.ntmps119
  go_wp2_with (first|((with_reducible refine bp (f:=111) rfl ?_);refine gL (some 6) Tryz.func111 #[.int .i64 a0] ?_;(with_reducible refine(cL.c a0 false _ u.out).mono ?_);rintro e w' ⟨rfl,⟨nd,rfl⟩⟩;refine⟨_,rfl,?_⟩))
  go_ret;exact⟨eS,by repeat(first|exact bf.refl _|apply bf.step)⟩
def jP.f (a0:Bool):Option (Int):=if a0=true then(some 1)else(some 0)
theorem jP.c (a0:Bool) (r:Int) (w:World) (h:jP.f a0=some r):
  Calls Tryz.prog 81 #[.bool a0] w fun e w'=>e= .returned (.int .i64 r)∧bf w w':=by
 have H:(if a0=true then(some 1)else(some 0))=some r:=h;clear h;by_cases c2:a0=true
 ·subst c2;rw[ai rfl]at H;obtain rfl:=aA H;go_enter Tryz.func81,Tryz.ntmps81;go_wp2;go_ret;exact⟨eS,by repeat(first|exact bf.refl _|apply bf.step)⟩
 ·replace c2:=Bool.eq_false_iff.mpr c2;subst c2;rw[aj (show¬(false=true)by decide)]at H;obtain rfl:=aA H;go_enter Tryz.func81,Tryz.ntmps81;go_wp2;go_ret;exact⟨eS,by repeat(first|exact bf.refl _|apply bf.step)⟩
def fR.l0:Nat→List ByteArray→List ByteArray→Int→Option (Bool)
 |0,_,_,_=>none
 |k+1,x0,x1,u=>if u<(x0.length:Int)then(if 0≤u then(if u<(x1.length:Int)then(if(fT ByteArray.empty x0 u).toList=(fT ByteArray.empty x1 u).toList then(fR.l0 k x0 x1 (wrap64 (u+1)))else(some false))else(none))else(none))else(some true)
def fR.f (k:Nat) (l0:List ByteArray) (l1:List ByteArray):Option (Bool):=if(l0.length:Int)=(l1.length:Int)then(fR.l0 k l0 l1 0)else(some false)
theorem fR.c (k:Nat) (A0:Option Addr) (c0:Nat) (l0:List ByteArray) (A1:Option Addr) (c1:Nat) (l1:List ByteArray) (r:Bool) (w:World) (ag:Kd.C Kd.string w A0 l0.length l0) (hc0:l0.length≤c0) (hr1:Kd.C Kd.string w A1 l1.length l1) (hc1:l1.length≤c1) (h:fR.f k l0 l1=some r):
  Calls Tryz.prog 11 #[.slice A0 l0.length c0,.slice A1 l1.length c1] w fun e w'=>e= .returned (.bool r)∧bf w w':=by
 have U:=A_ ag;have av:=A_ hc0;clear ag hc0;have V:=A_ hr1;have aB:=A_ hc1;clear hr1 hc1;have H:(if(l0.length:Int)=(l1.length:Int)then(fR.l0 k l0 l1 0)else(some false))=some r:=h;clear h;by_cases c3:(l0.length:Int)=(l1.length:Int)
 ·rw[ai c3]at H;have X:((l0.length:Int)==(l1.length:Int))=true:=beq_iff_eq.mpr c3;have ad:((l0.length:Int) != (l1.length:Int))=false:=bne_eq_false_iff_eq.mpr c3;have af:(l0.length==l1.length)=true:=by first|simpa using c3|(simp at c3 ⊢;omega)
  clear c3;have H':=A_ H;clear H;go_enter Tryz.func11,Tryz.ntmps11;go_wp2
  repeat(go_quiet (fail);try go_wp2)
  go_loopg [5] k (fun ak v5 w'=>∃(u:Int),v5= .int .i64 u∧ae (fR.l0 ak l0 l1 u=some r)∧ae (ak≤k)∧bf w w')
  case atStart=>exact⟨(0),eS,H',⟨Nat.le_refl _⟩,by repeat(first|exact bf.refl _|apply bf.step)⟩
  case round=>
   clear H'
   try clear c1
   try clear p2
   try clear c3
   try clear X
   try clear ad
   try clear af
   obtain⟨u,rfl,I,O,⟨m1,rfl⟩⟩:=hrel;cases gk with
   |zero=>exact absurd I.out (by simp[fR.l0])
   |succ k1=>
    have H:=I.out;clear I;simp only[fR.l0]at H;by_cases c4:u<(l0.length:Int)
    ·rw[ai c4]at H;have ao:decide (u<(l0.length:Int))=true:=ah c4;clear c4;by_cases c5:0≤u
     ·rw[ai c5]at H;have aC:decide (0≤u)=true:=ah c5;clear c5;by_cases c6:u<(l1.length:Int)
      ·rw[ai c6]at H;have aD:decide (u<(l1.length:Int))=true:=ah c6;clear c6;by_cases c7:(fT ByteArray.empty l0 u).toList=(fT ByteArray.empty l1 u).toList
       ·rw[ai c7]at H;have ap:((fT ByteArray.empty l0 u).toList==(fT ByteArray.empty l1 u).toList)=true:=beq_iff_eq.mpr c7;have aq:((fT ByteArray.empty l0 u).toList != (fT ByteArray.empty l1 u).toList)=false:=bne_eq_false_iff_eq.mpr c7;clear c7;have H':=A_ H;clear H;have z:0≤(u:Int):=oD;have F:u<(l0.length:Int):=oD;obtain⟨al,J,ar⟩:=Kd.pd U.out u z F;cases J;replace z:=aw z;replace F:=aw F;have D:0≤(u:Int):=oD;have G:u<(l1.length:Int):=oD;obtain⟨am,K,au⟩:=Kd.pd V.out u D G;cases K;replace D:=aw D;replace G:=aw G;go_wp2
        repeat(go_quiet (fail);try go_wp2)
        go_roundg k1
        case measure=>have:=O.out;omega
        case rel=>exact⟨(wrap64 (u+1)),eS,H',⟨by have:=O.out;omega⟩,by repeat(first|exact bf.refl _|apply bf.step)⟩
       ·rw[aj c7]at H;have ap:((fT ByteArray.empty l0 u).toList==(fT ByteArray.empty l1 u).toList)=false:=beq_eq_false_iff_ne.mpr c7;have aq:((fT ByteArray.empty l0 u).toList != (fT ByteArray.empty l1 u).toList)=true:=bne_iff_ne.mpr c7;obtain rfl:=aA H;have z:0≤(u:Int):=oD;have F:u<(l0.length:Int):=oD;obtain⟨al,J,ar⟩:=Kd.pd U.out u z F;cases J;replace z:=aw z;replace F:=aw F;have D:0≤(u:Int):=oD;have G:u<(l1.length:Int):=oD;obtain⟨am,K,au⟩:=Kd.pd V.out u D G;cases K;replace D:=aw D;replace G:=aw G;go_wp2
        repeat(go_quiet (fail);try go_wp2)
        go_ret;exact⟨eS,by repeat(first|exact bf.refl _|apply bf.step)⟩
      ·rw[aj c6]at H;exact absurd H (by simp)
     ·rw[aj c5]at H;exact absurd H (by simp)
    ·rw[aj c4]at H;have ao:decide (u<(l0.length:Int))=false:=ax c4;clear c4;obtain rfl:=aA H;go_wp2
     repeat(go_quiet (fail);try go_wp2)
     go_ret;exact⟨eS,by repeat(first|exact bf.refl _|apply bf.step)⟩
 ·rw[aj c3]at H;have X:((l0.length:Int)==(l1.length:Int))=false:=beq_eq_false_iff_ne.mpr c3;have ad:((l0.length:Int) != (l1.length:Int))=true:=bne_iff_ne.mpr c3;have af:(l0.length==l1.length)=false:=by first|simpa using c3|(simp at c3 ⊢;omega)
  obtain rfl:=aA H;go_enter Tryz.func11,Tryz.ntmps11;go_wp2
  repeat(go_quiet (fail);try go_wp2)
  go_ret;exact⟨eS,by repeat(first|exact bf.refl _|apply bf.step)⟩
def lg.f (a0:Int):Option (Int):=if a0<10 then(some ((wrap64 (48+a0))%256))else(some ((wrap64 ((wrap64 (97+a0))-10))%256))
theorem lg.c (a0:Int) (r:Int) (w:World) (h:lg.f a0=some r):
  Calls Tryz.prog 83 #[.int .i64 a0] w fun e w'=>e= .returned (.int .u8 r)∧bf w w':=by
 have H:(if a0<10 then(some ((wrap64 (48+a0))%256))else(some ((wrap64 ((wrap64 (97+a0))-10))%256)))=some r:=h;clear h;by_cases c2:a0<10
 ·rw[ai c2]at H;have u:decide (a0<10)=true:=ah c2;clear c2;obtain rfl:=aA H;go_enter Tryz.func83,Tryz.ntmps83;go_wp2;go_ret;exact⟨eS,by repeat(first|exact bf.refl _|apply bf.step)⟩
 ·rw[aj c2]at H;have u:decide (a0<10)=false:=ax c2;clear c2;obtain rfl:=aA H;go_enter Tryz.func83,Tryz.ntmps83;go_wp2;go_ret;exact⟨eS,by repeat(first|exact bf.refl _|apply bf.step)⟩
def dE.l0:Nat→Int→Bool→ByteArray→Option (ByteArray)
 |0,_,_,_=>none
 |k+1,x0,x3,u=>if x0=0 then(if x3=true then(if 1+u.size≤9223372036854775807 then(some ((⟨#[45]⟩:ByteArray)++u))else(none))else(some u))else(if(Int.tmod x0 10)<0 then((lg.f (wrap64 (-(Int.tmod x0 10)))).bind fun F=>((some (([F]:List Int):List Int)).bind fun z=>(if(strOfNums z).size+u.size≤9223372036854775807 then(dE.l0 k (wrap64 (Int.tdiv x0 10)) x3 ((strOfNums z)++u))else(none))))else((lg.f (Int.tmod x0 10)).bind fun G=>((some (([G]:List Int):List Int)).bind fun D=>(if(strOfNums D).size+u.size≤9223372036854775807 then(dE.l0 k (wrap64 (Int.tdiv x0 10)) x3 ((strOfNums D)++u))else(none)))))
def dE.f (k:Nat) (a0:Int):Option (ByteArray):=if a0=0 then(some (⟨#[48]⟩:ByteArray))else(dE.l0 k a0 (decide (a0<0)) (⟨#[]⟩:ByteArray))
theorem dE.c (k:Nat) (a0:Int) (r:ByteArray) (w:World) (h:dE.f k a0=some r):
  Calls Tryz.prog 35 #[.int .i64 a0] w fun e w'=>e= .returned (.string r)∧Below w.heap.size w w':=by
 have D:=A_ (Below.refl w.heap.size w);have H:(if a0=0 then(some (⟨#[48]⟩:ByteArray))else(dE.l0 k a0 (decide (a0<0)) (⟨#[]⟩:ByteArray)))=some r:=h;clear h;by_cases c2:a0=0
 ·rw[ai c2]at H;have aB:(a0==0)=true:=beq_iff_eq.mpr c2;have aD:(a0 != 0)=false:=bne_eq_false_iff_eq.mpr c2;clear c2;obtain rfl:=aA H;go_enter Tryz.func35,Tryz.ntmps35;go_wp2;go_ret;exact⟨eR,oB D⟩
 ·rw[aj c2]at H;have aB:(a0==0)=false:=beq_eq_false_iff_ne.mpr c2;have aD:(a0 != 0)=true:=bne_iff_ne.mpr c2;obtain⟨O,aE⟩:∃b,decide (a0<0)=b:=⟨_,rfl⟩;rw[aE]at H;have H':=A_ H;clear H;go_enter Tryz.func35,Tryz.ntmps35;go_wp2
  go_loopg [0,4] k (fun aF v0 v4 w'=>∃(u:Int) (z:ByteArray),v0= .int .i64 u∧v4= .string z∧ae (dE.l0 aF u O z=some r)∧ae (aF≤k)∧ae (Below w.heap.size w w'))
  case atStart=>exact⟨(a0),((⟨#[]⟩:ByteArray)),eS,eS,H',⟨Nat.le_refl _⟩,⟨oB D⟩⟩
  case round=>
   clear H'
   try clear aE
   try clear c2
   try clear aB
   try clear aD
   try clear p2
   obtain⟨u,z,rfl,rfl,al,ak,D⟩:=hrel;cases gk with
   |zero=>exact absurd al.out (by simp[dE.l0])
   |succ k1=>
    have H:=al.out;clear al;simp only[dE.l0]at H;by_cases c3:u=0
    ·rw[ai c3]at H;have aL:(u==0)=true:=beq_iff_eq.mpr c3;have aM:(u != 0)=false:=bne_eq_false_iff_eq.mpr c3;clear c3;by_cases c4:O=true
     ·rw[ai c4]at H;subst c4;by_cases c5:1+z.size≤9223372036854775807
      ·rw[ai c5]at H;have aR:=aw c5;have aS:decide (1+z.size≤9223372036854775807)=true:=ah c5
       try have aT:(9223372036854775807<1+z.size)=False:=il (Nat.not_lt.2 c5)
       obtain rfl:=aA H;go_wp2;go_ret;exact⟨eR,oB D⟩
      ·rw[aj c5]at H;exact absurd H (by simp)
     ·rw[aj c4]at H;obtain rfl:O=false:=(by simpa using c4);obtain rfl:=aA H;go_wp2;go_ret;exact⟨eR,oB D⟩
    ·rw[aj c3]at H;have aL:(u==0)=false:=beq_eq_false_iff_ne.mpr c3;have aM:(u != 0)=true:=bne_iff_ne.mpr c3;by_cases c6:(Int.tmod u 10)<0
     ·rw[ai c6]at H;have aN:decide ((Int.tmod u 10)<0)=true:=ah c6;clear c6;replace H:=ay H;obtain⟨G,ar,H⟩:=H
      (try dsimp only at H)
      have aH:=A_ ar;clear ar;obtain⟨J,X⟩:∃ap:List Int,ap=(([G]:List Int)):=⟨_,rfl⟩;replace H:(if(strOfNums J).size+z.size≤9223372036854775807 then(dE.l0 k1 (wrap64 (Int.tdiv u 10)) O ((strOfNums J)++z))else(none))=some r:=by first|(rw[X];with_reducible exact H)|(have F:=(az _ _).symm.trans H;rw[X];with_reducible exact F)|(have F:=(az _ _).symm.trans H;with_reducible exact F)|with_reducible exact H|(rw[X];exact H)|exact H
      have au:=A_ X;clear X;by_cases c8:(strOfNums J).size+z.size≤9223372036854775807
      ·rw[ai c8]at H;have aU:=aw c8;have aW:decide ((strOfNums J).size+z.size≤9223372036854775807)=true:=ah c8
       try have aY:(9223372036854775807<(strOfNums J).size+z.size)=False:=il (Nat.not_lt.2 c8)
       have H':=A_ H;clear H
       go_wp2_with (first|((with_reducible refine bp (f:=83) rfl ?_);refine gL (some 19) Tryz.func83 #[.int .i64 (wrap64 (-(Int.tmod u 10)))] ?_;(with_reducible refine(lg.c (wrap64 (-(Int.tmod u 10))) G _ aH.out).mono ?_);rintro e w' ⟨rfl,⟨nd,rfl⟩⟩;refine⟨_,rfl,?_⟩)|((with_reducible refine aC (N:=20) rfl ?_);refine Kd.dR (Kd.int .u8) _ 5 ?hg (N:=20) ?hd (xs:=([G]:List Int)) (inner:=[.int .u8 G]) (ok:=fun _=>True) (bD:=fun _=>True) ?hr ?hp (fun _ hk=>hk) trivial (Below.refl _ _) (Nat.le_refl _) (by simp) ?_;(case hd=>rfl);(case hg=>rfl);(case hr=>first|(go_simp;done)|(go_simp;rfl));(case hp=>exact(aI.one (show Kd.M (Kd.int .u8) _ _ _ G [.int .u8 G]from rfl) (aI.none _ _)));intro a3 a6 U hb am ao;clear am ao;(first|rw[←au.out]at U|(simp only[Int.reduceToNat]at U;rw[←au.out]at U));have af:=A_ (Kd.cD U (aZ (oB D)));have ag:=A_ (aV (oB D) hb);clear D;have aJ:=af;have D:=ag;clear af ag hb U;have a1:=uw (P:=Tryz.prog) Tryz.underlying22 Tryz.underlying5 Tryz.underlying9 (Kd.ox aJ.out)))
       go_roundg k1
       case measure=>have:=ak.out;omega
       case rel=>exact⟨(wrap64 (Int.tdiv u 10)),((strOfNums J)++z),eS,eS,H',⟨by have:=ak.out;omega⟩,⟨oB D⟩⟩
      ·rw[aj c8]at H;exact absurd H (by simp)
     ·rw[aj c6]at H;have aN:decide ((Int.tmod u 10)<0)=false:=ax c6;clear c6;replace H:=ay H;obtain⟨I,aq,H⟩:=H
      (try dsimp only at H)
      have aG:=A_ aq;clear aq;obtain⟨K,ad⟩:∃ap:List Int,ap=(([I]:List Int)):=⟨_,rfl⟩;replace H:(if(strOfNums K).size+z.size≤9223372036854775807 then(dE.l0 k1 (wrap64 (Int.tdiv u 10)) O ((strOfNums K)++z))else(none))=some r:=by first|(rw[ad];with_reducible exact H)|(have F:=(az _ _).symm.trans H;rw[ad];with_reducible exact F)|(have F:=(az _ _).symm.trans H;with_reducible exact F)|with_reducible exact H|(rw[ad];exact H)|exact H
      have av:=A_ ad;clear ad;by_cases c13:(strOfNums K).size+z.size≤9223372036854775807
      ·rw[ai c13]at H;have aO:=aw c13;have aP:decide ((strOfNums K).size+z.size≤9223372036854775807)=true:=ah c13
       try have aQ:(9223372036854775807<(strOfNums K).size+z.size)=False:=il (Nat.not_lt.2 c13)
       have H':=A_ H;clear H
       go_wp2_with (first|((with_reducible refine bp (f:=83) rfl ?_);refine gL (some 19) Tryz.func83 #[.int .i64 (Int.tmod u 10)] ?_;(with_reducible refine(lg.c (Int.tmod u 10) I _ aG.out).mono ?_);rintro e w' ⟨rfl,⟨nd,rfl⟩⟩;refine⟨_,rfl,?_⟩)|((with_reducible refine aC (N:=20) rfl ?_);refine Kd.dR (Kd.int .u8) _ 5 ?hg (N:=20) ?hd (xs:=([I]:List Int)) (inner:=[.int .u8 I]) (ok:=fun _=>True) (bD:=fun _=>True) ?hr ?hp (fun _ hk=>hk) trivial (Below.refl _ _) (Nat.le_refl _) (by simp) ?_;(case hd=>rfl);(case hg=>rfl);(case hr=>first|(go_simp;done)|(go_simp;rfl));(case hp=>exact(aI.one (show Kd.M (Kd.int .u8) _ _ _ I [.int .u8 I]from rfl) (aI.none _ _)));intro a4 a5 V hb am ao;clear am ao;(first|rw[←av.out]at V|(simp only[Int.reduceToNat]at V;rw[←av.out]at V));have af:=A_ (Kd.cD V (aZ (oB D)));have ag:=A_ (aV (oB D) hb);clear D;have aK:=af;have D:=ag;clear af ag hb V;have a2:=uw (P:=Tryz.prog) Tryz.underlying22 Tryz.underlying5 Tryz.underlying9 (Kd.ox aK.out)))
       go_roundg k1
       case measure=>have:=ak.out;omega
       case rel=>exact⟨(wrap64 (Int.tdiv u 10)),((strOfNums K)++z),eS,eS,H',⟨by have:=ak.out;omega⟩,⟨oB D⟩⟩
      ·rw[aj c13]at H;exact absurd H (by simp)
def fq.l0:Nat→List Int→ByteArray→Int→Option (ByteArray)
 |0,_,_,_=>none
 |k+1,x0,x3,u=>if u<(x0.length:Int)then(if u>0 then(if x3.size+1≤9223372036854775807 then(if 0≤u then((dE.f k (rd x0 u)).bind fun z=>(if(x3++(⟨#[32]⟩:ByteArray)).size+z.size≤9223372036854775807 then(fq.l0 k x0 ((x3++(⟨#[32]⟩:ByteArray))++z) (wrap64 (u+1)))else(none)))else(none))else(none))else(if 0≤u then((dE.f k (rd x0 u)).bind fun D=>(if x3.size+D.size≤9223372036854775807 then(fq.l0 k x0 (x3++D) (wrap64 (u+1)))else(none)))else(none)))else(some x3)
def fq.f (k:Nat) (l0:List Int):Option (ByteArray):=fq.l0 k l0 (⟨#[]⟩:ByteArray) 0
theorem fq.c (k:Nat) (A0:Option Addr) (c0:Nat) (l0:List Int) (r:ByteArray) (w:World) (ak:Kd.C (Kd.int .i64) w A0 l0.length l0) (hc0:l0.length≤c0) (h:fq.f k l0=some r):
  Calls Tryz.prog 34 #[.slice A0 l0.length c0] w fun e w'=>e= .returned (.string r)∧Below w.heap.size w w':=by
 have ag:=A_ ak;have aC:=A_ hc0;clear ak hc0;have D:=A_ (Below.refl w.heap.size w);have H:(fq.l0 k l0 (⟨#[]⟩:ByteArray) 0)=some r:=h;clear h;have H':=A_ H;clear H;go_enter Tryz.func34,Tryz.ntmps34;go_wp2
 go_loopg [3,4] k (fun ao v3 v4 w'=>∃(z:ByteArray) (u:Int),v3= .string z∧v4= .int .i64 u∧ae (fq.l0 ao l0 z u=some r)∧ae (ao≤k)∧ae (Below w.heap.size w w'))
 case atStart=>exact⟨((⟨#[]⟩:ByteArray)),(0),eS,eS,H',⟨Nat.le_refl _⟩,⟨oB D⟩⟩
 case round=>
  clear H';obtain⟨z,u,rfl,rfl,K,J,D⟩:=hrel;cases gk with
  |zero=>exact absurd K.out (by simp[fq.l0])
  |succ k1=>
   have H:=K.out;clear K;simp only[fq.l0]at H;by_cases c2:u<(l0.length:Int)
   ·rw[ai c2]at H;have ar:decide (u<(l0.length:Int))=true:=ah c2;clear c2;by_cases c3:u>0
    ·rw[ai c3]at H;have au:decide (0<u)=true:=ah c3;clear c3;by_cases c4:z.size+1≤9223372036854775807
     ·rw[ai c4]at H;have aI:=aw c4;have aJ:decide (z.size+1≤9223372036854775807)=true:=ah c4
      try have aK:(9223372036854775807<z.size+1)=False:=il (Nat.not_lt.2 c4)
      by_cases c5:0≤u
      ·rw[ai c5]at H;have aL:decide (0≤u)=true:=ah c5;clear c5;replace H:=ay H;obtain⟨F,af,H⟩:=H
       (try dsimp only at H)
       have aq:=A_ af;clear af;by_cases c7:(z++(⟨#[32]⟩:ByteArray)).size+F.size≤9223372036854775807
       ·rw[ai c7]at H;have aM:=aw c7;have aN:decide ((z++(⟨#[32]⟩:ByteArray)).size+F.size≤9223372036854775807)=true:=ah c7
        try have aO:(9223372036854775807<(z++(⟨#[32]⟩:ByteArray)).size+F.size)=False:=il (Nat.not_lt.2 c7)
        have aP:(9223372036854775807<z.size+1+F.size)=False:=(by have:=c7;rw[ByteArray.size_append]at this;exact il (Nat.not_lt.2 this));have aQ:(z.size+1+F.size≤9223372036854775807)=True:=(by have:=c7;rw[ByteArray.size_append]at this;exact aw this);have H':=A_ H;clear H;have O:0≤(u:Int):=oD;have V:u<(l0.length:Int):=oD;obtain⟨aD,av,al⟩:=Kd.dY ag.out u O V;cases av;replace al:=hW D al;replace O:=aw O;replace V:=aw V
        go_wp2_with (first|((with_reducible refine bp (f:=35) rfl ?_);refine gL (some 20) Tryz.func35 #[.int .i64 (rd l0 u)] ?_;(with_reducible refine(dE.c k1 (rd l0 u) F _ aq.out).mono ?_);rintro e aT ⟨rfl,hb⟩;refine⟨_,rfl,?_⟩;have G:=A_ (aV (oB D) hb);clear D;have D:=G;clear G;(try clear hb);(try clear hb2);(try clear hk);(try clear hi)))
        go_roundg k1
        case measure=>have:=J.out;omega
        case rel=>exact⟨((z++(⟨#[32]⟩:ByteArray))++F),(wrap64 (u+1)),eS,eS,H',⟨by have:=J.out;omega⟩,⟨oB D⟩⟩
       ·rw[aj c7]at H;exact absurd H (by simp)
      ·rw[aj c5]at H;exact absurd H (by simp)
     ·rw[aj c4]at H;exact absurd H (by simp)
    ·rw[aj c3]at H;have au:decide (0<u)=false:=ax c3;clear c3;by_cases c9:0≤u
     ·rw[ai c9]at H;have aR:decide (0≤u)=true:=ah c9;clear c9;replace H:=ay H;obtain⟨I,ad,H⟩:=H
      (try dsimp only at H)
      have ap:=A_ ad;clear ad;by_cases c11:z.size+I.size≤9223372036854775807
      ·rw[ai c11]at H;have aF:=aw c11;have aG:decide (z.size+I.size≤9223372036854775807)=true:=ah c11
       try have aH:(9223372036854775807<z.size+I.size)=False:=il (Nat.not_lt.2 c11)
       have H':=A_ H;clear H;have U:0≤(u:Int):=oD;have X:u<(l0.length:Int):=oD;obtain⟨aE,aB,am⟩:=Kd.dY ag.out u U X;cases aB;replace am:=hW D am;replace U:=aw U;replace X:=aw X
       go_wp2_with (first|((with_reducible refine bp (f:=35) rfl ?_);refine gL (some 20) Tryz.func35 #[.int .i64 (rd l0 u)] ?_;(with_reducible refine(dE.c k1 (rd l0 u) I _ ap.out).mono ?_);rintro e aS ⟨rfl,hb⟩;refine⟨_,rfl,?_⟩;have G:=A_ (aV (oB D) hb);clear D;have D:=G;clear G;(try clear hb);(try clear hb2);(try clear hk);(try clear hi)))
       go_roundg k1
       case measure=>have:=J.out;omega
       case rel=>exact⟨(z++I),(wrap64 (u+1)),eS,eS,H',⟨by have:=J.out;omega⟩,⟨oB D⟩⟩
      ·rw[aj c11]at H;exact absurd H (by simp)
     ·rw[aj c9]at H;exact absurd H (by simp)
   ·rw[aj c2]at H;have ar:decide (u<(l0.length:Int))=false:=ax c2;clear c2;obtain rfl:=aA H;go_wp2;go_ret;exact⟨eR,oB D⟩
def fQ.l0:Nat→List Int→List Int→Int→Option (Bool)
 |0,_,_,_=>none
 |k+1,x0,x1,u=>if u<(x0.length:Int)then(if 0≤u then(if u<(x1.length:Int)then(if(rd x0 u)=(rd x1 u)then(fQ.l0 k x0 x1 (wrap64 (u+1)))else(some false))else(none))else(none))else(some true)
def fQ.f (k:Nat) (l0:List Int) (l1:List Int):Option (Bool):=if(l0.length:Int)=(l1.length:Int)then(fQ.l0 k l0 l1 0)else(some false)
theorem fQ.c (k:Nat) (A0:Option Addr) (c0:Nat) (l0:List Int) (A1:Option Addr) (c1:Nat) (l1:List Int) (r:Bool) (w:World) (ag:Kd.C (Kd.int .i64) w A0 l0.length l0) (hc0:l0.length≤c0) (hr1:Kd.C (Kd.int .i64) w A1 l1.length l1) (hc1:l1.length≤c1) (h:fQ.f k l0 l1=some r):
  Calls Tryz.prog 14 #[.slice A0 l0.length c0,.slice A1 l1.length c1] w fun e w'=>e= .returned (.bool r)∧bf w w':=by
 have U:=A_ ag;have av:=A_ hc0;clear ag hc0;have V:=A_ hr1;have aB:=A_ hc1;clear hr1 hc1;have H:(if(l0.length:Int)=(l1.length:Int)then(fQ.l0 k l0 l1 0)else(some false))=some r:=h;clear h;by_cases c3:(l0.length:Int)=(l1.length:Int)
 ·rw[ai c3]at H;have X:((l0.length:Int)==(l1.length:Int))=true:=beq_iff_eq.mpr c3;have ad:((l0.length:Int) != (l1.length:Int))=false:=bne_eq_false_iff_eq.mpr c3;have af:(l0.length==l1.length)=true:=by first|simpa using c3|(simp at c3 ⊢;omega)
  clear c3;have H':=A_ H;clear H;go_enter Tryz.func14,Tryz.ntmps14;go_wp2
  repeat(go_quiet (fail);try go_wp2)
  go_loopg [5] k (fun ak v5 w'=>∃(u:Int),v5= .int .i64 u∧ae (fQ.l0 ak l0 l1 u=some r)∧ae (ak≤k)∧bf w w')
  case atStart=>exact⟨(0),eS,H',⟨Nat.le_refl _⟩,by repeat(first|exact bf.refl _|apply bf.step)⟩
  case round=>
   clear H'
   try clear c1
   try clear p2
   try clear c3
   try clear X
   try clear ad
   try clear af
   obtain⟨u,rfl,I,O,⟨m1,rfl⟩⟩:=hrel;cases gk with
   |zero=>exact absurd I.out (by simp[fQ.l0])
   |succ k1=>
    have H:=I.out;clear I;simp only[fQ.l0]at H;by_cases c4:u<(l0.length:Int)
    ·rw[ai c4]at H;have ao:decide (u<(l0.length:Int))=true:=ah c4;clear c4;by_cases c5:0≤u
     ·rw[ai c5]at H;have aC:decide (0≤u)=true:=ah c5;clear c5;by_cases c6:u<(l1.length:Int)
      ·rw[ai c6]at H;have aD:decide (u<(l1.length:Int))=true:=ah c6;clear c6;by_cases c7:(rd l0 u)=(rd l1 u)
       ·rw[ai c7]at H;have ap:((rd l0 u)==(rd l1 u))=true:=beq_iff_eq.mpr c7;have aq:((rd l0 u) != (rd l1 u))=false:=bne_eq_false_iff_eq.mpr c7;clear c7;have H':=A_ H;clear H;have z:0≤(u:Int):=oD;have F:u<(l0.length:Int):=oD;obtain⟨al,J,ar⟩:=Kd.dY U.out u z F;cases J;replace z:=aw z;replace F:=aw F;have D:0≤(u:Int):=oD;have G:u<(l1.length:Int):=oD;obtain⟨am,K,au⟩:=Kd.dY V.out u D G;cases K;replace D:=aw D;replace G:=aw G;go_wp2
        repeat(go_quiet (fail);try go_wp2)
        go_roundg k1
        case measure=>have:=O.out;omega
        case rel=>exact⟨(wrap64 (u+1)),eS,H',⟨by have:=O.out;omega⟩,by repeat(first|exact bf.refl _|apply bf.step)⟩
       ·rw[aj c7]at H;have ap:((rd l0 u)==(rd l1 u))=false:=beq_eq_false_iff_ne.mpr c7;have aq:((rd l0 u) != (rd l1 u))=true:=bne_iff_ne.mpr c7;obtain rfl:=aA H;have z:0≤(u:Int):=oD;have F:u<(l0.length:Int):=oD;obtain⟨al,J,ar⟩:=Kd.dY U.out u z F;cases J;replace z:=aw z;replace F:=aw F;have D:0≤(u:Int):=oD;have G:u<(l1.length:Int):=oD;obtain⟨am,K,au⟩:=Kd.dY V.out u D G;cases K;replace D:=aw D;replace G:=aw G;go_wp2
        repeat(go_quiet (fail);try go_wp2)
        go_ret;exact⟨eS,by repeat(first|exact bf.refl _|apply bf.step)⟩
      ·rw[aj c6]at H;exact absurd H (by simp)
     ·rw[aj c5]at H;exact absurd H (by simp)
    ·rw[aj c4]at H;have ao:decide (u<(l0.length:Int))=false:=ax c4;clear c4;obtain rfl:=aA H;go_wp2
     repeat(go_quiet (fail);try go_wp2)
     go_ret;exact⟨eS,by repeat(first|exact bf.refl _|apply bf.step)⟩
 ·rw[aj c3]at H;have X:((l0.length:Int)==(l1.length:Int))=false:=beq_eq_false_iff_ne.mpr c3;have ad:((l0.length:Int) != (l1.length:Int))=true:=bne_iff_ne.mpr c3;have af:(l0.length==l1.length)=false:=by first|simpa using c3|(simp at c3 ⊢;omega)
  obtain rfl:=aA H;go_enter Tryz.func14,Tryz.ntmps14;go_wp2
  repeat(go_quiet (fail);try go_wp2)
  go_ret;exact⟨eS,by repeat(first|exact bf.refl _|apply bf.step)⟩
end P
namespace Q
open Go.RowKit P WW.bc WW.bZ
theorem mo (l:List S64) (i:Nat) (h:i<l.length):aq l (i:Int)=l[i]:=by
  unfold aq;simp[List.getD_eq_getElem?_getD,h]
theorem ki (l:List ag) (i:Nat) (h:i<l.length):ar l (i:Int)=l[i]:=by
  unfold ar;simp[List.getD_eq_getElem?_getD,h]
theorem n4 (l:List S64) (hl:l.length≤4000000):im.f l=some l:=by
  unfold im.f;simp only[az];rw[ai (by simp;omega)];simp
theorem oo (l:List S64) (hl:l.length≤4000000):iz.f l=some l:=by
  unfold iz.f;simp only[az];rw[ai (by simp;omega)];simp
theorem xF (x y:Int):Go.bits .and .i64 x y=wrap64 (((BitVec.ofInt IntKind.i64.bits x&&& BitVec.ofInt IntKind.i64.bits y).toNat:Nat):Int):=by
  unfold Go.bits;rw[IntWalk.i64_left]
theorem pn (x:Int):0≤Go.bits .and .i64 x 255∧Go.bits .and .i64 x 255≤255:=by
  have h2:(BitVec.ofInt IntKind.i64.bits 255).toNat≤255:=by decide
  rw[xF];obtain⟨y,hy⟩:∃y,BitVec.ofInt IntKind.i64.bits 255=y:=⟨_,rfl⟩;rw[hy]at h2 ⊢
  have h:(BitVec.ofInt IntKind.i64.bits x&&& y).toNat≤255:=by
    rw[BitVec.toNat_and];exact Nat.le_trans Nat.and_le_right h2
  rw[bU (by omega) (by omega)];omega
section
variable (b:List Int) (hb:b.length≤1048576)
include hb
theorem nW (i h:Int) (hi:0≤i):∃v i' h',fM.f b i h=some (v,i',h')∧0≤v∧v≤255∧0≤i':=by
  unfold fM.f;by_cases h1:i<(b.length:Int)
  · rw[ai h1,ai hi];exact⟨_,_,_,rfl,(pn _).1,(pn _).2,by rw[bU (by omega) (by omega)];omega⟩
  · rw[aj h1];exact⟨_,_,_,rfl,(pn _).1,(pn _).2,hi⟩
theorem e6 (i h n:Int) (hi:0≤i):∃v i' h',ct.f b i h n=some (v,i',h')∧0≤v∧(0<n→v<n)∧(n≤0→v=0)∧0≤i':=by
  unfold ct.f;by_cases h1:n≤0
  · rw[ai h1];exact⟨_,_,_,rfl,by omega,by omega,fun _=>rfl,hi⟩
  rw[aj h1];have key:∀v:Int,0≤v→0≤Int.tmod v n∧(0<n→Int.tmod v n<n):=fun v hv=>⟨Int.tmod_nonneg n hv,fun h2=>by rw[Int.tmod_eq_emod_of_nonneg hv];exact Int.emod_lt_of_pos v h2⟩;by_cases h2:n≤256
  · rw[ai h2];obtain⟨v,i1,G,e,v0,v1,i0⟩:=nW b hb i h hi;rw[e,az,aj (by omega)];exact⟨_,_,_,rfl,(key v v0).1,(key v v0).2,by omega,i0⟩
  rw[aj h2];obtain⟨x,i1,g1,e1,x0,x1,j1⟩:=nW b hb i h hi;obtain⟨y,i2,g2,e2,y0,y1,j2⟩:=nW b hb i1 g1 j1;obtain⟨z,i3,g3,e3,z0,H,D⟩:=nW b hb i2 g2 j2;obtain⟨u,i4,g4,e4,u0,u1,F⟩:=nW b hb i3 g3 D;rw[e1,az];dsimp only;rw[e2,az];dsimp only;rw[e3,az];dsimp only;rw[e4,az,aj (by omega)];dsimp only;rw[bU (n:=x*16777216) (by omega) (by omega),bU (n:=y*65536) (by omega) (by omega),bU (n:=z*256) (by omega) (by omega),bU (n:=x*16777216+y*65536) (by omega) (by omega),bU (n:=x*16777216+y*65536+z*256) (by omega) (by omega),bU (by omega) (by omega)];exact⟨_,_,_,rfl,(key _ (by omega)).1,(key _ (by omega)).2,by omega,F⟩
omit hb in
theorem uo:∃h,Ev (fun k=>fG.f k b) (b,0,h):=by
  have key:∀i,i≤b.length→∀x:Int,∃h,Ev (fun k=>fG.l0 k b x (i:Int)) (b,0,h):=by
    refine down (n:=b.length) ?_ ?_
    · intro x;exact⟨x,Ev.step (fun k=>by rw[fG.l0]) (aH (by omega) (Ev.now _))⟩
    · intro i hi ih x;by_cases h4:(i:Int)<4000
      · obtain⟨h,he⟩:=ih (Go.bits .and .i64 (wrap64 ((wrap64 ((wrap64 (x*131))+(wrap64 (rd b (i:Int)))))+7)) 1073741823);refine⟨h,Ev.step (fun k=>by rw[fG.l0]) (ak (by omega) (ak h4 (ak (by omega) ?_)))⟩;rw[bU (n:=(i:Int)+1) (by omega) (by omega)];exact he
      · exact⟨x,Ev.step (fun k=>by rw[fG.l0]) (ak (by omega) (aH h4 (Ev.now _)))⟩
  unfold fG.f;exact key 0 (Nat.zero_le _) _
end
section
variable (b:List Int) (hb:b.length≤1048576)
include hb
theorem uq (i h n:Int) (hi:0≤i):∃v i' h',kz.f b i h n=some (v,i',h')∧0≤i':=by
  unfold kz.f;obtain⟨v,i1,h1,e,_,_,_,j⟩:=e6 b hb i h n hi;rw[e,az];exact⟨_,_,_,rfl,j⟩
theorem uz (i h:Int) (l:List Int) (hi:0≤i) (hl:0<l.length):∃v i' h',lh.f b i h l=some (v,i',h')∧v∈l∧0≤i':=by
  unfold lh.f;obtain⟨v,i1,h1,e,v0,v1,_,j⟩:=e6 b hb i h (l.length:Int) hi;rw[e,az,ai v0,ai (v1 (by omega))];obtain⟨m,rfl⟩:=Int.eq_ofNat_of_zero_le v0;have hm:m<l.length:=by have:=v1 (by omega);omega
  exact⟨_,_,_,rfl,by dsimp only;rw[oC l m hm];exact List.getElem_mem hm,j⟩
end
theorem uR (l:List cd) (i:Nat) (h:i<l.length):iw l (i:Int)=l[i]:=by
  unfold iw;simp[List.getD_eq_getElem?_getD,h]
theorem Bf (l:List Int) (hl:l.length≤9000000000000000000):Ev (fun k=>fQ.f k l l) true:=by
  have key:∀i,i≤l.length→Ev (fun k=>fQ.l0 k l l (i:Int)) true:=by
    refine down (n:=l.length) ?_ ?_
    · exact Ev.step (fun k=>by rw[fQ.l0]) (aH (by omega) (evs rfl))
    · intro i hi ih;refine Ev.step (fun k=>by rw[fQ.l0]) (ak (by omega) (ak (by omega) (ak (by omega) (ak rfl ?_))));rw[bU (by omega) (by omega)];exact ih
  unfold fQ.f;exact ak rfl (key 0 (Nat.zero_le _))
theorem Am (b:List Int) (hb:b.length≤1048576):∃l,Ev (fun k=>fV.f k b) l∧l.length=12∧∀x∈l,0≤x∧x<10000:=by
  obtain⟨h0,e0⟩:=uo b
  have key:∀n:Nat,n≤12→∀(acc:List Int) (i h:Int),0≤i→acc.length=12-n→(∀x∈acc,0≤x∧x<10000)→
      ∃l,Ev (fun k=>fV.l0 k acc ((12-n:Nat):Int) b i h) l∧l.length=12∧∀x∈l,0≤x∧x<10000:=by
    intro n
    induction n with
    |zero=>
     intro _ acc i h hi hl hx;exact⟨acc,Ev.step (fun k=>by rw[fV.l0]) (aH (by omega) (Ev.now _)),by omega,hx⟩
    |succ n ih=>
     intro hn acc i h hi hl hx;obtain⟨v,i1,h1,e1,v0,v1,_,j1⟩:=e6 b hb i h 10000 hi;have v2:=v1 (by omega)
     obtain⟨l,ev,l1,l2⟩:=ih (by omega) (acc++[v]) i1 h1 j1 (by simp;omega) (by
       intro x hx2;rcases List.mem_append.1 hx2 with h3|h3
       · exact hx x h3
       · simp at h3;omega)
     refine⟨l,Ev.step (fun k=>by rw[fV.l0]) (ak (by omega) (aQ e1 (ak (show acc.length<17592186044416 by omega) ?_))),l1,l2⟩;rw[show wrap64 (((12-(n+1):Nat):Int)+1)=((12-n:Nat):Int)from by rw[bU (by omega) (by omega)];omega];exact ev
  obtain⟨l,ev,l1,l2⟩:=key 12 (Nat.le_refl _) [] 0 h0 (by omega) rfl (by simp);refine⟨l,?_,l1,l2⟩;unfold fV.f;exact Ev.bind e0 ev
end Q
namespace P
open Go.RowKit WW.bc WW.bY WW.bZ
attribute [local go_sem] cP cT cS cW cR cV cQ cU
theorem ye (d:Nat) (w:World) (x0 y0:Int) (x1 y1:Int) (x2 u:Int) (x3 z:Int):
  (Op.equalIn (d+2) 57 (.agg #[.int .i64 x0,.int .i64 x1,.int .i64 x2,.int .i64 x3]) (.agg #[.int .i64 y0,.int .i64 y1,.int .i64 u,.int .i64 z])).run Tryz.prog w= .ok (x0==y0&&(x1==y1&&(x2==u&&(x3==z)))) w:=by
 refine tr Tryz.underlying57 (by kernel_rfl) ?_;refine pC (by rfl) (by go_simp;rfl) (by go_simp;rfl) (by go_simp) ?_;refine pC (by rfl) (by go_simp;rfl) (by go_simp;rfl) (by go_simp) ?_;refine pC (by rfl) (by go_simp;rfl) (by go_simp;rfl) (by go_simp) ?_;exact tu (by rfl) (by go_simp;rfl) (by go_simp;rfl) (by go_simp)
theorem yf (d:Nat) (w:World) (x0 y0:Int) (x1 y1:Int):
  (Op.equalIn (d+2) 62 (.agg #[.int .i64 x0,.int .i64 x1]) (.agg #[.int .i64 y0,.int .i64 y1])).run Tryz.prog w= .ok (x0==y0&&(x1==y1)) w:=by
 refine tr Tryz.underlying62 (by kernel_rfl) ?_;refine pC (by rfl) (by go_simp;rfl) (by go_simp;rfl) (by go_simp) ?_;exact tu (by rfl) (by go_simp;rfl) (by go_simp;rfl) (by go_simp)
end P
namespace Q
open Go.RowKit P WW.bc
theorem iQ (a b c:Int):cx.f a b c=some (decide (b≤a∧a≤c)):=by
  unfold cx.f;by_cases h:b≤a<;>simp[h]
theorem gI (a b c:Int):cA.f a b c=some (decide (b≤a∧a≤c)):=by
  unfold cA.f;by_cases h:a≥b
  · rw[ai h];simp[show b≤a from h]
  · rw[aj h];simp[show¬b≤a from h]
def tF (x:Int):Prop:=(Lit.int .u8 x).wf=true
theorem zK {w:World}:gw Tryz.prog w (Kd.int .u8) 5 tF:=(gw.int Tryz.underlying5)
end Q
namespace Q
open Go.RowKit P WW.bc WW.bZ
def fine (n:Int):Bool:=decide (1≤n∧n≤10000000)
theorem kZ (n:Int):cL.f n=some (fine n):=by unfold cL.f;rw[gI];rfl
theorem mg (n:Int):dn.f n=some (fine n):=by unfold dn.f;rw[iQ];rfl
def gJ (n:Int):Int:=if fine n=true then n else 0
def ft (a k b:Int):Int:=
  if fine a=true then
    if 0≤b∧b≤100000 then
      if k=1 then gJ (wrap64 (Int.tdiv (mx (wrap64 ((wrap64 (3*a))-b)) 0) 2))
      else if k=2 then gJ (wrap64 (Int.tdiv (mx (wrap64 ((wrap64 (3*a))-b)) 0) 4))
      else if k=3 then if b=0 then gJ (wrap64 (2*a))else 0
      else if k=4 then if b=0 then gJ (wrap64 (Int.tdiv a 2))else 0
      else 0
    else 0
  else 0
theorem uh (a b:Int):mx a b=mx b a:=by unfold mx;split<;>split<;>omega
theorem kO {n:Int} {x:Option Bool} (h:x=some (fine n)):Ev (fun _=>x.bind fun t=>if t=true then some n else some 0) (gJ n):=by
  subst h;simp only[az];unfold gJ;by_cases h:fine n=true
  · rw[ai h,ai h];exact Ev.now _
  · rw[aj h,aj h];exact Ev.now _
theorem Ch (a k b:Int):Ev (fun n=>eC.f n a k b) (ft a k b):=by
  have u:Ev (fun n=>eC.j0 n a k b true) 0:=Ev.step (fun n=>by rw[eC.j0]) (ak rfl (Ev.now _));unfold eC.f;refine aQ (mg a) ?_;unfold ft;by_cases ha:fine a=true;rotate_left
  · exact bq ha<|aH ha u
  refine bE ha<|ak ha (aQ (iQ _ _ _) ?_);by_cases hb:0≤b∧b≤100000;rotate_left
  · exact bq hb<|aH (by simpa using hb) u
  refine bE hb<|ak (by simpa using hb) ?_
  have z:(k=3∨k=4→b=0)→Ev (fun n=>eC.j0 n a k b false) (if k=1 then gJ (wrap64 (Int.tdiv (mx (wrap64 ((wrap64 (3*a))-b)) 0) 2))
      else if k=2 then gJ (wrap64 (Int.tdiv (mx (wrap64 ((wrap64 (3*a))-b)) 0) 4))
      else if k=3 then if b=0 then gJ (wrap64 (2*a))else 0
      else if k=4 then if b=0 then gJ (wrap64 (Int.tdiv a 2))else 0
      else 0):=by
    intro h0;refine Ev.step (fun n=>by rw[eC.j0]) (aH (by decide) ?_);by_cases h1:k=1
    · exact bE h1<|ak h1 (kO (mg _))
    refine bq h1<|aH h1 ?_;by_cases h2:k=2
    · exact bE h2<|ak h2 (kO (mg _))
    refine bq h2<|aH h2 ?_;by_cases h3:k=3
    · exact bE h3<|bE (h0 (.inl h3))<|ak h3 (kO (mg _))
    refine bq h3<|aH h3 ?_;by_cases h4:k=4
    · exact bE h4<|bE (h0 (.inr h4))<|ak h4 (kO (mg _))
    refine bq h4<|aH h4 ?_;refine aQ (mg _) (aH (by decide) (Ev.now _))
  by_cases b0:b=0
  · exact ak b0 (z fun _=>b0)
  refine aH b0 ?_;by_cases h3:k=3
  · refine ak h3 ?_;exact bq (by omega)<|bq (by omega)<|bE h3<|bq b0 u
  refine aH h3 ?_;by_cases h4:k=4
  · rw[show(k==4)=true by simp[h4]];exact bq (by omega)<|bq (by omega)<|bq (by omega)<|bE h4<|bq b0 u
  · rw[show(k==4)=false by simp[h4]];exact z (by omega)
theorem ql (a k b:Int):Ev (fun n=>cy.f n a k b) (ft a k b):=by
  have D:Ev (fun n=>cy.j0 n a k b true) 0:=Ev.step (fun n=>by rw[cy.j0]) (ak rfl (Ev.now _));unfold cy.f;refine aQ (kZ a) ?_;unfold ft;by_cases ha:fine a=true;rotate_left
  · exact bq ha<|aH ha D
  refine bE ha<|ak ha (aQ (gI _ _ _) ?_);by_cases hb:0≤b∧b≤100000;rotate_left
  · rw[show(!decide (0≤b∧b≤100000))=true by rw[ax hb];rfl];exact bq hb D
  rw[show(!decide (0≤b∧b≤100000))=false by rw[ah hb];rfl];refine bE hb ?_;have F:Ev (fun n=>cy.j2 n a 0 true) (gJ (wrap64 (Int.tdiv a 2))):=Ev.step (fun n=>by rw[cy.j2]) (ak rfl (kO (kZ _)));have z:Ev (fun n=>cy.j2 n a 0 false) 0:=Ev.step (fun n=>by rw[cy.j2]) (aH (by decide) (kO (kZ 0)));refine Ev.step (fun n=>by rw[cy.j0]) (aH (by decide) ?_);by_cases h1:k=1
  · rw[uh 0];exact bE h1<|ak h1 (kO (kZ _))
  refine bq h1<|aH h1 ?_;by_cases h2:k=2
  · rw[uh 0];exact bE h2<|ak h2 (kO (kZ _))
  refine bq h2<|aH h2 ?_
  have u:Ev (fun n=>cy.j1 n a k b 0 false) (if k=4 then if b=0 then gJ (wrap64 (Int.tdiv a 2))else 0 else 0):=by
    refine Ev.step (fun n=>by rw[cy.j1]) (aH (by decide) ?_);by_cases h4:k=4
    · refine bE h4<|ak h4 ?_;by_cases b0:b=0
      · rw[show(b==0)=true by simp[b0]];exact bE b0 F
      · rw[show(b==0)=false by simp[b0]];exact bq b0 z
    · exact bq h4<|aH h4 z
  by_cases h3:k=3
  · refine bE h3<|ak h3 ?_;by_cases b0:b=0
    · rw[show(b==0)=true by simp[b0]];exact bE b0<|Ev.step (fun n=>by rw[cy.j1]) (ak rfl (kO (kZ _)))
    · rw[show(b==0)=false by simp[b0]];rw[aj (by omega)]at u;exact bq b0 u
  exact bq h3<|aH h3 u
def jD (i:Nat):Int:=if i=0∨i=2∨i=4∨i=7∨i=9 then 1 else 2
def iP (b:Int):List ag:=if 0≤b∧b≤5000 then(List.range 11).map (fun(i:Nat)=>⟨(i:Int),(i:Int)+1,jD i,b⟩)else[]
theorem Ck:∀i:Nat,i<11→rd [1,2,1,2,1,2,2,1,2,1,2] (i:Int)=jD i:=by decide
theorem vP (b:Int):Ev (fun k=>eW.f k b) (iP b):=by
  unfold eW.f iP;by_cases hb:0≤b∧b≤5000;rotate_left
  · refine bq hb (Ev.step (fun k=>by rw[eW.l0]) (ak (by decide) (aQ (gI _ _ _) (aH (pg hb) (Ev.now _)))))
  refine bE hb ?_
  have key:∀i:Nat,i≤11→Ev (fun k=>eW.l0 k b ((List.range i).map (fun(i:Nat)=>(⟨(i:Int),(i:Int)+1,jD i,b⟩:ag))) (i:Int)) ((List.range 11).map (fun(i:Nat)=>⟨(i:Int),(i:Int)+1,jD i,b⟩)):=by
    refine down (n:=11) ?_ ?_
    · exact Ev.step (fun k=>by rw[eW.l0]) (aH (by decide) (Ev.now _))
    · intro i hi ih;refine Ev.step (fun k=>by rw[eW.l0]) ?_;refine ak (by omega) (aQ (gI _ _ _) ?_);refine ak (pq hb) (aQ rfl ?_);refine ak (by omega) ?_;refine ak (by simp;omega) ?_;refine ak (by simp;omega) ?_;rw[Ck i hi,bU (n:=(i:Int)+1) (by omega) (by omega)];rw[List.range_succ,List.map_append]at ih;exact ih
  exact key 0 (by omega)
def ri (i:Nat) (x:ag):Prop:=x.f0=i∧x.f1=(i:Int)+1∧(x.f2=2∨x.f2=jD i)∧0≤x.f3∧x.f3<1500
def eJ (p:List ag):Prop:=p.length≤11∧∀i (h:i<p.length),ri i p[i]
theorem tE (b:Int) (h:0≤b∧b<1500):eJ (iP b)∧(iP b).length=11:=by
  unfold iP;rw[ai (by omega)];refine⟨⟨by simp,fun i hi=> ?_⟩,by simp⟩;simp only[List.getElem_map,List.getElem_range];exact⟨rfl,rfl,.inr rfl,h.1,h.2⟩
theorem yw {p:List ag} (h:eJ p) (n:Nat):eJ (p.take n):=by
  refine⟨by have:=h.1;simp;omega,fun i hi=> ?_⟩;rw[List.getElem_take];exact h.2 i _
end Q
namespace Q
open Go.RowKit P
def lZ (e:S64):Bool:=decide (0≤e.f0.f0∧e.f0.f0≤3)&&(decide (0≤e.f0.f1∧e.f0.f1≤39)&&(decide (0≤e.f1∧e.f1≤2)&&decide (0≤e.f2∧e.f2≤100000)))
def fg:Int→List S64→Bool
  |_,[]=>true
  |p,e::r=>lZ e&&(decide (p≤e.f2)&&fg e.f2 r)
def cO (l:List S64):Bool:=fg 0 l&&decide (l.length≤30)
def eE (l:List S64) (i:Nat):Int:=if i=0 then 0 else(l.getD (i-1) z64).f2
theorem Au (l:List S64) (i:Nat) (h:i<l.length):eE l (i+1)=l[i].f2:=by simp[eE,List.getD_eq_getElem?_getD,h]
theorem uK (l:List S64) (i:Nat) (h0:0<i) (h:i<l.length):eE l i=l[i-1].f2:=by
  simp[eE,List.getD_eq_getElem?_getD,show i≠0 by omega,show i-1<l.length by omega]
theorem tX (l:List S64) (i:Nat) (h:i<l.length):fg (eE l i) (l.drop i)=(lZ l[i]&&(decide (eE l i≤l[i].f2)&&fg (eE l (i+1)) (l.drop (i+1)))):=by
  rw[List.drop_eq_getElem_cons h,Au l i h];rfl
end Q
namespace P
open Go.RowKit WW.bc
def iN (x:ag) (t:List Bool):Bool:=
  (decide (x.f2=1)||decide (x.f2=2))&&(decide (0≤x.f3∧x.f3≤5000)&&(decide (0≤x.f0∧x.f0≤11)&&(decide (0≤x.f1∧x.f1≤11)&&(decide (x.f1=(x.f0+1)%12)&&(t.getD x.f0.toNat false&& !t.getD x.f1.toNat false)))))
def iv:List ag→List Bool→Bool
  |[],_=>true
  |x::r,t=>iN x t&&iv r (t.set x.f1.toNat true)
def gu:List Bool:=true::List.replicate 11 false
def eL (l:List ag):Bool:=decide (l.length≤11)&&iv l gu
def fN (l:List ag) (t:List Bool):List Bool:=l.foldl (fun t x=>t.set x.f1.toNat true) t
def gg:List Bool→List Int→Bool
  |b::t,p::q=>(if b then decide (1≤p∧p≤10000000)else decide (p=0))&&gg t q
  |_,_=>true
def cp (p:List ag) (d:Int) (q:List Int):Bool:=
  eL p&&(decide (0≤d∧d≤p.length)&&(decide (q.length=12)&&gg (fN (p.take d.toNat) gu) q))
theorem uH:∀(l:List ag) (t:List Bool),iv l t=true→∀x∈l,0≤x.f1∧x.f1≤11
  |[],_,_,x,hx=>by simp at hx
  |y::r,t,h,x,hx=>by
   simp only[iv,Bool.and_eq_true]at h;rcases List.mem_cons.1 hx with rfl|hx
   · have h1:=h.1;simp[iN]at h1;exact h1.2.2.2.1
   · exact uH r _ h.2 x hx
theorem qj (l:List ag):∀t:List Bool,(fN l t).length=t.length:=by
  induction l with
  |nil=>intro t;rfl
  |cons x r ih=>intro t;show(fN r _).length=_;rw[ih,List.length_set]
theorem vH (l:List ag) (x:ag) (t:List Bool):fN (l++[x]) t=(fN l t).set x.f1.toNat true:=by simp[fN,List.foldl_append]
end P
namespace P
set_option maxHeartbeats 8000000
set_option maxRecDepth 100000
open Go.RowKit WW.bc WW.bY WW.bZ
attribute [local go_sem] cP cT cS cW cR cV cQ cU
def pH.f (l0:List (ag)):Option (Bool):=some (eL l0)
theorem pH.c (A0:Option Addr) (c0:Nat) (l0:List (ag)) (r:Bool) (w:World) (O:Kd.C aN w A0 l0.length l0) (hc0:l0.length≤c0) (h:pH.f l0=some r):
    Calls Tryz.prog 97 #[.slice A0 l0.length c0] w fun e w'=>e= .returned (.bool r)∧Below w.heap.size w w':=by
  have H:=aA h;clear h;by_cases h11:l0.length≤11;rotate_left
  · have hb:decide (11<(l0.length:Int))=true:=ah (by omega);have hb2:decide (11<l0.length)=true:=ah (by omega);obtain rfl:false=r:=(by rw[←H];simp[eL,h11]);go_enter Tryz.func97,Tryz.ntmps97;go_wp2;go_ret;exact⟨rfl,Below.refl _ _⟩
  · have hb:decide (11<(l0.length:Int))=false:=ax (by omega);have hb2:decide (11<l0.length)=false:=ax (by omega);go_enter Tryz.func97,Tryz.ntmps97;go_wp2
    go_loopg [12] (l0.length+1) (fun U v12 w'=>∃(i:Nat) (tn:List Bool),v12= .int .i64 (i:Int)∧ae (i+U=l0.length+1)∧ae (i≤l0.length)∧ae (tn.length=12)∧ae (w'.heap[w.heap.size]? =some (.cells (tn.map Value.bool).toArray 118 (0,0)))∧ae (iv (l0.drop i) tn=r)∧ae (Below w.heap.size w w'))
    case atStart=>
      exact⟨0,gu,rfl,⟨by omega⟩,⟨by omega⟩,⟨rfl⟩,⟨by rw[heap_alloc_new];rfl⟩,⟨by rw[←H];simp[eL,h11]⟩,⟨bM (Below.refl _ _) _⟩⟩
    case round=>
      obtain⟨i,tn,rfl,HK,af,J,F,z,u⟩:=hrel;by_cases hlt:i<l0.length;rotate_left
      · have hb3:decide ((i:Int)<(l0.length:Int))=false:=ax (by omega);have hb4:decide (i<l0.length)=false:=ax (by omega)
        obtain rfl:true=r:=by
          have h1:=z.out;rw[List.drop_eq_nil_of_le (by omega)]at h1;exact h1
        go_wp2;go_ret;exact⟨rfl,u.out⟩
      · have hb3:decide ((i:Int)<(l0.length:Int))=true:=ah (by omega);have hb4:decide (i<l0.length)=true:=ah (by omega);obtain⟨ad,e,hx0,hx1,hx2,hx3⟩:=eN O (i:Int) (by omega) (by omega);cases e;replace hx0:=hW u hx0;replace hx1:=hW u hx1;replace hx2:=hW u hx2;replace hx3:=hW u hx3;obtain⟨x,hx⟩:∃x,ar l0 (i:Int)=x:=⟨_,rfl⟩;rw[hx]at hx0 hx1 hx2 hx3;simp only[Int.toNat_natCast]at hx0 hx1 hx2 hx3
        have hd:iv (l0.drop i) tn=(iN x tn&&iv (l0.drop (i+1)) (tn.set x.f1.toNat true)):=by
          rw[List.drop_eq_getElem_cons hlt];have e0:l0[i]=x:=(by rw[←hx];simp[ar,List.getD_eq_getElem?_getD,hlt]);rw[e0];rfl
        have ak:=A_ hx;clear hx;have HD:=A_ hd;clear hd
        have win:∀(a b c:Int) (d:Bool) (W:World),decide (b≤a∧a≤c)=d→Calls Tryz.prog 58 #[.int .i64 a,.int .i64 b,.int .i64 c] W fun e w'=>e= .returned (.bool d)∧bf W w':=fun a b c d W hd=>
          cx.c a b c d W (by rw[←hd];unfold cx.f;by_cases hh:b≤a<;>simp[hh])
        have tc:∀k,k<12→∀o:Obj,(wr.alloc o).cell? ⟨w.heap.size,k,none⟩=some (.bool (tn.getD k false)):=fun k hk o=>(di (bl F.out o) k).trans (by have:=J.out;simp[List.getD_eq_getElem?_getD,show k<tn.length by omega]);by_cases q1:0≤x.f3∧x.f3≤5000;rotate_left
        · have W1:=A_ fun W=>win x.f3 0 5000 false W (ax q1);have D:=A_ q1;clear q1 win tc
          go_wp2_with (first|(go_at_call 58;(with_reducible refine(W1.out _).mono ?_);rintro e w' ⟨rfl,⟨nd,rfl⟩⟩))
          all_goals
            obtain rfl:false=r:=by
              rw[←z.out,HD.out];simp[iN,D.out]
            go_ret;exact⟨rfl,by repeat(first|exact u.out|apply bM|apply dp|apply cv)⟩
        have W1:=A_ fun W=>win x.f3 0 5000 true W (ah q1);by_cases q2:0≤x.f0∧x.f0≤11;rotate_left
        · have W2:=A_ fun W=>win x.f0 0 11 false W (ax q2);have D:=A_ q2;clear q1 q2 win tc
          go_wp2_with (first|(go_at_call 58;(with_reducible refine(W1.out _).mono ?_);rintro e w' ⟨rfl,⟨nd,rfl⟩⟩)|(go_at_call 58;(with_reducible refine(W2.out _).mono ?_);rintro e w' ⟨rfl,⟨nd,rfl⟩⟩))
          all_goals
            obtain rfl:false=r:=by
              rw[←z.out,HD.out];simp[iN,D.out]
            go_ret;exact⟨rfl,by repeat(first|exact u.out|apply bM|apply dp|apply cv)⟩
        have W2:=A_ fun W=>win x.f0 0 11 true W (ah q2);by_cases q3:0≤x.f1∧x.f1≤11;rotate_left
        · have W3:=A_ fun W=>win x.f1 0 11 false W (ax q3);have D:=A_ q3;clear q1 q2 q3 win tc
          go_wp2_with (first|(go_at_call 58;(with_reducible refine(W1.out _).mono ?_);rintro e w' ⟨rfl,⟨nd,rfl⟩⟩)|(go_at_call 58;(with_reducible refine(W2.out _).mono ?_);rintro e w' ⟨rfl,⟨nd,rfl⟩⟩)|(go_at_call 58;(with_reducible refine(W3.out _).mono ?_);rintro e w' ⟨rfl,⟨nd,rfl⟩⟩))
          all_goals
            obtain rfl:false=r:=by
              rw[←z.out,HD.out];simp[iN,D.out]
            go_ret;exact⟨rfl,by repeat(first|exact u.out|apply bM|apply dp|apply cv)⟩
        have W3:=A_ fun W=>win x.f1 0 11 true W (ah q3);clear win;obtain⟨al,am⟩:=q2;obtain⟨ao,ap⟩:=q3;have K:=A_ q1;clear q1;have hc0:=tc x.f0.toNat (by omega);have hc1:=tc x.f1.toNat (by omega);have hfz:=fun o:Obj=>aD (bl F.out o) x.f1.toNat;clear tc;by_cases q4:x.f1=(x.f0+1)%12;rotate_left
        · have V:(x.f1==(x.f0+1)%12)=false:=beq_eq_false_iff_ne.mpr q4;have X:(x.f1 != (x.f0+1)%12)=true:=bne_iff_ne.mpr q4;have G:=A_ q4;clear q4 hc0 hc1 hfz
          go_wp2_with (first|(go_at_call 58;(with_reducible refine(W1.out _).mono ?_);rintro e w' ⟨rfl,⟨nd,rfl⟩⟩)|(go_at_call 58;(with_reducible refine(W2.out _).mono ?_);rintro e w' ⟨rfl,⟨nd,rfl⟩⟩)|(go_at_call 58;(with_reducible refine(W3.out _).mono ?_);rintro e w' ⟨rfl,⟨nd,rfl⟩⟩))
          all_goals
            obtain rfl:false=r:=by
              rw[←z.out,HD.out];simp[iN,G.out]
            go_ret;exact⟨rfl,by repeat(first|exact u.out|apply bM|apply dp|apply cv)⟩
        have V:(x.f1==(x.f0+1)%12)=true:=beq_iff_eq.mpr q4;have X:(x.f1 != (x.f0+1)%12)=false:=bne_eq_false_iff_eq.mpr q4;have G:=A_ q4;clear q4;obtain⟨b0,hb0⟩:∃b,tn.getD x.f0.toNat false=b:=⟨_,rfl⟩;obtain⟨b1,hb1⟩:∃b,tn.getD x.f1.toNat false=b:=⟨_,rfl⟩;rw[hb0]at hc0;rw[hb1]at hc1;have I:=A_ hb0;have B1:=A_ hb1;clear hb0 hb1
        go_wp2_with (first|(go_at_call 58;(with_reducible refine(W1.out _).mono ?_);rintro e w' ⟨rfl,⟨nd,rfl⟩⟩)|(go_at_call 58;(with_reducible refine(W2.out _).mono ?_);rintro e w' ⟨rfl,⟨nd,rfl⟩⟩)|(go_at_call 58;(with_reducible refine(W3.out _).mono ?_);rintro e w' ⟨rfl,⟨nd,rfl⟩⟩))
        all_goals first
          |(go_ret
            have e:false=r:=by
              have h3:=I.out;have h4:=B1.out;rw[←z.out,HD.out];unfold iN;rw[h3,h4];simp[*]
            subst e;exact⟨rfl,by repeat(first|exact u.out|apply bM|apply dp|apply cv)⟩)
          |(go_roundg (gk-1)
            case measure=>have:=HK.out;omega
            case rel=>
              refine⟨i+1,tn.set x.f1.toNat true,by go_num,⟨by have:=HK.out;omega⟩,⟨by omega⟩,⟨by rw[List.length_set];exact J.out⟩,⟨?_⟩,⟨?_⟩,⟨?_⟩⟩
              · refine cE (cs:=(tn.map Value.bool).toArray) ?_ x.f1.toNat (.bool true) ?_
                · repeat(first|exact F.out|refine bt ?_ _|refine bn ?_|refine bl ?_ _)
                · simp[List.map_set]
              · rw[←z.out,HD.out]
                have e:iN x tn=true:=by
                  have h1:=G.out;have h2:=K.out;have h3:=I.out;have h4:=B1.out;unfold iN;rw[h3,h4];simp[*];omega
                rw[e,Bool.true_and]
              · refine dZ ?_ (Nat.le_refl _)
                repeat(first|exact u.out|apply bM|apply dp|apply cv))
def fJ.f (z:List (ag)) (u:Int) (D:List Int):Option (Bool):=some (cp z u D)
theorem fJ.c (ak:Option Addr) (X:Nat) (D:List (ag)) (V:Int) (am:Option Addr) (ap:Nat) (F:List Int) (r:Bool) (w:World) (aB:Kd.C aN w ak D.length D) (aY:D.length≤X) (aO:Kd.C (Kd.int .i64) w am F.length F) (a4:F.length≤ap) (h:fJ.f D V F=some r):
  Calls Tryz.prog 55 #[.agg #[.slice ak D.length X,.int .i64 V,.slice am F.length ap]] w fun e w'=>e= .returned (.bool r)∧Below w.heap.size w w':=by
 have HH:=A_ (aA h);clear h
 have win:∀(a b c:Int) (d:Bool) (W:World),decide (b≤a∧a≤c)=d→Calls Tryz.prog 58 #[.int .i64 a,.int .i64 b,.int .i64 c] W fun e w'=>e= .returned (.bool d)∧bf W w':=fun a b c d W hd=>
  cx.c a b c d W (by rw[←hd];unfold cx.f;by_cases hh:b≤a<;>simp[hh])
 have hpl:∀(b:Bool) (o:Obj),eL D=b→Calls Tryz.prog 97 #[.slice ak D.length X] (w.alloc o) fun e w'=>e= .returned (.bool b)∧Below (w.alloc o).heap.size (w.alloc o) w':=fun b o hb=>
  pH.c ak X D b (w.alloc o) (Kd.lv aB o) aY (by unfold pH.f;rw[hb])
 have av:∀(w1:World) (o:Obj),Below (w.alloc o).heap.size (w.alloc o) w1→w1.heap[w.heap.size]? =some o∧Below w.heap.size w w1∧w.heap.size+1≤w1.heap.size:=fun w1 o hb=>
  ⟨iU (f_ w o) hb,aV (bM (Below.refl _ _) o) hb,by have:=hb.size;simpa using this⟩
 by_cases p1:eL D=true;rotate_left
 ·have P1:=A_ fun o=>hpl false o (Bool.eq_false_iff.2 p1);obtain rfl:false=r:=by rw[←HH.out];simp[cp,p1]
  clear hpl win p1;go_enter Tryz.func55,Tryz.ntmps55
  go_wp2_with (first|(go_at_call 97;(with_reducible refine(P1.out _).mono ?_);rintro e w1 ⟨rfl,hb⟩;obtain⟨u,H,I⟩:=av w1 _ hb;have z:=A_ H;clear hb u H I))
  go_ret;exact⟨rfl,by repeat(first|exact z.out|apply bM|apply dp|apply cv)⟩
 have P1:=A_ fun o=>hpl true o p1;by_cases p2:0≤V∧V≤(D.length:Int);rotate_left
 ·have W1:=A_ fun W=>win V 0 D.length false W (ax p2);obtain rfl:false=r:=by rw[←HH.out];simp[cp,p2]
  clear hpl win p1 p2;go_enter Tryz.func55,Tryz.ntmps55
  go_wp2_with (first|(go_at_call 97;(with_reducible refine(P1.out _).mono ?_);rintro e w1 ⟨rfl,hb⟩;obtain⟨u,H,I⟩:=av w1 _ hb;have z:=A_ H;have J:=di u 0;have K:=di u 1;have aq:=di u 2;clear hb u H I)|(go_at_call 58;(with_reducible refine(W1.out _).mono ?_);rintro e w' ⟨rfl,⟨nd,rfl⟩⟩))
  go_ret;exact⟨rfl,by repeat(first|exact z.out|apply bM|apply dp|apply cv)⟩
 have W1:=A_ fun W=>win V 0 D.length true W (ah p2);by_cases p3:F.length=12;rotate_left
 ·have a0:((F.length:Int) != 12)=true:=bne_iff_ne.mpr (by omega);have a1:((F.length:Int)==12)=false:=beq_eq_false_iff_ne.mpr (by omega);obtain rfl:false=r:=by rw[←HH.out];simp[cp,p3]
  have aJ:=A_ p3;clear hpl win p1 p2 p3;go_enter Tryz.func55,Tryz.ntmps55
  go_wp2_with (first|(go_at_call 97;(with_reducible refine(P1.out _).mono ?_);rintro e w1 ⟨rfl,hb⟩;obtain⟨u,H,I⟩:=av w1 _ hb;have z:=A_ H;have G:=A_ u;have HS:=A_ I;have J:=di u 0;have K:=di u 1;clear hb u H I)|(go_at_call 58;(with_reducible refine(W1.out _).mono ?_);rintro e w2 ⟨rfl,hdr⟩;have n1:=A_ (aV z.out hdr.below);have u:=iU G.out hdr.below;have n3:=A_ (Nat.le_trans HS.out hdr.below.size);clear z G HS J K hdr;have z:=n1;have G:=A_ u;have HS:=n3;clear n1 n3;have J:=di u 0;have K:=di u 1;have aq:=di u 2;have aK:=fun o:Obj=>di (bl u o) 0;have aL:=fun o:Obj=>di (bl u o) 1;have aM:=fun o:Obj=>di (bl u o) 2;clear u))
  go_ret;exact⟨rfl,by repeat(first|exact z.out|apply bM|apply dp|apply cv)⟩
 have a0:((F.length:Int) != 12)=false:=bne_eq_false_iff_eq.mpr (by omega);have a1:((F.length:Int)==12)=true:=beq_iff_eq.mpr (by omega);obtain⟨d,rfl⟩:∃d:Nat,V=(d:Int):=⟨V.toNat,by omega⟩;have aZ:d≤D.length:=by omega
 have hd2:d≤X:=by omega
 have hm:D.length≤9223372036854775807:=Kd.nH aB;have HK:=A_ (uH D gu (by have:=p1;simp[eL]at this;exact this.2));have U:ae (gg (fN (D.take d) gu) F=r):=⟨by rw[←HH.out];simp[cp,p1,p3,aZ]⟩;have aJ:=A_ p3;have aR:=A_ aB;have aS:=A_ aO;clear hpl p1 p2 p3 HH aB aO;go_enter Tryz.func55,Tryz.ntmps55
 go_wp2_with (first|(go_at_call 97;(with_reducible refine(P1.out _).mono ?_);rintro e w1 ⟨rfl,hb⟩;obtain⟨u,H,I⟩:=av w1 _ hb;have z:=A_ H;have G:=A_ u;have HS:=A_ I;have J:=di u 0;have K:=di u 1;clear hb u H I)|(go_at_call 58;(with_reducible refine(W1.out _).mono ?_);rintro e w2 ⟨rfl,hdr⟩;have n1:=A_ (aV z.out hdr.below);have u:=iU G.out hdr.below;have n3:=A_ (Nat.le_trans HS.out hdr.below.size);clear z G HS J K hdr;have z:=n1;have G:=A_ u;have HS:=n3;clear n1 n3;have J:=di u 0;have K:=di u 1;have aq:=di u 2;have aK:=fun o:Obj=>di (bl u o) 0;have aL:=fun o:Obj=>di (bl u o) 1;have aM:=fun o:Obj=>di (bl u o) 2;clear u))
 have a2:=A_ (rfl: #[Value.slice ak D.length X,.int .i64 (d:Int),.slice am F.length ap]= #[Value.slice ak D.length X,.int .i64 (d:Int),.slice am F.length ap])
 go_loopg [34] (d+1) (fun aF v34 w'=>∃(i:Nat),v34= .int .i64 (i:Int)∧ae (i+aF=d+1)∧ae (i≤d)∧ae (w'.heap[w2.heap.size]? =some (.cells ((fN (D.take i) gu).map Value.bool).toArray 118 (0,0)))∧ae (w'.heap[w.heap.size]? =some (.cells #[.slice ak D.length X,.int .i64 (d:Int),.slice am F.length ap] 27 (0,0)))∧ae (Below w.heap.size w w'))
 case atStart=>
  exact⟨0,rfl,⟨by omega⟩,⟨by omega⟩,⟨by rw[heap_alloc_new];rfl⟩,⟨bl G.out _⟩,⟨bM z.out _⟩⟩
 case round=>
  clear J K aq aK aL aM z G;obtain⟨i,rfl,aP,aQ,O,G,z⟩:=hrel;have au:(fN (D.take i) gu).length=12:=qj _ _;by_cases hlt:i<d
  ·have hb3:decide ((i:Int)<(d:Int))=true:=ah (by omega);have hb4:decide (i<d)=true:=ah (by omega);obtain⟨ad,e,hx0,hx1,hx2,hx3⟩:=eN aR.out (i:Int) (by omega) (by omega);cases e;replace hx0:=hW z hx0;replace hx1:=hW z hx1;replace hx2:=hW z hx2;replace hx3:=hW z hx3;obtain⟨x,hx⟩:∃x,ar D (i:Int)=x:=⟨_,rfl⟩;rw[hx]at hx0 hx1 hx2 hx3;simp only[Int.toNat_natCast]at hx0 hx1 hx2 hx3;have hil:i<D.length:=(by omega);have e0:D[i]=x:=(by rw[←hx];simp[ar,List.getD_eq_getElem?_getD,hil]);obtain⟨q1,q2⟩:=HK.out x (by rw[←e0];exact List.getElem_mem hil);have ao:ae (fN (D.take (i+1)) gu=(fN (D.take i) gu).set x.f1.toNat true):=⟨by rw[List.take_succ_eq_append_getElem hil,e0,vH]⟩;obtain⟨tn,af⟩:∃tn,fN (D.take i) gu=tn:=⟨_,rfl⟩;have al:=A_ (show wr.heap[w2.heap.size]? =some (.cells (tn.map Value.bool).toArray 118 (0,0))by rw[←af];exact O.out);rw[af]at au ao;have hc1:∀o:Obj,(wr.alloc o).cell? ⟨w2.heap.size,x.f1.toNat,none⟩=some (.bool (tn.getD x.f1.toNat false)):=fun o=>(di (bl al.out o) _).trans (by simp[List.getD_eq_getElem?_getD,show x.f1.toNat<tn.length by omega]);have hfz:=fun o:Obj=>aD (bl al.out o) x.f1.toNat;clear hx e0 af O au;go_wp2
   go_roundg (d-i)
   case measure=>have:=aP.out;omega
   case rel=>
    refine⟨i+1,by go_num,⟨by omega⟩,⟨by omega⟩,⟨?_⟩,⟨?_⟩,⟨?_⟩⟩
    ·rw[ao.out];refine cE (cs:=(tn.map Value.bool).toArray) (bl al.out _) x.f1.toNat (.bool true) ?_;simp[List.map_set]
    ·refine eO ?_ (by have:=HS.out;show w.heap.size≠w2.heap.size;omega) _;exact bl G.out _
    ·refine dZ (bM z.out _) (by have:=HS.out;omega)
  ·have hb3:decide ((i:Int)<(d:Int))=false:=ax (by omega);have hb4:decide (i<d)=false:=ax (by omega);obtain rfl:i=d:=(by have:=aQ.out;omega);obtain⟨tn,af⟩:∃tn,fN (D.take i) gu=tn:=⟨_,rfl⟩;have al:=A_ (show wr.heap[w2.heap.size]? =some (.cells (tn.map Value.bool).toArray 118 (0,0))by rw[←af];exact O.out);have ao:=A_ (show tn.length=12 by rw[←af];exact au);have aI:=A_ (show gg tn F=r by rw[←af];exact U.out);have J:=di G.out 0;have K:=di G.out 1;have aq:=di G.out 2;clear O U af au;go_wp2;have aG:=aJ.out
   go_loopg [45] 13 (fun aF v45 w'=>∃(j:Nat),v45= .int .i64 (j:Int)∧ae (j+aF=13)∧ae (j≤12)∧ae (gg (tn.drop j) (F.drop j)=r)∧ae (w'.heap[w2.heap.size]? =some (.cells (tn.map Value.bool).toArray 118 (0,0)))∧ae (Below w.heap.size w w'))
   case atStart=>exact⟨0,rfl,⟨by omega⟩,⟨by omega⟩,⟨aI.out⟩,⟨al.out⟩,⟨z.out⟩⟩
   case round=>
    clear J K aq z G al aI;obtain⟨j,rfl,aH,a3,U,O,z⟩:=hrel;by_cases hlt2:j<12;rotate_left
    ·have aU:decide ((j:Int)<(F.length:Int))=false:=ax (by omega);have aW:decide (j<F.length)=false:=ax (by omega)
     obtain rfl:true=r:=by
      have h1:=U.out;rw[List.drop_eq_nil_of_le (by have:=ao.out;omega)]at h1;simpa[gg]using h1
     clear aG;go_wp2;go_ret;exact⟨rfl,z.out⟩
    ·have aU:decide ((j:Int)<(F.length:Int))=true:=ah (by omega);have aW:decide (j<F.length)=true:=ah (by omega);have hj:j<F.length:=(by omega);obtain⟨ad,e,hy⟩:=Kd.dY aS.out (j:Int) (by omega) (by omega);cases e;replace hy:=hW z hy;obtain⟨y,aE⟩:∃y,rd F (j:Int)=y:=⟨_,rfl⟩;obtain⟨b,aC⟩:∃b,tn.getD j false=b:=⟨_,rfl⟩;rw[aE]at hy;simp only[Int.toNat_natCast]at hy;have aT:=ao.out;have hct:wr.cell? ⟨w2.heap.size,j,none⟩=some (.bool b):=(di O.out j).trans (by rw[←aC];simp[List.getD_eq_getElem?_getD,show j<tn.length by omega])
     have HD:ae (gg (tn.drop j) (F.drop j)=((if b then decide (1≤y∧y≤10000000)else decide (y=0))&&gg (tn.drop (j+1)) (F.drop (j+1)))):=⟨by
      rw[List.drop_eq_getElem_cons (show j<tn.length by omega),List.drop_eq_getElem_cons (show j<F.length by omega)];have e1:tn[j]=b:=(by rw[←aC];simp[List.getD_eq_getElem?_getD,show j<tn.length by omega]);have e2:F[j]=y:=(by rw[←aE];simp[rd,List.getD_eq_getElem?_getD,show j<F.length by omega]);rw[e1,e2];rfl⟩
     have fine:∀(d:Bool) (W:World),decide (1≤y∧y≤10000000)=d→Calls Tryz.prog 98 #[.int .i64 y] W fun e w'=>e= .returned (.bool d)∧bf W w':=fun d W hd=>
      dn.c y d W (by rw[←hd];unfold dn.f cx.f;by_cases hh:1≤y<;>simp[hh])
     clear aE aC aT aG;cases b with
     |true=>
      by_cases q:1≤y∧y≤10000000
      ·have F1:=A_ fun W=>fine true W (ah q);have Q:=A_ q;clear q fine
       go_wp2_with (first|(go_at_call 98;(with_reducible refine(F1.out _).mono ?_);rintro e w' ⟨rfl,⟨nd,rfl⟩⟩))
       go_roundg (12-j)
       case measure=>have:=aH.out;omega
       case rel=>
        refine⟨j+1,by go_num,⟨by omega⟩,⟨by omega⟩,⟨?_⟩,⟨?_⟩,⟨?_⟩⟩
        ·rw[←U.out,HD.out];simp[Q.out]
        ·repeat(first|exact O.out|refine bt ?_ _|refine bn ?_)
        ·repeat(first|exact z.out|apply bM|apply dp|apply cv)
      ·have F1:=A_ fun W=>fine false W (ax q);have Q:=A_ q;clear q fine;obtain rfl:false=r:=by rw[←U.out,HD.out];simp[Q.out]
       go_wp2_with (first|(go_at_call 98;(with_reducible refine(F1.out _).mono ?_);rintro e w' ⟨rfl,⟨nd,rfl⟩⟩))
       go_ret;exact⟨rfl,by repeat(first|exact z.out|apply bM|apply dp|apply cv)⟩
     |false=>
      by_cases q:y=0
      ·have q1:(y != 0)=false:=bne_eq_false_iff_eq.mpr q;have q2:(y==0)=true:=beq_iff_eq.mpr q;have Q:=A_ q;clear q fine;go_wp2
       go_roundg (12-j)
       case measure=>have:=aH.out;omega
       case rel=>
        refine⟨j+1,by go_num,⟨by omega⟩,⟨by omega⟩,⟨?_⟩,⟨?_⟩,⟨?_⟩⟩
        ·rw[←U.out,HD.out];simp[Q.out]
        ·repeat(first|exact O.out|refine bt ?_ _|refine bn ?_)
        ·repeat(first|exact z.out|apply bM|apply dp|apply cv)
      ·have q1:(y != 0)=true:=bne_iff_ne.mpr q;have q2:(y==0)=false:=beq_eq_false_iff_ne.mpr q;have Q:=A_ q;clear q fine;obtain rfl:false=r:=(by rw[←U.out,HD.out];simp[Q.out]);go_wp2;go_ret;exact⟨rfl,by repeat(first|exact z.out|apply bM|apply dp|apply cv)⟩
def dc.l0:Nat→List Int→List (ag)→Int→Int→List (ag)→Int→List Int→Option (List Int)
 |0,_,_,_,_,_,_,_=>none
 |k+1,x3,z,F,u,G,H,D=>if u<F then(if 0≤u then(if u<(z.length:Int)then(if 0≤((ar z u).f1)then(if((ar z u).f1)<(D.length:Int)then((fD.f k G H D u).bind fun I=>(if(rd D ((ar z u).f1))=I then(dc.l0 k x3 z F (wrap64 (u+1)) G H D)else(if x3.length<17592186044416 then(dc.l0 k (x3++[u]) z F (wrap64 (u+1)) G H D)else(none))))else(none))else(none))else(none))else(none))else(some x3)
def dc.f (k:Nat) (z:List (ag)) (u:Int) (D:List Int):Option (List Int):=(fJ.f z u D).bind fun G=>(if G=true then(if 0≤u then(if u≤(z.length:Int)then((some (z.take (u:Int).toNat:List (ag))).bind fun F=>(dc.l0 k (([]:List Int)) F (F.length:Int) 0 z u D))else(none))else(none))else(some ([]:List Int)))
def dc.T7:Bool×List (List Nat×List Nat):=(true,[([],[]),([0],[0]),([],[]),([2],[2]),([1,3],[1,3]),([4],[4]),([],[]),([],[]),([6,7],[6,7]),([5,8],[5,8])])
def dc.B7:List Nat:=[0,1,0,4,15,31,0,0,192,511]
theorem dc.nC:aW .any (opsOf Tryz.f100 7)=dc.T7:=by kernel_rfl
theorem dc.mW:bL dc.T7.2 dc.B7=true:=by kernel_rfl
theorem dc.c (k:Nat) (aE:Option Addr) (am:Nat) (V:List (ag)) (U:Int) (aG:Option Addr) (ap:Nat) (X:List Int) (r:List Int) (w:World) (bW:Kd.C aN w aE V.length V) (bT:V.length≤am) (bY:Kd.C (Kd.int .i64) w aG X.length X) (bU:X.length≤ap) (h:dc.f k V U X=some r):
  Calls Tryz.prog 100 #[.agg #[.slice aE V.length am,.int .i64 U,.slice aG X.length ap]] w fun e w'=>∃b1:Value,e= .returned (b1)∧Kd.R (Kd.int .i64) 3 w' w.heap.size (fun _=>True) b1 r∧Below w.heap.size w w':=by
 have dl:=Tryz.underlying27;have dk:=Tryz.underlying110;have a5:=A_ bW;have a4:=A_ bT;clear bW bT;have a3:=A_ bY;have bw:=A_ bU;clear bY bU;have F:=A_ (Below.refl w.heap.size w);have H:((fJ.f V U X).bind fun bI=>(if bI=true then(if 0≤U then(if U≤(V.length:Int)then((some (V.take (U:Int).toNat:List (ag))).bind fun z=>(dc.l0 k (([]:List Int)) z (z.length:Int) 0 V U X))else(none))else(none))else(some ([]:List Int))))=some r:=h;clear h;replace H:=ay H;obtain⟨bI,bO,H⟩:=H
 (try dsimp only at H)
 have A2:=A_ bO;clear bO;by_cases c3:bI=true
 ·subst c3;rw[ai rfl]at H;obtain⟨bK,be⟩:∃bv:List Int,bv=(([]:List Int)):=⟨_,rfl⟩;replace H:(if 0≤U then(if U≤(V.length:Int)then((some (V.take (U:Int).toNat:List (ag))).bind fun z=>(dc.l0 k bK z (z.length:Int) 0 V U X))else(none))else(none))=some r:=by first|(rw[be];with_reducible exact H)|(have aq:=(az _ _).symm.trans H;rw[be];with_reducible exact aq)|(have aq:=(az _ _).symm.trans H;with_reducible exact aq)|with_reducible exact H|(rw[be];exact H)|exact H
  have bQ:=A_ be;clear be;by_cases c4:0≤U
  ·rw[ai c4]at H;have cd:=aw c4;have ce:decide (0≤U)=true:=ah c4;clear c4;by_cases c5:U≤(V.length:Int)
   ·rw[ai c5]at H;have cf:=aw c5;have cg:decide (U≤(V.length:Int))=true:=ah c5;clear c5;obtain⟨z,bf⟩:∃bv:List (ag),bv=(V.take (U:Int).toNat):=⟨_,rfl⟩;replace H:(dc.l0 k bK z (z.length:Int) 0 V U X)=some r:=by first|(rw[bf];with_reducible exact H)|(have aq:=(az _ _).symm.trans H;rw[bf];with_reducible exact aq)|(have aq:=(az _ _).symm.trans H;with_reducible exact aq)|with_reducible exact H|(rw[bf];exact H)|exact H
    have bR:=A_ bf;clear bf;have H':=A_ H;clear H;go_enter Tryz.func100,Tryz.ntmps100
    go_wp2_with (first|((with_reducible refine aC (N:=1) rfl ?_);refine bX (N:=1) (cs:= #[.slice aE V.length am,.int .i64 U,.slice aG X.length ap]) (t:=27) ?_;intro ao hg dA av hb;have J:=A_ (aV (oB F) hb);have O:=A_ (av);have ad:=A_ ((by rw[hg];exact(aZ (oB F)):w.heap.size≤ao));have af:=A_ ((by rw[hg];exact(aZ (oB F)):w.heap.size≤ao));clear F;have F:=J;have D:=O;have b5:=ad;have b3:=af;clear J O ad af hb av hg;have cl:=cz D 0;have cn:=cz D 1;have co:=cz D 2;have cw:=aD D.out 0;have cx:=aD D.out 1;have cy:=aD D.out 2)|((with_reducible refine bp (f:=55) rfl ?_);refine gL (some 7) Tryz.func55 #[.agg #[.slice aE V.length am,.int .i64 U,.slice aG X.length ap]] ?_;(with_reducible refine(fJ.c _ _ V U _ _ X true _ ?aT ?aU ?dH ?dO A2.out).mono ?_);(case aT=>exact bF a5.out);(case aU=>exact a4.out);(case dH=>exact bF a3.out);(case dO=>exact bw.out);rintro e dB ⟨rfl,hb⟩;refine⟨_,rfl,?_⟩;have J:=A_ (bb D hb);have O:=A_ (aV (oB F) hb);clear D F;have D:=J;have F:=O;clear J O;(try clear hb);(try clear hb2);(try clear hk);(try clear hi))|((with_reducible refine aC (N:=9) rfl ?_);refine Kd.dR (Kd.int .i64) _ 3 ?hg (N:=9) ?hd (xs:=([]:List Int)) (inner:=[]) (ok:=fun _=>True) (bD:=fun _=>True) ?hr ?hp (fun _ hk=>hk) trivial (Below.refl _ _) (Nat.le_refl _) (by simp) ?_;(case hd=>rfl);(case hg=>rfl);(case hr=>first|(go_simp;done)|(go_simp;rfl));(case hp=>exact(aI.none _ _));intro dn dC a6 hb cA cB;clear cA cB;(first|rw[←bQ.out]at a6|(simp only[Int.reduceToNat]at a6;rw[←bQ.out]at a6));have J:=A_ (Kd.cD a6 (aZ (oB F)));have O:=A_ (bb D hb);have ad:=A_ (aV (oB F) hb);clear D F;have b8:=J;have D:=O;have F:=ad;clear J O ad hb a6;have ci:=cz D 0;have cj:=cz D 1;have ck:=cz D 2;have cp:=aD D.out 0;have cr:=aD D.out 1;have ct:=aD D.out 2;have br:(U:Int)≤((V.length:Int):Int):=oD;obtain⟨dm,bV,_,cF,_⟩:=info_parts om;have bZ:V.length≤am:=a4.out;have bS:Kd.C aN _ aE V.length V:=a5.out;have ch:=rf (P:=Tryz.prog) 24 110 .i64 Tryz.underlying24 bV aE V.length am U (oD) br bZ;have bG:=Kd.sq (m:=(U:Int).toNat) bS (by omega);have bH:z.length=(U:Int).toNat:=(by rw[bR.out,List.length_take];omega);rw[←bR.out]at bG;rw[←bH]at ch;have bP:=A_ bG;have cJ:=A_ (show z.length≤am from by omega);clear bG bS bZ bV cF;have cK:=A_ bH;clear bH;replace br:=aw br))
    go_loopg [3,16] k (fun b0 v3 v16 w'=>∃(aK:List Int) (u:Int),v16= .int .i64 u∧ae (dc.l0 b0 aK z (z.length:Int) u V U X=some r)∧ae (b0≤k)∧ae (Kd.R (Kd.int .i64) 3 w' w.heap.size (fun _=>True) v3 aK)∧ae (w'.heap[ao]? =some (.cells #[(.slice aE V.length am),.int .i64 U,(.slice aG X.length ap)] 27 (0,0)))∧ae (Below w.heap.size w w'))
    case atStart=>exact⟨(bK),(0),eS,H',⟨Nat.le_refl _⟩,⟨oR b8⟩,⟨oK D⟩,⟨oB F⟩⟩
    case round=>
     clear H'
     try clear c1
     try clear q1
     try clear p2
     try clear c3
     try clear c4
     try clear cd
     try clear ce
     try clear c5
     try clear cf
     try clear cg
     try clear c10
     try clear br
     try clear ci
     try clear cj
     try clear ck
     try clear cl
     try clear cn
     try clear co
     try clear cp
     try clear cr
     try clear ct
     try clear cw
     try clear cx
     try clear cy
     try clear br
     obtain⟨aK,u,rfl,bA,bx,ak,D,F⟩:=hrel;cases gk with
     |zero=>exact absurd bA.out (by simp[dc.l0])
     |succ k1=>
      have H:=bA.out;clear bA;simp only[dc.l0]at H;by_cases c13:u<(z.length:Int)
      ·rw[ai c13]at H;have ca:decide (u<(z.length:Int))=true:=ah c13;clear c13;by_cases c14:0≤u
       ·rw[ai c14]at H;have cL:decide (0≤u)=true:=ah c14;clear c14;by_cases c15:u<(z.length:Int)
        ·rw[ai c15]at H;have cN:decide (u<(z.length:Int))=true:=ah c15;clear c15;by_cases c16:0≤((ar z u).f1)
         ·rw[ai c16]at H;have cO:decide (0≤((ar z u).f1))=true:=ah c16;clear c16;by_cases c17:((ar z u).f1)<(X.length:Int)
          ·rw[ai c17]at H;have cP:decide (((ar z u).f1)<(X.length:Int))=true:=ah c17;clear c17;replace H:=ay H;obtain⟨a2,bN,H⟩:=H
           (try dsimp only at H)
           have bL:=A_ bN;clear bN;by_cases c19:(rd X ((ar z u).f1))=a2
           ·rw[ai c19]at H;have cb:((rd X ((ar z u).f1))==a2)=true:=beq_iff_eq.mpr c19;have cc:((rd X ((ar z u).f1)) != a2)=false:=bne_eq_false_iff_eq.mpr c19;clear c19;have H':=A_ H;clear H;have aR:0≤(u:Int):=oD;have a0:u<(z.length:Int):=oD;obtain⟨aM,bC,a9,a_,bc,bd⟩:=eN bP.out u aR a0;cases bC;replace a9:=hW F a9;replace a_:=hW F a_;replace bc:=hW F bc;replace bd:=hW F bd;replace aR:=aw aR;replace a0:=aw a0
            try go_wp2_with (first|((with_reducible refine aC (N:=5) rfl ?_);refine bX (N:=5) (cs:= #[.int .i64 0,.int .i64 0,.int .i64 0,.int .i64 0]) (t:=110) ?_;intro G hg bs av hb;have J:=A_ (Kd.b6 (oR ak) hb);have O:=A_ (bb D hb);have ad:=A_ (aV (oB F) hb);have af:=A_ (av);have bk:=A_ ((by rw[hg];exact(aZ (oB F)):w.heap.size≤G));have bm:=A_ ((by rw[hg];exact(aZ (oB F)):w.heap.size≤G));have bo:=A_ (nL D hg);have bq:=A_ (nG D hg);clear ak D F;have ak:=J;have D:=O;have F:=ad;have I:=af;have b7:=bk;have b4:=bm;have au:=bo;have bB:=bq;clear J O ad af bk bm bo bq hb av hg;have dg:=bB.out;have di:=au.out;have cQ:=cz I 0;have cR:=cz I 1;have cS:=cz I 2;have cT:=cz I 3;have c6:=aD I.out 0;have c7:=aD I.out 1;have c8:=aD I.out 2;have c9:=aD I.out 3))
            have J:ae (Kd.R (Kd.int .i64) 3 ((((bs.setCell ⟨G,0,none⟩ (.int .i64 ((ar z u).f0))).setCell ⟨G,1,none⟩ (.int .i64 ((ar z u).f1))).setCell ⟨G,2,none⟩ (.int .i64 ((ar z u).f2))).setCell ⟨G,3,none⟩ (.int .i64 ((ar z u).f3))) w.heap.size (fun _=>True) u3 aK):=⟨by(with_reducible repeat(first|apply Kd.cC|apply Kd.cM|apply Kd.cq));exact Kd.cm (Kd.dM (p:=⟨G,3,none⟩) (Kd.dM (p:=⟨G,2,none⟩) (Kd.dM (p:=⟨G,1,none⟩) (Kd.dM (p:=⟨G,0,none⟩) (Kd.lz ak.out I.out (by decide)) (fun _ hk=>hk.2) (.int .i64 ((ar z u).f0))) (fun _ hk=>hk.2) (.int .i64 ((ar z u).f1))) (fun _ hk=>hk.2) (.int .i64 ((ar z u).f2))) (fun _ hk=>hk.2) (.int .i64 ((ar z u).f3))) (fun _ hk=>trivial)⟩;have O:ae (((((bs.setCell ⟨G,0,none⟩ (.int .i64 ((ar z u).f0))).setCell ⟨G,1,none⟩ (.int .i64 ((ar z u).f1))).setCell ⟨G,2,none⟩ (.int .i64 ((ar z u).f2))).setCell ⟨G,3,none⟩ (.int .i64 ((ar z u).f3))).heap[ao]? =some (.cells #[.slice (some aM) V.length am,.int .i64 U,.slice aG X.length ap] 27 (0,0))):=⟨by(with_reducible repeat(first|refine bt ?_ _|refine bn ?_|refine bl ?_ _));refine eO ?_ au.out _;(with_reducible repeat(first|refine bt ?_ _|refine bn ?_|refine bl ?_ _));refine eO ?_ au.out _;(with_reducible repeat(first|refine bt ?_ _|refine bn ?_|refine bl ?_ _));refine eO ?_ au.out _;(with_reducible repeat(first|refine bt ?_ _|refine bn ?_|refine bl ?_ _));refine eO ?_ au.out _;(with_reducible repeat(first|refine bt ?_ _|refine bn ?_|refine bl ?_ _));exact D.out⟩;have ad:ae (((((bs.setCell ⟨G,0,none⟩ (.int .i64 ((ar z u).f0))).setCell ⟨G,1,none⟩ (.int .i64 ((ar z u).f1))).setCell ⟨G,2,none⟩ (.int .i64 ((ar z u).f2))).setCell ⟨G,3,none⟩ (.int .i64 ((ar z u).f3))).heap[G]? =some (.cells #[.int .i64 ((ar z u).f0),.int .i64 ((ar z u).f1),.int .i64 ((ar z u).f2),.int .i64 ((ar z u).f3)] 110 (0,0))):=⟨by(with_reducible repeat(first|refine bt ?_ _|refine bn ?_|refine bl ?_ _));refine cE (cs:= #[.int .i64 ((ar z u).f0),.int .i64 ((ar z u).f1),.int .i64 ((ar z u).f2),.int .i64 0]) ?_ 3 _ rfl;(with_reducible repeat(first|refine bt ?_ _|refine bn ?_|refine bl ?_ _));refine cE (cs:= #[.int .i64 ((ar z u).f0),.int .i64 ((ar z u).f1),.int .i64 0,.int .i64 0]) ?_ 2 _ rfl;(with_reducible repeat(first|refine bt ?_ _|refine bn ?_|refine bl ?_ _));refine cE (cs:= #[.int .i64 ((ar z u).f0),.int .i64 0,.int .i64 0,.int .i64 0]) ?_ 1 _ rfl;(with_reducible repeat(first|refine bt ?_ _|refine bn ?_|refine bl ?_ _));refine cE (cs:= #[.int .i64 0,.int .i64 0,.int .i64 0,.int .i64 0]) ?_ 0 _ rfl;(with_reducible repeat(first|refine bt ?_ _|refine bn ?_|refine bl ?_ _));exact I.out⟩;have af:ae (Below w.heap.size w ((((bs.setCell ⟨G,0,none⟩ (.int .i64 ((ar z u).f0))).setCell ⟨G,1,none⟩ (.int .i64 ((ar z u).f1))).setCell ⟨G,2,none⟩ (.int .i64 ((ar z u).f2))).setCell ⟨G,3,none⟩ (.int .i64 ((ar z u).f3)))):=⟨oB F⟩
            (try clear ak)
            (try clear D)
            (try clear I)
            (try clear F)
            generalize ((((bs.setCell ⟨G,0,none⟩ (.int .i64 ((ar z u).f0))).setCell ⟨G,1,none⟩ (.int .i64 ((ar z u).f1))).setCell ⟨G,2,none⟩ (.int .i64 ((ar z u).f2))).setCell ⟨G,3,none⟩ (.int .i64 ((ar z u).f3)))=cH at J O ad af ⊢;have ak:=J;have D:=O;have I:=ad;have F:=af;clear J O ad af;have J:=A_ (Kd.cq ak.out);have O:=A_ (bn D.out);have ad:=A_ (bn I.out);have af:=A_ (cv F.out);clear ak D I F;have ak:=J;have D:=O;have I:=ad;have F:=af;clear J O ad af;have aW:0≤(((ar z u).f1):Int):=oD;have a1:((ar z u).f1)<(X.length:Int):=oD;obtain⟨aQ,bE,aJ⟩:=Kd.dY a3.out ((ar z u).f1) aW a1;have a7:=aJ;cases bE;replace aJ:=hW F aJ;replace aW:=aw aW;replace a1:=aw a1;refine fX (n:=10) (S:=fun w'=>w'.cell? ⟨ao,0,none⟩=some (.slice (some aM) V.length am)∧w'.cell? ⟨ao,1,none⟩=some (.int .i64 U)∧w'.cell? ⟨ao,2,none⟩=some (.slice (some aQ) X.length ap)∧w'.cell? ⟨G,0,none⟩=some (.int .i64 ((ar z u).f0))∧w'.cell? ⟨G,1,none⟩=some (.int .i64 ((ar z u).f1))∧w'.cell? ⟨G,2,none⟩=some (.int .i64 ((ar z u).f2))∧w'.cell? ⟨G,3,none⟩=some (.int .i64 ((ar z u).f3))∧w'.cell? (aQ.add (((ar z u).f1)).toNat)=some (.int .i64 (rd X ((ar z u).f1)))) (ds:=[]) #[false,false,false,false,false,false,false,false,false,false] (by kernel_rfl) rfl rfl ⟨cz D 0,cz D 1,cz D 2,cz I 0,cz I 1,cz I 2,cz I 3,(hW F a7)⟩ (fun hHeld=> ?_);refine gQ dc.nC dc.mW (fun al aH=> ?_);generalize cH.drew=dt at ak D I F aJ hHeld ⊢;refine pA 0 (some 21) al.out ?_;refine pA 2 (some 23) al.out ?_;refine pA 7 (some 28) al.out ?_;refine pT 1 (some 22) al.out aH.out hHeld ?_;refine pT 3 (some 24) al.out aH.out hHeld ?_;refine pA 4 (some 25) al.out ?_;refine pT 5 (some 26) al.out aH.out hHeld ?_;refine pT 6 (some 27) al.out aH.out hHeld ?_;refine dN (i:=8) (N:=some 29) #[true,true,true,true,true,true,true,true,true,false] rfl rfl (dF al.out (by kernel_rfl)) (by decide) (fun K hK=> ?_);refine cG Tryz.func131 (by kernel_rfl) rfl #[.agg #[.slice (some aM) V.length am,.int .i64 U,.slice (some aQ) X.length ap],.int .i64 u] (by rfl) rfl rfl (by(try simp only[List.map_toArray,List.map_cons,List.map_nil]);first|done|rfl|(simp only[List.length_drop,List.length_take];rfl)) ?_
            with_reducible refine(fD.c k1 _ _ V U _ _ X u a2 _ ?aT ?aU ?dH ?dO bL.out).mono ?_
            (case aT=>exact bF a5.out)
            (case aU=>exact a4.out)
            (case dH=>exact bF a3.out)
            (case dO=>exact bw.out)
            rintro e du ⟨rfl,hb⟩;refine⟨_,rfl,?_⟩;have J:=A_ (Kd.b6 (oR ak) hb);have O:=A_ (bb D hb);have ad:=A_ (bb I hb);have af:=A_ (aV (oB F) hb);clear ak D I F;have ak:=J;have D:=O;have I:=ad;have F:=af;clear J O ad af
            (try clear hb)
            (try clear hb2)
            (try clear hk)
            (try clear hi)
            refine hK.out _ _ ⟨cz D 0,cz D 1,cz D 2,cz I 0,cz I 1,cz I 2,cz I 3,(hW F a7)⟩ (fun hHeld=> ?_);clear hK K;refine dS (a':= ?_) ?_ ?_;rotate_left
            ·show Act.put _ (some 29) _=_;simp only[Act.put,List.setIfInBounds_toArray,List.set_cons_zero,List.set_cons_succ,bJ,cu];rfl
            refine pA 9 (some 30) al.out ?_;refine fH (gb al.out (by kernel_rfl)) ?_
            try go_wp2
            go_roundg k1
            case measure=>have:=bx.out;omega
            case rel=>exact⟨(aK),(wrap64 (u+1)),eS,H',⟨by have:=bx.out;omega⟩,⟨oR ak⟩,⟨oK D⟩,⟨oB F⟩⟩
           ·rw[aj c19]at H;have cb:((rd X ((ar z u).f1))==a2)=false:=beq_eq_false_iff_ne.mpr c19;have cc:((rd X ((ar z u).f1)) != a2)=true:=bne_iff_ne.mpr c19;by_cases bz:aK.length<17592186044416
            ·rw[ai bz]at H;have b_:=A_ bz;clear bz;obtain⟨b2,bj⟩:∃bv:List Int,bv=(aK++[u]):=⟨_,rfl⟩;replace H:(dc.l0 k1 b2 z (z.length:Int) (wrap64 (u+1)) V U X)=some r:=by first|(rw[bj];with_reducible exact H)|(have aq:=(az _ _).symm.trans H;rw[bj];with_reducible exact aq)|(have aq:=(az _ _).symm.trans H;with_reducible exact aq)|with_reducible exact H|(rw[bj];exact H)|exact H
             have b':=A_ bj;clear bj;have H':=A_ H;clear H;have aR:0≤(u:Int):=oD;have a0:u<(z.length:Int):=oD;obtain⟨aM,bC,a9,a_,bc,bd⟩:=eN bP.out u aR a0;cases bC;replace a9:=hW F a9;replace a_:=hW F a_;replace bc:=hW F bc;replace bd:=hW F bd;replace aR:=aw aR;replace a0:=aw a0
             try go_wp2_with (first|((with_reducible refine aC (N:=5) rfl ?_);refine bX (N:=5) (cs:= #[.int .i64 0,.int .i64 0,.int .i64 0,.int .i64 0]) (t:=110) ?_;intro G hg bu av hb;have J:=A_ (Kd.b6 (oR ak) hb);have O:=A_ (bb D hb);have ad:=A_ (aV (oB F) hb);have af:=A_ (av);have bk:=A_ ((by rw[hg];exact(aZ (oB F)):w.heap.size≤G));have bm:=A_ ((by rw[hg];exact(aZ (oB F)):w.heap.size≤G));have bo:=A_ (nL D hg);have bq:=A_ (nG D hg);clear ak D F;have ak:=J;have D:=O;have F:=ad;have I:=af;have b7:=bk;have b4:=bm;have au:=bo;have bB:=bq;clear J O ad af bk bm bo bq hb av hg;have dh:=bB.out;have dj:=au.out;have cU:=cz I 0;have cV:=cz I 1;have cW:=cz I 2;have cX:=cz I 3;have c_:=aD I.out 0;have c':=aD I.out 1;have da:=aD I.out 2;have db:=aD I.out 3))
             have J:ae (Kd.R (Kd.int .i64) 3 ((((bu.setCell ⟨G,0,none⟩ (.int .i64 ((ar z u).f0))).setCell ⟨G,1,none⟩ (.int .i64 ((ar z u).f1))).setCell ⟨G,2,none⟩ (.int .i64 ((ar z u).f2))).setCell ⟨G,3,none⟩ (.int .i64 ((ar z u).f3))) w.heap.size (fun _=>True) u3 aK):=⟨by(with_reducible repeat(first|apply Kd.cC|apply Kd.cM|apply Kd.cq));exact Kd.cm (Kd.dM (p:=⟨G,3,none⟩) (Kd.dM (p:=⟨G,2,none⟩) (Kd.dM (p:=⟨G,1,none⟩) (Kd.dM (p:=⟨G,0,none⟩) (Kd.lz ak.out I.out (by decide)) (fun _ hk=>hk.2) (.int .i64 ((ar z u).f0))) (fun _ hk=>hk.2) (.int .i64 ((ar z u).f1))) (fun _ hk=>hk.2) (.int .i64 ((ar z u).f2))) (fun _ hk=>hk.2) (.int .i64 ((ar z u).f3))) (fun _ hk=>trivial)⟩;have O:ae (((((bu.setCell ⟨G,0,none⟩ (.int .i64 ((ar z u).f0))).setCell ⟨G,1,none⟩ (.int .i64 ((ar z u).f1))).setCell ⟨G,2,none⟩ (.int .i64 ((ar z u).f2))).setCell ⟨G,3,none⟩ (.int .i64 ((ar z u).f3))).heap[ao]? =some (.cells #[.slice (some aM) V.length am,.int .i64 U,.slice aG X.length ap] 27 (0,0))):=⟨by(with_reducible repeat(first|refine bt ?_ _|refine bn ?_|refine bl ?_ _));refine eO ?_ au.out _;(with_reducible repeat(first|refine bt ?_ _|refine bn ?_|refine bl ?_ _));refine eO ?_ au.out _;(with_reducible repeat(first|refine bt ?_ _|refine bn ?_|refine bl ?_ _));refine eO ?_ au.out _;(with_reducible repeat(first|refine bt ?_ _|refine bn ?_|refine bl ?_ _));refine eO ?_ au.out _;(with_reducible repeat(first|refine bt ?_ _|refine bn ?_|refine bl ?_ _));exact D.out⟩;have ad:ae (((((bu.setCell ⟨G,0,none⟩ (.int .i64 ((ar z u).f0))).setCell ⟨G,1,none⟩ (.int .i64 ((ar z u).f1))).setCell ⟨G,2,none⟩ (.int .i64 ((ar z u).f2))).setCell ⟨G,3,none⟩ (.int .i64 ((ar z u).f3))).heap[G]? =some (.cells #[.int .i64 ((ar z u).f0),.int .i64 ((ar z u).f1),.int .i64 ((ar z u).f2),.int .i64 ((ar z u).f3)] 110 (0,0))):=⟨by(with_reducible repeat(first|refine bt ?_ _|refine bn ?_|refine bl ?_ _));refine cE (cs:= #[.int .i64 ((ar z u).f0),.int .i64 ((ar z u).f1),.int .i64 ((ar z u).f2),.int .i64 0]) ?_ 3 _ rfl;(with_reducible repeat(first|refine bt ?_ _|refine bn ?_|refine bl ?_ _));refine cE (cs:= #[.int .i64 ((ar z u).f0),.int .i64 ((ar z u).f1),.int .i64 0,.int .i64 0]) ?_ 2 _ rfl;(with_reducible repeat(first|refine bt ?_ _|refine bn ?_|refine bl ?_ _));refine cE (cs:= #[.int .i64 ((ar z u).f0),.int .i64 0,.int .i64 0,.int .i64 0]) ?_ 1 _ rfl;(with_reducible repeat(first|refine bt ?_ _|refine bn ?_|refine bl ?_ _));refine cE (cs:= #[.int .i64 0,.int .i64 0,.int .i64 0,.int .i64 0]) ?_ 0 _ rfl;(with_reducible repeat(first|refine bt ?_ _|refine bn ?_|refine bl ?_ _));exact I.out⟩;have af:ae (Below w.heap.size w ((((bu.setCell ⟨G,0,none⟩ (.int .i64 ((ar z u).f0))).setCell ⟨G,1,none⟩ (.int .i64 ((ar z u).f1))).setCell ⟨G,2,none⟩ (.int .i64 ((ar z u).f2))).setCell ⟨G,3,none⟩ (.int .i64 ((ar z u).f3)))):=⟨oB F⟩
             (try clear ak)
             (try clear D)
             (try clear I)
             (try clear F)
             generalize ((((bu.setCell ⟨G,0,none⟩ (.int .i64 ((ar z u).f0))).setCell ⟨G,1,none⟩ (.int .i64 ((ar z u).f1))).setCell ⟨G,2,none⟩ (.int .i64 ((ar z u).f2))).setCell ⟨G,3,none⟩ (.int .i64 ((ar z u).f3)))=cI at J O ad af ⊢;have ak:=J;have D:=O;have I:=ad;have F:=af;clear J O ad af;have J:=A_ (Kd.cq ak.out);have O:=A_ (bn D.out);have ad:=A_ (bn I.out);have af:=A_ (cv F.out);clear ak D I F;have ak:=J;have D:=O;have I:=ad;have F:=af;clear J O ad af;have aW:0≤(((ar z u).f1):Int):=oD;have a1:((ar z u).f1)<(X.length:Int):=oD;obtain⟨aQ,bE,aJ⟩:=Kd.dY a3.out ((ar z u).f1) aW a1;have a7:=aJ;cases bE;replace aJ:=hW F aJ;replace aW:=aw aW;replace a1:=aw a1;refine fX (n:=10) (S:=fun w'=>w'.cell? ⟨ao,0,none⟩=some (.slice (some aM) V.length am)∧w'.cell? ⟨ao,1,none⟩=some (.int .i64 U)∧w'.cell? ⟨ao,2,none⟩=some (.slice (some aQ) X.length ap)∧w'.cell? ⟨G,0,none⟩=some (.int .i64 ((ar z u).f0))∧w'.cell? ⟨G,1,none⟩=some (.int .i64 ((ar z u).f1))∧w'.cell? ⟨G,2,none⟩=some (.int .i64 ((ar z u).f2))∧w'.cell? ⟨G,3,none⟩=some (.int .i64 ((ar z u).f3))∧w'.cell? (aQ.add (((ar z u).f1)).toNat)=some (.int .i64 (rd X ((ar z u).f1)))) (ds:=[]) #[false,false,false,false,false,false,false,false,false,false] (by kernel_rfl) rfl rfl ⟨cz D 0,cz D 1,cz D 2,cz I 0,cz I 1,cz I 2,cz I 3,(hW F a7)⟩ (fun hHeld=> ?_);refine gQ dc.nC dc.mW (fun al aH=> ?_);generalize cI.drew=dv at ak D I F aJ hHeld ⊢;refine pA 0 (some 21) al.out ?_;refine pA 2 (some 23) al.out ?_;refine pA 7 (some 28) al.out ?_;refine pT 1 (some 22) al.out aH.out hHeld ?_;refine pT 3 (some 24) al.out aH.out hHeld ?_;refine pA 4 (some 25) al.out ?_;refine pT 5 (some 26) al.out aH.out hHeld ?_;refine pT 6 (some 27) al.out aH.out hHeld ?_;refine dN (i:=8) (N:=some 29) #[true,true,true,true,true,true,true,true,true,false] rfl rfl (dF al.out (by kernel_rfl)) (by decide) (fun K hK=> ?_);refine cG Tryz.func131 (by kernel_rfl) rfl #[.agg #[.slice (some aM) V.length am,.int .i64 U,.slice (some aQ) X.length ap],.int .i64 u] (by rfl) rfl rfl (by(try simp only[List.map_toArray,List.map_cons,List.map_nil]);first|done|rfl|(simp only[List.length_drop,List.length_take];rfl)) ?_
             with_reducible refine(fD.c k1 _ _ V U _ _ X u a2 _ ?aT ?aU ?dH ?dO bL.out).mono ?_
             (case aT=>exact bF a5.out)
             (case aU=>exact a4.out)
             (case dH=>exact bF a3.out)
             (case dO=>exact bw.out)
             rintro e dw ⟨rfl,hb⟩;refine⟨_,rfl,?_⟩;have J:=A_ (Kd.b6 (oR ak) hb);have O:=A_ (bb D hb);have ad:=A_ (bb I hb);have af:=A_ (aV (oB F) hb);clear ak D I F;have ak:=J;have D:=O;have I:=ad;have F:=af;clear J O ad af
             (try clear hb)
             (try clear hb2)
             (try clear hk)
             (try clear hi)
             refine hK.out _ _ ⟨cz D 0,cz D 1,cz D 2,cz I 0,cz I 1,cz I 2,cz I 3,(hW F a7)⟩ (fun hHeld=> ?_);clear hK K;refine dS (a':= ?_) ?_ ?_;rotate_left
             ·show Act.put _ (some 29) _=_;simp only[Act.put,List.setIfInBounds_toArray,List.set_cons_zero,List.set_cons_succ,bJ,cu];rfl
             refine pA 9 (some 30) al.out ?_;refine fH (gb al.out (by kernel_rfl)) ?_
             try go_wp2_with (first|((with_reducible refine fI (b:= .append) (xs:= #[.tmp 31,.tmp 33]) rfl ?_);at_builtin;refine Kd.gS (Kd.int .i64) (w0:=w) w.heap.size rfl (.tmp 31) (.tmp 33) 25 3 (.int .i64 0) 8 rfl Tryz.underlying25 info3 rfl (by decide) (by omega) u3 aK u [.int .i64 u] (fun _=>True) (fun _=>False) rfl rfl ?aP (fun _ hk=>hk.elim) ?aF ?aO ?aB ?aS ?aL ?_;(case aP=>exact rfl);(case aB=>exact(oB F));(case aF=>exact(fun _ _=>trivial));(case aO=>exact(oR ak));(case aS=>exact(aZ (oB F)));(case aL=>have:=b_.out;omega);intro dq dx ho hb hg hat;rw[←b'.out]at ho;have J:=A_ (bg D hg (Kd.jY ak.out D.out (by decide)));have O:=A_ (bg I hg (Kd.jY ak.out I.out (by decide)));have ad:=A_ (hb);have af:=A_ (ho);clear D I F ak;have D:=J;have I:=O;have F:=ad;have b9:=af;clear J O ad af ho hb hg hat))
             go_roundg k1
             case measure=>have:=bx.out;omega
             case rel=>exact⟨(b2),(wrap64 (u+1)),eS,H',⟨by have:=bx.out;omega⟩,⟨oR b9⟩,⟨oK D⟩,⟨oB F⟩⟩
            ·rw[aj bz]at H;exact absurd H (by simp)
          ·rw[aj c17]at H;exact absurd H (by simp)
         ·rw[aj c16]at H;exact absurd H (by simp)
        ·rw[aj c15]at H;exact absurd H (by simp)
       ·rw[aj c14]at H;exact absurd H (by simp)
      ·rw[aj c13]at H;have ca:decide (u<(z.length:Int))=false:=ax c13;clear c13;obtain rfl:=aA H;go_wp2;go_ret;exact⟨_,eR,oR ak,oB F⟩
   ·rw[aj c5]at H;exact absurd H (by simp)
  ·rw[aj c4]at H;exact absurd H (by simp)
 ·replace c3:=Bool.eq_false_iff.mpr c3;subst c3;rw[aj (show¬(false=true)by decide)]at H;obtain rfl:=aA H;go_enter Tryz.func100,Tryz.ntmps100
  go_wp2_with (first|((with_reducible refine aC (N:=1) rfl ?_);refine bX (N:=1) (cs:= #[.slice aE V.length am,.int .i64 U,.slice aG X.length ap]) (t:=27) ?_;intro ao hg dy av hb;have J:=A_ (aV (oB F) hb);have O:=A_ (av);have ad:=A_ ((by rw[hg];exact(aZ (oB F)):w.heap.size≤ao));have af:=A_ ((by rw[hg];exact(aZ (oB F)):w.heap.size≤ao));clear F;have F:=J;have D:=O;have b5:=ad;have b3:=af;clear J O ad af hb av hg;have cY:=cz D 0;have cZ:=cz D 1;have c0:=cz D 2;have dd:=aD D.out 0;have de:=aD D.out 1;have df:=aD D.out 2)|((with_reducible refine bp (f:=55) rfl ?_);refine gL (some 7) Tryz.func55 #[.agg #[.slice aE V.length am,.int .i64 U,.slice aG X.length ap]] ?_;(with_reducible refine(fJ.c _ _ V U _ _ X false _ ?aT ?aU ?dH ?dO A2.out).mono ?_);(case aT=>exact bF a5.out);(case aU=>exact a4.out);(case dH=>exact bF a3.out);(case dO=>exact bw.out);rintro e dz ⟨rfl,hb⟩;refine⟨_,rfl,?_⟩;have J:=A_ (bb D hb);have O:=A_ (aV (oB F) hb);clear D F;have D:=J;have F:=O;clear J O;(try clear hb);(try clear hb2);(try clear hk);(try clear hi)))
  go_ret;exact⟨_,eR,by first|exact Kd.aY _ _ _ _ _|exact Kd.sy _ _ _ _ _|exact Kd.sO _ _ _ _ _|exact Kd.sA _ _ _ _ _|exact Kd.sH _ _ _ _ _,oB F⟩
end P
namespace Q
open Go.RowKit P
def ja (l:List S64) (m:Int):Prop:=l.length=0∨(l.getD (l.length-1) z64).f2≤m
instance (l:List S64) (m:Int):Decidable (ja l m):=by unfold ja;exact inferInstance
def dx (p:List ag) (d:Int) (q:List Int) (a m:Int) (l:List S64):Bool:=cp p d q&&(cO l&&(decide (-10≤a∧a≤40)&&(decide (0≤m∧m≤100000)&&decide (ja l m))))
theorem iM {p:List ag} {d:Int} {q:List Int} {a m:Int} {l:List S64}:dx p d q a m l=true↔cp p d q=true∧cO l=true∧(-10≤a∧a≤40)∧(0≤m∧m≤100000)∧ja l m:=by
  unfold dx;simp only[Bool.and_eq_true,decide_eq_true_eq]
end Q
namespace P
open Go.RowKit WW.bc WW.bY WW.bZ
open Go.Maps (Keyed)
theorem zo:laidOutB Tryz.prog=true:=by kernel_rfl
theorem Aj:WideMaps.KeyLaw Tryz.prog 62:=deep_law_gate zo (of_decide_eq_true (by kernel_rfl)) (of_decide_eq_true (by kernel_rfl)) (by kernel_rfl) (by kernel_rfl)
theorem mm:Keyed Tryz.prog 62:=Keyed.of_law Aj
def cn (a:Int):Prop:=(Lit.int .i64 a).wf=true
theorem nD {a:Int} (h: -9223372036854775808≤a) (h2:a≤9223372036854775807):cn a:=by
  have e1:IntKind.i64.min= -9223372036854775808:=by decide
  have e2:IntKind.i64.max=9223372036854775807:=by decide
  unfold cn Lit.wf;simp[e1,e2];omega
def kY (a b:Int):Value:= .agg #[.int .i64 a,.int .i64 b]
def nu (x:S64):Value:= .agg #[.int .i64 x.f0.f0,.int .i64 x.f0.f1,.int .i64 x.f1,.int .i64 x.f2]
theorem pY:Tryz.prog.cellsOf 62=2:=by kernel_rfl
theorem tM:Tryz.prog.cellsOf 3=1:=by kernel_rfl
theorem vN:∃m,Tryz.prog.types.size=m+1:=⟨Tryz.prog.types.size-1,by have:0<Tryz.prog.types.size:=of_decide_eq_true (by kernel_rfl);omega⟩
theorem keyLits_int (m:Nat) (v:Value):Tryz.prog.keyLits (m+1) 3 [v]=(match v with| .int q' n=>if q'= .i64∧(Lit.int .i64 n).wf=true then some [.int .i64 n]else none|_=>none):=by
  simp only[Program.keyLits,Tryz.underlying3];cases v<;>rfl
def fF (a b:Int):Lit:= .string (keyBytes [.int .i64 a,.int .i64 b])
theorem mj {a b:Int} (ha:cn a) (hb:cn b):keyOf Tryz.prog 62 (kY a b)=some (fF a b):=by
  obtain⟨m,hm⟩:=vN;have kt:Tryz.prog.keyType 62=true:=by kernel_rfl
  unfold cn at ha hb;have fm:(kY a b).formed Tryz.prog 62=true:=by simp[kY,Value.formed,Tryz.underlying62,pY]
  have hl:Tryz.prog.keyLits (m+1+1) 62 [.int .i64 a,.int .i64 b]=some [.int .i64 a,.int .i64 b]:=by
    unfold Program.keyLits;simp only[Tryz.underlying62];simp[pY,tM,keyLits_int,ha,hb]
  rw[←hm]at hl;unfold keyOf;simp only[Tryz.underlying62,kt,fm,Bool.and_self,if_true,Option.map_eq_some_iff];exact⟨_,hl,rfl⟩
theorem tP {v:Value} {l:Lit} (h:keyOf Tryz.prog 62 v=some l):∃a b,v=kY a b∧cn a∧cn b:=by
  obtain⟨m,hm⟩:=vN;have kt:Tryz.prog.keyType 62=true:=by kernel_rfl
  unfold keyOf at h;simp only[Tryz.underlying62,kt,Bool.true_and]at h
  split at h
  case isFalse=>cases h
  case isTrue hf=>
    cases v<;>simp[Value.formed,Tryz.underlying62,pY]at hf
    rename_i cs
    obtain⟨c0,c1,rfl⟩:∃c0 c1,cs= #[c0,c1]:=by
      rcases cs with ⟨_|⟨x,_|⟨y,_|⟨z,t⟩⟩⟩⟩<;>simp at hf ⊢
    simp only[Option.map_eq_some_iff]at h;obtain⟨ls,h,_⟩:=h;rw[hm]at h;replace h:Tryz.prog.keyLits (m+1+1) 62 [c0,c1]=some ls:=h;unfold Program.keyLits at h;simp only[Tryz.underlying62]at h;simp[pY,tM,keyLits_int]at h;cases c0<;>simp at h
    rename_i k0 n0
    by_cases e0:k0= .i64∧(Lit.int .i64 n0).wf=true
    · obtain⟨rfl,e0⟩:=e0;cases c1<;>simp[e0]at h
      rename_i k1 n1
      by_cases e1:k1= .i64∧(Lit.int .i64 n1).wf=true
      · obtain⟨rfl,e1⟩:=e1;exact⟨_,_,rfl,e0,e1⟩
      · simp[e1]at h
    · simp[e0]at h
instance CD:DecidableEq bH:=fun a b=>decidable_of_iff (a.f0=b.f0∧a.f1=b.f1) ⟨fun h=>by obtain⟨x,y⟩:=a;obtain⟨z,u⟩:=b;simp only at h;obtain⟨rfl,rfl⟩:=h;rfl,fun h=>by rw[h];exact⟨rfl,rfl⟩⟩
abbrev jM (v:Value):Option (DataW Unit×List MemPlace):=
  match v with
  | .agg ⟨[.int .i64 a,.int .i64 b,.int .i64 c,.int .i64 d]⟩=>some (.agg [.lit (.int .i64 a),.lit (.int .i64 b),.lit (.int .i64 c),.lit (.int .i64 d)],[])
  |_=>none
def jh (x:S64):DataW Unit:= .agg [.lit (.int .i64 x.f0.f0),.lit (.int .i64 x.f0.f1),.lit (.int .i64 x.f1),.lit (.int .i64 x.f2)]
theorem rF (x:S64):jM (nu x)=some (jh x,[]):=rfl
theorem uC {v:Value} {y:DataW Unit×List MemPlace} (h:jM v=some y):∃x:S64,v=nu x∧y=(jh x,[]):=by
  unfold jM at h
  split at h
  · exact⟨⟨⟨_,_⟩,_,_⟩,rfl,(aA h).symm⟩
  · cases h
theorem rJ {x y:S64} (h:jh x=jh y):x=y:=by
  obtain⟨⟨a,b⟩,c,d⟩:=x;obtain⟨⟨a',b'⟩,c',d'⟩:=y;simp[jh]at h;obtain⟨rfl,rfl,rfl,rfl⟩:=h;rfl
structure ly (D:DataW Unit) (m:bH→Option S64):Prop where
  isMap:Maps.IsMap D
  at_:∀p:bH,cn p.f0→cn p.f1→∀z,D.atKey (fF p.f0 p.f1) z=((m p).map jh).getD z
theorem zm:ly (.map []) (fun _=>none):=⟨Maps.isMap_empty,fun _ _ _ _=>rfl⟩
theorem uA {a b a' b':Int} (ha:cn a) (hb:cn b) (ha':cn a') (hb':cn b') (h:fF a b=fF a' b'):a=a'∧b=b':=by
  have h1:=mj ha hb;have h2:=mj ha' hb';rw[←h]at h2;have e:=mm.inj h1 h2;simp[kY]at e;exact e
theorem ly.put {D:DataW Unit} {m:bH→Option S64} (h:ly D m) (p:bH) (ha:cn p.f0) (hb:cn p.f1) (x:S64):
    ly (D.put (fF p.f0 p.f1) (jh x)) (fun q=>if q=p then some x else m q):=by
  refine⟨h.isMap.put _ _,fun q u hq1 z=> ?_⟩;by_cases e:q=p
  · subst e;rw[Maps.atKey_put_same h.isMap (mm.key (mj ha hb))];simp
  · have hne:fF q.f0 q.f1≠fF p.f0 p.f1:=fun hh=>e (by
      have:=uA u hq1 ha hb hh;obtain⟨a,b⟩:=q;obtain⟨c,d⟩:=p;simp only at this;obtain⟨rfl,rfl⟩:=this;rfl)
    rw[Maps.atKey_put_other hne,h.at_ q u hq1];simp[e]
def iK (l:List S64) (p:bH):Option S64:=l.foldl (fun o x=>if p=x.f0 then some x else o) none
theorem rz (l:List S64) (x:S64):iK (l++[x])=fun q=>if q=x.f0 then some x else iK l q:=by
  funext q
  simp[iK]
abbrev uB (w:World) (b n:Nat) (l:List S64):Prop:=∃D,w.ownsMap Tryz.prog 62 jM b n D∧ly D (iK l)
set_option maxHeartbeats 4000000 in
set_option maxRecDepth 100000 in
theorem rp.c (A0:Option Addr) (c0:Nat) (l0:List S64) (w:World) (J:Kd.C aK w A0 l0.length l0) (hc0:l0.length≤c0) (hl:l0.length≤1000) (hw:∀x∈l0,cn x.f0.f0∧cn x.f0.f1):
    Calls Tryz.prog 133 #[.slice A0 l0.length c0] w fun e w'=>∃b:Nat,e= .returned (.map (some b))∧w.heap.size≤b∧uB w' b l0.length l0∧Below w.heap.size w w':=by
  have X:=ae.mk J;have HW:=ae.mk hw;have u:=ae.mk (Below.refl w.heap.size w);clear J hw;have I:=World.ownsMap_made w Tryz.prog 62 jM;have HO:=ae.mk I;clear I;have al:=@run_makeMap Tryz.prog;go_enter Tryz.func133,Tryz.ntmps133;go_wp2
  go_loopg [9] (l0.length+1) (fun ag v9 w'=>∃(i:Nat),v9= .int .i64 (i:Int)∧ae (i+ag=l0.length+1)∧ae (i≤l0.length)∧ae (uB w' w.heap.size i (l0.take i))∧ae (Below w.heap.size w w'))
  case atStart=>
    exact⟨0,rfl,⟨by omega⟩,⟨by omega⟩,⟨⟨_,HO.out,zm⟩⟩,⟨bM u.out _⟩⟩
  case round=>
    clear u HO;obtain⟨i,rfl,U,V,z,u⟩:=hrel;by_cases hlt:i<l0.length
    · have hb3:decide ((i:Int)<(l0.length:Int))=true:=ah (by omega);have hb4:decide (i<l0.length)=true:=ah (by omega);obtain⟨ad,e,hx0,hx1,hx2,hx3⟩:=eA X.out (i:Int) (by omega) (by omega);cases e;replace hx0:=(u.out.cell (World.block_lt_of_cell? w _ hx0)).trans hx0;replace hx1:=(u.out.cell (World.block_lt_of_cell? w _ hx1)).trans hx1;replace hx2:=(u.out.cell (World.block_lt_of_cell? w _ hx2)).trans hx2;replace hx3:=(u.out.cell (World.block_lt_of_cell? w _ hx3)).trans hx3;obtain⟨x,hx⟩:∃x,aq l0 (i:Int)=x:=⟨_,rfl⟩;rw[hx]at hx0 hx1 hx2 hx3;simp only[Int.toNat_natCast]at hx0 hx1 hx2 hx3;have e0:l0[i]=x:=(by rw[←hx];simp[aq,List.getD_eq_getElem?_getD,hlt]);obtain⟨q1,q2⟩:=HW.out x (by rw[←e0];exact List.getElem_mem hlt);have af:ae (l0.take (i+1)=l0.take i++[x]):=⟨by rw[List.take_succ_eq_append_getElem hlt,e0]⟩;have F:=ae.mk q1;have G:=ae.mk q2;obtain⟨D,hD,H⟩:=z.out;have HD:=ae.mk hD;have K:=ae.mk H;have ak:=ae.mk hlt;clear hx e0 q1 q2 z hD H
      go_wp2_with (first|(at_mapUpdate;refine wpList_mapUpdate_own _ rfl _ _ _ 141 rfl 62 64 mm Tryz.underlying141 jM w.heap.size i D rfl (HD.out.alloc _) (show i<maxLen from Nat.lt_of_le_of_lt (show i≤1000 by omega) (by decide)) (kY x.f0.f0 x.f0.f1) (nu x) _ rfl rfl (mj F.out G.out) (jh x) [] (rF x) ?_;intro w2 h2 hg2;have H2:=ae.mk h2;have O:=ae.mk hg2;clear h2 hg2))
      go_roundg (l0.length-i)
      case measure=>have:=U.out;omega
      case rel=>
        refine⟨i+1,by go_num,⟨by omega⟩,⟨by omega⟩,⟨⟨_,H2.out,?_⟩⟩,⟨?_⟩⟩
        · rw[af.out,rz];exact ly.put K.out x.f0 F.out G.out x
        · exact(bM u.out _).grown O.out (bM u.out _).size (fun k hk=>by cases hk;exact Nat.le_refl _)
    · have hb3:decide ((i:Int)<(l0.length:Int))=false:=ax (by omega);have hb4:decide (i<l0.length)=false:=ax (by omega);obtain rfl:i=l0.length:=(by have:=V.out;omega);go_wp2;go_ret;exact⟨w.heap.size,rfl,Nat.le_refl _,by simpa using z.out,u.out⟩
def iG (l:List S64) (p:bH):Int:=((iK l p).getD z64).f1
instance (a:Int):Decidable (cn a):=by unfold cn;infer_instance
theorem CC (w:World):(zeroValue 64).run Tryz.prog w= .ok (nu z64) w:=by kernel_rfl
theorem ym (a b c d:Int) (w:World):(Instr.field 64 (.agg #[.int .i64 a,.int .i64 b,.int .i64 c,.int .i64 d]) 1).run Tryz.prog w= .ok (.int .i64 c) w:=by kernel_rfl
theorem ua {w:World} {b n:Nat} {D:DataW Unit} {m:bH→Option S64} (h:w.ownsMap Tryz.prog 62 jM b n D) (hD:ly D m) (p:bH) (h0:cn p.f0) (h1:cn p.f1):
    ∃x:S64,(Instr.lookup 141 (.map (some b)) (.agg #[.int .i64 p.f0,.int .i64 p.f1]) false).run Tryz.prog w= .ok (.agg #[.int .i64 x.f0.f0,.int .i64 x.f0.f1,.int .i64 x.f1,.int .i64 x.f2]) w∧x=(m p).getD z64:=by
  obtain⟨v,ps,hrun,hv⟩:=h.lookup mm Tryz.underlying141 (CC w) (rF _) (mj h0 h1);obtain⟨x,rfl,e⟩:=uC hv;refine⟨x,hrun,?_⟩;rw[hD.at_ p h0 h1]at e;simp only[Prod.mk.injEq]at e;cases hm:m p with
  |none=>rw[hm]at e;exact(rJ e.1).symm
  |some y=>rw[hm]at e;exact(rJ e.1).symm
end P
namespace Q
open Go.RowKit P WW.bc WW.bZ
theorem Ao (l:List ag) (t:List Bool):kg l t=iv l t:=by
  induction l generalizing t with
  |nil=>rfl
  |cons x r ih=>simp only[kg,iv,ih];rfl
theorem uJ (l:List ag):jm.f l=some (eL l):=by
  show some (rG l)=some (eL l);unfold rG eL;rw[Ao,Bool.and_comm];rfl
def pI (x:ag):Prop:=0≤x.f0∧x.f0≤11∧0≤x.f1∧x.f1≤11∧x.f1=(x.f0+1)%12
theorem BF {x:ag} {t:List Bool} (h:iN x t=true):pI x:=by
  simp[iN]at h;unfold pI;omega
theorem Aq {l:List ag} {t:List Bool} (h:iv l t=true):∀x∈l,pI x:=by
  induction l generalizing t with
  |nil=>simp
  |cons y r ih=>
   simp only[iv,Bool.and_eq_true]at h;intro x hx;rcases List.mem_cons.1 hx with rfl|hx
   · exact BF h.1
   · exact ih h.2 x hx
theorem k8 {l:List ag} (h:eL l=true):∀x∈l,pI x:=by
  simp only[eL,Bool.and_eq_true]at h;exact Aq h.2
theorem k9 {l:List ag} (h:eL l=true):l.length≤11:=by
  simp only[eL,Bool.and_eq_true,decide_eq_true_eq]at h;exact h.1
theorem kj (l:List Int) (i:Int):rd l i=l.getD i.toNat 0:=rfl
def mr:List ag→List Int→List Int×Bool
  |[],o=>(o,true)
  |x::r,o=>if ft (o.getD x.f0.toNat 0) x.f2 x.f3=0 then([],false)else mr r (o.set x.f1.toNat (ft (o.getD x.f0.toNat 0) x.f2 x.f3))
def begun (a:Int):List Int:=a::List.replicate 11 0
def lI (a:Int) (l:List ag):List Int×Bool:=if eL l=true∧fine a=true then mr l (begun a)else([],false)
theorem Bb (a:Int) (l:List ag):Ev (fun n=>cK.f n a l) (lI a l):=by
  have u:Ev (fun n=>cK.j0 n a l true) ([],false):=Ev.step (fun n=>by rw[cK.j0]) (ak rfl (Ev.now _));unfold cK.f lI;refine aQ (uJ l) ?_;by_cases hp:eL l=true;rotate_left
  · exact bq (fun h=>hp h.1)<|aH hp u
  refine ak hp (aQ (kZ a) ?_);by_cases ha:fine a=true;rotate_left
  · rw[show(!fine a)=true by simpa using ha];exact bq (fun h=>ha h.2) u
  rw[show(!fine a)=false by simpa using ha];refine bE ⟨hp,ha⟩ ?_;have hl:=k9 hp;have hin:=k8 hp
  have key:∀i,i≤l.length→∀o:List Int,o.length=12→Ev (fun n=>cK.l0 n l o (i:Int)) (mr (l.drop i) o):=by
    refine down (n:=l.length) ?_ ?_
    · intro o ho;refine Ev.step (fun n=>by rw[cK.l0]) (aH (by omega) (evs ?_));rw[kM];rfl
    · intro i hi ih o ho;obtain⟨k0,k1,k2,k3,k4⟩:=hin l[i] (List.getElem_mem hi);refine Ev.step (fun n=>by rw[cK.l0]) ?_;refine ak (by omega) (ak (by omega) ?_);rw[ki l i hi,drop_cons l i hi,mr];refine ak k0 (ak (by omega) (Ev.bind (ql _ _ _) ?_));rw[kj];by_cases hz:ft (o.getD l[i].f0.toNat 0) l[i].f2 l[i].f3=0
      · exact bE hz<|ak hz (Ev.now _)
      refine bq hz<|aH hz (ak k2 (ak (by omega) ?_));rw[bU (by omega) (by omega)];exact ih _ (by simpa using ho)
  refine Ev.step (fun n=>by rw[cK.j0]) ?_;refine aH (by decide) (ak (by decide) ?_);simp only[az];refine ak (by simp) ?_;exact key 0 (Nat.zero_le _) _ (by simp)
def ie (c:Int):List ag→Nat→Int
  |[],_=> -1
  |x::r,j=>if x.f1=c then(j:Int)else ie c r (j+1)
theorem BG (l:List ag) (c:Int) (hl:l.length≤4000000):Ev (fun n=>fh.f n l c) (ie c l 0):=by
  have key:∀i,i≤l.length→Ev (fun n=>fh.l0 n l c (i:Int)) (ie c (l.drop i) i):=by
    refine down (n:=l.length) ?_ ?_
    · refine Ev.step (fun n=>by rw[fh.l0]) (aH (by omega) (evs ?_));rw[kM];rfl
    · intro i hi ih;refine Ev.step (fun n=>by rw[fh.l0]) ?_;refine ak (by omega) (ak (by omega) ?_);rw[ki l i hi,drop_cons l i hi,ie];by_cases h:l[i].f1=c
      · exact bE h<|ak h (Ev.now _)
      · refine bq h<|aH h ?_;rw[bU (by omega) (by omega)];exact ih
  exact key 0 (Nat.zero_le _)
theorem BH (c:Int) (l:List ag) (j d:Nat):(0≤ie c l j∧ie c l j<((j+d:Nat):Int))↔∃x∈l.take d,x.f1=c:=by
  induction l generalizing j d with
  |nil=>simp[ie]
  |cons x r ih=>
   unfold ie;cases d with
   |zero=>
    simp only[List.take_zero,List.not_mem_nil,false_and,exists_false,iff_false];by_cases h:x.f1=c
    · rw[ai h];omega
    · rw[aj h];have:=ih (j+1) 0;simp at this;have h1:=this;intro h2
      have:∀(l:List ag) (j:Nat),ie c l j= -1∨(j:Int)≤ie c l j:=by
        intro l
        induction l with
        |nil=>intro j;exact .inl rfl
        |cons y s ih2=>
         intro j;unfold ie;split
         · exact .inr (Int.le_refl _)
         · rcases ih2 (j+1)with h|h
           · exact .inl h
           · exact .inr (by omega)
      rcases this r (j+1)with h3|h3<;>omega
   |succ d=>
    rw[List.take_succ_cons];by_cases h:x.f1=c
    · rw[ai h];exact⟨fun _=>⟨x,List.mem_cons_self,h⟩,fun _=>⟨by omega,by omega⟩⟩
    · rw[aj h];have:=ih (j+1) d;rw[show j+1+d=j+(d+1)by omega]at this;rw[this];constructor
      · rintro⟨y,hy,e⟩;exact⟨y,List.mem_cons_of_mem _ hy,e⟩
      · rintro⟨y,hy,e⟩;rcases List.mem_cons.1 hy with rfl|hy
        · exact absurd e h
        · exact⟨y,hy,e⟩
theorem qj (l:List ag) (t:List Bool):(P.fN l t).length=t.length:=by
  unfold P.fN
  induction l generalizing t with
  |nil=>rfl
  |cons x r ih=>rw[List.foldl_cons,ih,List.length_set]
theorem Cc (l:List ag) (t:List Bool) (hin:∀x∈l,0≤x.f1) (c:Nat) (hc:c<t.length):(P.fN l t)[c]? =some (t[c]||l.any (fun x=>decide (x.f1=(c:Int)))):=by
  unfold P.fN
  induction l generalizing t with
  |nil=>simp[hc]
  |cons x r ih=>
   rw[List.foldl_cons,ih _ (fun y hy=>hin y (List.mem_cons_of_mem _ hy)) (by simpa using hc)];have:=hin x List.mem_cons_self;simp only[List.any_cons,List.getElem_set];by_cases h:x.f1=(c:Int)
   · rw[ai (by omega)];simp[h]
   · rw[aj (by omega)];simp[h]
theorem oZ (p:List ag) (d:Int) (q:List Int):Ev (fun n=>cI.f n p d q) (cp p d q):=by
  have u:Ev (fun n=>cI.j0 n true p d q) false:=Ev.step (fun n=>by rw[cI.j0]) (ak rfl (Ev.now _));unfold cI.f cp;refine aQ (uJ p) ?_;by_cases hp:eL p=true;rotate_left
  · rw[show eL p=false by simpa using hp,Bool.false_and];exact aH (by simp) u
  refine ak hp (aQ (gI _ _ _) ?_);rw[hp,Bool.true_and];by_cases hd:0≤d∧d≤(p.length:Int);rotate_left
  · rw[ax hd,Bool.false_and];exact aH (by simp) u
  rw[ah hd,Bool.true_and];refine ak rfl ?_;by_cases hq:q.length=12;rotate_left
  · rw[ax hq,Bool.false_and,show((q.length:Int) != 12)=true by simpa using(show¬(q.length:Int)=12 by omega)];exact u
  rw[ah hq,Bool.true_and,show((q.length:Int) != 12)=false by simpa using(show(q.length:Int)=12 by omega)];have hl:=k9 hp;have hin:=k8 hp;obtain⟨T,hT⟩:∃T,P.fN (p.take d.toNat) gu=T:=⟨_,rfl⟩;have F:T.length=12:=by rw[←hT,qj];rfl
  have D:∀c:Nat,(hc:c<T.length)→T[c]=(decide (c=0)||decide (0≤ie (c:Int) p 0∧ie (c:Int) p 0<d)):=by
    intro c hc;have h1:=Cc (p.take d.toNat) gu (fun x hx=>(hin x (List.mem_of_mem_take hx)).2.2.1) c (show c<12 by omega);rw[hT,List.getElem?_eq_getElem hc]at h1;rw[aA h1]
    congr 1
    · have:∀c,(h:c<gu.length)→gu[c]=decide (c=0):=(by decide);exact this c _
    · have h2:=BH (c:Int) p 0 d.toNat;rw[Nat.zero_add,Int.toNat_of_nonneg hd.1]at h2;rw[Bool.eq_iff_iff,decide_eq_true_iff,h2];simp
  rw[hT]
  have key:∀i:Nat,i≤12→Ev (fun n=>cI.l0 n (i:Int) p d q) (gg (T.drop i) (q.drop i)):=by
    refine down (n:=12) ?_ ?_
    · refine Ev.step (fun n=>by rw[cI.l0]) (aH (by omega) (evs ?_));rw[List.drop_eq_nil_of_le (by omega)];rfl
    · intro i hi ih;refine Ev.step (fun n=>by rw[cI.l0]) ?_;refine ak (by omega) (Ev.bind (BG p _ (by omega)) ?_);rw[oC q i (by omega),drop_cons T i (by omega),drop_cons q i (by omega),gg,D i (by omega),bU (n:=(i:Int)+1) (by omega) (by omega)]
      have fin:∀v:Bool,Ev (fun n=>(cL.f q[i]).bind fun t=>if t=true then cI.l0 n (((i+1:Nat)):Int) p d q else some false) (decide (1≤q[i]∧q[i]≤10000000)&&gg (T.drop (i+1)) (q.drop (i+1))):=by
        intro v;refine aQ (kZ _) ?_;by_cases hf:fine q[i]=true
        · rw[show decide (1≤q[i]∧q[i]≤10000000)=true from hf,Bool.true_and];exact ak hf ih
        · rw[show decide (1≤q[i]∧q[i]≤10000000)=false by simpa[fine]using hf,Bool.false_and];exact aH hf (Ev.now _)
      have z:Ev (fun n=>if 0≤(i:Int)then(if(i:Int)<(q.length:Int)then(if q[i]=0 then cI.l0 n (((i+1:Nat)):Int) p d q else some false)else none)else none) (decide (q[i]=0)&&gg (T.drop (i+1)) (q.drop (i+1))):=by
        refine ak (by omega) (ak (by omega) ?_);by_cases hz:q[i]=0
        · rw[ah hz,Bool.true_and];exact ak hz ih
        · rw[ax hz,Bool.false_and];exact aH hz (Ev.now _)
      by_cases h0:i=0
      · refine ak (by omega) (ak (by omega) (ak (by omega) ?_));rw[ah h0,Bool.true_or,ai rfl];exact fin true
      refine aH (by omega) ?_;rw[ax h0,Bool.false_or];by_cases h1:0≤ie (i:Int) p 0;rotate_left
      · rw[ax (fun h=>h1 h.1),aj (by simp)];exact aH (by omega) z
      refine ak (by omega) ?_;by_cases h2:ie (i:Int) p 0<d
      · rw[ah ⟨h1,h2⟩,ai rfl];exact ak h2 (ak (by omega) (ak (by omega) (fin true)))
      · rw[ax (fun h=>h2 h.2),aj (by simp)];exact aH h2 z
  refine Ev.step (fun n=>by rw[cI.j0]) (aH (by decide) ?_);exact key 0 (by omega)
theorem qo (p:List ag) (d:Int) (q:List Int):fJ.f p d q=some (cp p d q):=rfl
theorem lR {p:List ag} {d:Int} {q:List Int} (h:cp p d q=true):eL p=true:=by
  simp only[cp,Bool.and_eq_true]at h;exact h.1
theorem mJ {p:List ag} {d:Int} {q:List Int} (h:cp p d q=true):0≤d∧d≤p.length:=by
  simp only[cp,Bool.and_eq_true,decide_eq_true_eq]at h;exact h.2.1
theorem lu {p:List ag} {d:Int} {q:List Int} (h:cp p d q=true):q.length=12:=by
  simp only[cp,Bool.and_eq_true,decide_eq_true_eq]at h;exact h.2.2.1
def ew (p:List ag) (q:List Int) (i:Nat):Int:=ft (q.getD (p.getD i df).f0.toNat 0) (p.getD i df).f2 (p.getD i df).f3
theorem jK (p:List ag) (i:Nat) (hi:i<p.length):p.getD i df=p[i]:=by simp[List.getD_eq_getElem?_getD,hi]
theorem se (p:List ag) (d:Int) (q:List Int) (i:Nat) (hp:eL p=true) (hq:q.length=12) (hi:i<p.length):Ev (fun n=>fD.f n p d q (i:Int)) (ew p q i):=by
  obtain⟨k0,k1,k2,k3,k4⟩:=k8 hp p[i] (List.getElem_mem hi);unfold fD.f ew;rw[jK p i hi,ki p i hi];refine ak (by omega) (ak (by omega) (ak k0 (ak (by omega) (Ev.bind (Ch _ _ _) (Ev.now _)))))
theorem pF (q:List Int) (i:Nat) (v:Int) (h:i<q.length):(q.set i v).getD i 0=v:=by simp[List.getD_eq_getElem?_getD,h]
theorem getD_set_ne (q:List Int) (i k:Nat) (v:Int) (h:i≠k):(q.set i v).getD k 0=q.getD k 0:=by
  simp only[List.getD_eq_getElem?_getD];rw[List.getElem?_set_ne h]
def fL (p:List ag) (s:Int):Nat→Int
  |0=>s
  |k+1=>ft (fL p s k) (p.getD k df).f2 (p.getD k df).f3
def ml:List Int:=[155000,115875,86531,64523,48017,35638,26353,19390,14167,10250,7312,5109]
def l6:List Int:=[345000,517500,388125,582187,436640,654960,491220,368415,552622,414466,621699,466274]
theorem oc {n:Int} (h1:1≤n) (h2:n≤10000000):fine n=true:=ah ⟨h1,h2⟩
theorem Cf (a b:Int) (h1:2000≤a) (h2:a≤1000000) (h3:0≤b) (h4:b<1500):ft a 1 b=(3*a-b)/2:=by
  unfold ft gJ mx;rw[ai (oc (by omega) (by omega)),ai (by omega),ai rfl,bU (n:=3*a) (by omega) (by omega),bU (n:=3*a-b) (by omega) (by omega)];have e:(if(3*a-b)<0 then(0:Int)else 3*a-b)=3*a-b:=aj (by omega);rw[e];rw[Int.tdiv_eq_ediv_of_nonneg (by omega),bU (by omega) (by omega),ai (oc (by omega) (by omega))]
theorem Cg (a b:Int) (h1:2000≤a) (h2:a≤1000000) (h3:0≤b) (h4:b<1500):ft a 2 b=(3*a-b)/4:=by
  unfold ft gJ mx;rw[ai (oc (by omega) (by omega)),ai (by omega),aj (by decide),ai rfl,bU (n:=3*a) (by omega) (by omega),bU (n:=3*a-b) (by omega) (by omega)];have e:(if(3*a-b)<0 then(0:Int)else 3*a-b)=3*a-b:=aj (by omega);rw[e];rw[Int.tdiv_eq_ediv_of_nonneg (by omega),bU (by omega) (by omega),ai (oc (by omega) (by omega))]
theorem xH (k:Nat) (hk:k<11) (a b x:Int) (h1:ml.getD k 0≤a) (h2:a≤l6.getD k 0) (h3:0≤b) (h4:b<1500) (hx:x=2∨x=jD k):
    ml.getD (k+1) 0≤ft a x b∧ft a x b≤l6.getD (k+1) 0:=by
  have a1:2000≤a∧a≤1000000:=by
    have:∀k:Nat,k<11→2000≤ml.getD k 0∧l6.getD k 0≤1000000:=(by decide);have:=this k hk;omega
  have hx2:x=2∨(x=1∧jD k=1):=by
    rcases hx with h|h
    · exact .inl h
    · unfold jD at h ⊢;by_cases h5:k=0∨k=2∨k=4∨k=7∨k=9
      · rw[ai h5]at h ⊢;exact .inr ⟨h,rfl⟩
      · rw[aj h5]at h;exact .inl h
  have hk2:k=0∨k=1∨k=2∨k=3∨k=4∨k=5∨k=6∨k=7∨k=8∨k=9∨k=10:=by omega
  rcases hx2 with rfl|⟨rfl,hu⟩
  · rw[Cg a b a1.1 a1.2 h3 h4];rcases hk2 with rfl|rfl|rfl|rfl|rfl|rfl|rfl|rfl|rfl|rfl|rfl<;>simp only[ml,l6,List.getD_cons_zero,List.getD_cons_succ]at h1 h2 ⊢ <;>omega
  · rw[Cf a b a1.1 a1.2 h3 h4];rcases hk2 with rfl|rfl|rfl|rfl|rfl|rfl|rfl|rfl|rfl|rfl|rfl<;>first|(exact absurd hu (by decide))|(simp only[ml,l6,List.getD_cons_zero,List.getD_cons_succ]at h1 h2 ⊢;omega)
section
variable {p:List ag} (g:eJ p) {s:Int} (hs:155000≤s∧s≤345000)
include g
theorem oh (i:Nat) (h:i<p.length):(p.getD i df).f0=i∧(p.getD i df).f1=(i:Int)+1∧((p.getD i df).f2=2∨(p.getD i df).f2=jD i)∧0≤(p.getD i df).f3∧(p.getD i df).f3<1500:=by
  rw[jK p i h];exact g.2 i h
include hs
theorem Al (k:Nat) (hk:k≤p.length):ml.getD k 0≤fL p s k∧fL p s k≤l6.getD k 0:=by
  induction k with
  |zero=>exact hs
  |succ k ih=>
   obtain⟨h1,h2⟩:=ih (by omega);obtain⟨g0,g1,g2,g3,g4⟩:=oh g k (by omega);exact xH k (by have:=g.1;omega) _ _ _ h1 h2 g3 g4 g2
theorem oy (k:Nat) (hk:k≤p.length):2000≤fL p s k∧fL p s k≤1000000:=by
  have:∀k:Nat,k<12→2000≤ml.getD k 0∧l6.getD k 0≤1000000:=by decide
  have h1:=this k (by have:=g.1;omega);have h2:=Al g hs k hk;omega
end
def dK (p:List ag) (s:Int) (n:Nat):List Int:=(List.range 12).map (fun k=>if k≤n then fL p s k else 0)
theorem nr (p:List ag) (s:Int) (n:Nat):(dK p s n).length=12:=by simp[dK]
theorem jc (p:List ag) (s:Int) (n k:Nat) (hk:k<12):(dK p s n).getD k 0=if k≤n then fL p s k else 0:=by
  simp[dK,List.getD_eq_getElem?_getD,hk]
theorem rB {a b:List Int} (ha:a.length=12) (hb:b.length=12) (h:∀k:Nat,k<12→a.getD k 0=b.getD k 0):a=b:=by
  apply List.ext_getElem (by omega);intro k h1 h2;have:=h k (by omega);simpa[List.getD_eq_getElem?_getD,h1,h2]using this
theorem uF (p:List ag) (s:Int):dK p s 0=begun s:=by
  refine rB (nr p s 0) (by simp[begun]) (fun k hk=> ?_);rw[jc p s 0 k hk];cases k with
  |zero=>rfl
  |succ k=>
   rw[aj (by omega)];have:∀k:Nat,k<11→(List.replicate 11 (0:Int)).getD k 0=0:=(by decide);exact(this k (by omega)).symm
theorem uE (p:List ag) (s:Int) (n:Nat) (hn:n<11):(dK p s n).set (n+1) (fL p s (n+1))=dK p s (n+1):=by
  refine rB (by simp[nr]) (nr _ _ _) (fun k hk=> ?_);have h1:=jc p s n k hk;rw[jc p s (n+1) k hk];by_cases e:k=n+1
  · subst e;rw[ai (Nat.le_refl _)];exact pF _ _ _ (by rw[nr];omega)
  · have:((dK p s n).set (n+1) (fL p s (n+1))).getD k 0=(dK p s n).getD k 0:=by
      simp only[List.getD_eq_getElem?_getD];rw[List.getElem?_set_ne (by omega)]
    rw[this,h1];by_cases h2:k≤n
    · rw[ai h2,ai (by omega)]
    · rw[aj h2,aj (by omega)]
def jz (n:Nat):List Bool:=(List.range 12).map (fun k=>decide (k≤n))
theorem vJ:jz 0=gu:=by decide
theorem vI (n:Nat) (hn:n<11):(jz n).set (n+1) true=jz (n+1):=by
  have:∀n:Nat,n<11→(jz n).set (n+1) true=jz (n+1):=by decide
  exact this n hn
theorem oY (n k:Nat) (hk:k<12):(jz n).getD k false=decide (k≤n):=by simp[jz,List.getD_eq_getElem?_getD,hk]
theorem Cj (i:Nat):jD i=1∨jD i=2:=by unfold jD;split<;>simp
theorem Ap {p:List ag} (g:eJ p) (j:Nat) (hj:j≤p.length):iv (p.drop j) (jz j)=true:=by
  refine down (P:=fun j=>iv (p.drop j) (jz j)=true) (n:=p.length) ?_ ?_ j hj
  · rw[kM];rfl
  · intro i hi ih;have hl:=g.1;obtain⟨g0,g1,g2,g3,g4⟩:=g.2 i hi;rw[drop_cons p i hi,iv,Bool.and_eq_true];constructor
    · have t1:=oY i i (by omega);have t2:=oY i (i+1) (by omega);have e1:(p[i].f0).toNat=i:=(by omega);have e2:(p[i].f1).toNat=i+1:=(by omega);unfold iN;rw[e1,e2,t1,t2]
      have hk:p[i].f2=1∨p[i].f2=2:=by
        rcases g2 with h|h
        · exact .inr h
        · rw[h];exact Cj i
      simp only[Bool.and_eq_true,Bool.or_eq_true,decide_eq_true_eq];refine⟨hk,⟨g3,by omega⟩,by omega,by omega,by omega,Nat.le_refl _,?_⟩;simp
    · rw[g1,show((i:Int)+1).toNat=i+1 by omega,vI i (by omega)];exact ih
theorem uI {p:List ag} (g:eJ p):eL p=true:=by
  unfold eL;rw[Bool.and_eq_true,decide_eq_true_eq];refine⟨g.1,?_⟩;have:=Ap g 0 (Nat.zero_le _)
  rwa [vJ]at this
theorem Ce {p:List ag} (g:eJ p) (n:Nat) (hn:n≤p.length):P.fN (p.take n) gu=jz n:=by
  induction n with
  |zero=>rw[vJ];rfl
  |succ n ih=>
   rw[List.take_succ_eq_append_getElem (by omega),P.vH,ih (by omega)];obtain⟨g0,g1,_⟩:=g.2 n (by omega);rw[g1,show((n:Int)+1).toNat=n+1 by omega];exact vI n (by have:=g.1;omega)
theorem ru:∀(t:List Bool) (q:List Int),t.length=q.length→(gg t q=true↔∀k:Nat,k<q.length→if t.getD k false=true then 1≤q.getD k 0∧q.getD k 0≤10000000 else q.getD k 0=0)
  |[],[],_=>by simp[gg]
  |b::t,x::q,h=>by
   have ih:=ru t q (by simpa using h);rw[gg,Bool.and_eq_true,ih];constructor
   · rintro⟨h1,h2⟩ k hk;cases k with
     |zero=>simpa[apply_ite]using h1
     |succ k=>simpa using h2 k (by simpa using hk)
   · intro h2;refine⟨?_,fun k hk=>by simpa using h2 (k+1) (by simpa using hk)⟩;have:=h2 0 (by simp);cases b<;>simpa using this
theorem nE {p:List ag} (g:eJ p) (n:Nat) (hn:n≤p.length) (q:List Int):
    cp p (n:Int) q=true↔q.length=12∧(∀k:Nat,k≤n→1≤q.getD k 0∧q.getD k 0≤10000000)∧(∀k:Nat,n<k→k<12→q.getD k 0=0):=by
  unfold cp;rw[uI g,Bool.true_and,ah (show 0≤(n:Int)∧(n:Int)≤p.length by omega),Bool.true_and,Int.toNat_natCast,Ce g n hn,Bool.and_eq_true,decide_eq_true_eq];have hl:=g.1;constructor
  · rintro⟨h1,h2⟩;rw[ru _ _ (by simp[jz,h1])]at h2;refine⟨h1,fun k hk=> ?_,fun k hk hk2=> ?_⟩
    · have:=h2 k (by omega);rw[oY n k (by omega),ah hk,ai rfl]at this;exact this
    · have:=h2 k (by omega);rw[oY n k (by omega),ax (by omega),aj (by simp)]at this;exact this
  · rintro⟨h1,h2,h3⟩;refine⟨h1,(ru _ _ (by simp[jz,h1])).2 fun k hk=> ?_⟩;rw[oY n k (by omega)];by_cases h:k≤n
    · rw[ah h,ai rfl];exact h2 k h
    · rw[ax h,aj (by simp)];exact h3 k (by omega) (by omega)
theorem qp {p:List ag} (g:eJ p) {s:Int} (hs:155000≤s∧s≤345000) (n:Nat) (hn:n≤p.length):cp p (n:Int) (dK p s n)=true:=by
  have hl:=g.1;refine(nE g n hn _).2 ⟨nr _ _ _,fun k hk=> ?_,fun k hk hk2=> ?_⟩
  · rw[jc p s n k (by omega),ai hk];have:=oy g hs k (by omega);omega
  · rw[jc p s n k hk2,aj (by omega)]
theorem AY {p:List ag} (g:eJ p) {s:Int} (hs:155000≤s∧s≤345000) (j:Nat) (hj:j≤p.length):mr (p.drop j) (dK p s j)=(dK p s p.length,true):=by
  refine down (P:=fun j=>mr (p.drop j) (dK p s j)=(dK p s p.length,true)) (n:=p.length) ?_ ?_ j hj
  · rw[kM];rfl
  · intro i hi ih;have hl:=g.1;obtain⟨g0,g1,_⟩:=g.2 i hi;rw[drop_cons p i hi,mr];have e1:(p[i].f0).toNat=i:=(by omega);have e2:(p[i].f1).toNat=i+1:=by omega
    have e3:ft ((dK p s i).getD i 0) p[i].f2 p[i].f3=fL p s (i+1):=by
      rw[jc p s i i (by omega),ai (Nat.le_refl _)];show _=ft _ (p.getD i df).f2 (p.getD i df).f3;rw[jK p i hi]
    have hf:=oy g hs (i+1) hi;rw[e1,e2,e3,aj (by omega),uE p s i (by omega)];exact ih
theorem AZ {p:List ag} (g:eJ p) {s:Int} (hs:155000≤s∧s≤345000):lI s p=(dK p s p.length,true):=by
  unfold lI;rw[ai ⟨uI g,oc (by omega) (by omega)⟩,←uF p s];exact AY g hs 0 (Nat.zero_le _)
theorem Ar (b:List Int) (hb:b.length≤1048576) (i h:Int) (hi:0≤i):∃p i' h',Ev (fun k=>e5.f k b i h) (p,i',h')∧eJ p∧0≤i':=by
  have key:∀j:Nat,j≤11→∀L:List ag,L.length=11→eJ L→∀i h:Int,0≤i→∃p i' h',Ev (fun k=>e5.l0 k L (j:Int) b i h) (p,i',h')∧eJ p∧0≤i':=by
    refine down (P:=fun j=>∀L:List ag,L.length=11→eJ L→∀i h:Int,0≤i→∃p i' h',Ev (fun k=>e5.l0 k L (j:Int) b i h) (p,i',h')∧eJ p∧0≤i') (n:=11) ?_ ?_
    · intro L hL g i h hi;obtain⟨v,i1,h1,e1,v0,v1,_,j1⟩:=e6 b hb i h 12 hi;obtain⟨u,i2,h2,e2,hu,j2⟩:=uz b hb i1 h1 [11,11,11,v] j1 (by simp);have I:0≤u∧u≤11:=(by simp at hu;have:=v1 (by omega);omega);refine⟨L.take u.toNat,i2,h2,?_,yw g _,j2⟩;refine Ev.step (fun k=>by rw[e5.l0]) ?_;refine aH (by omega) (aQ e1 ?_);dsimp only;refine aQ e2 ?_;dsimp only;refine ak I.1 ?_;refine ak (by omega) ?_;exact Ev.now _
    · intro j hj ih L hL g i h hi;obtain⟨v,i1,h1,e1,v0,v1,_,j1⟩:=e6 b hb i h 1500 hi;obtain⟨o,i2,h2,e2,j2⟩:=uq b hb i1 h1 5 j1;have hr:∀M:List ag,M.length=11→ar M (j:Int)=M.getD j df:=fun M hM=>by rw[ki M j (by omega)];simp[List.getD_eq_getElem?_getD,show j<M.length by omega]
      have gs:∀M:List ag,M.length=11→eJ M→∀x,ri j x→eJ (M.set j x):=fun M hM G x gx=>by
        refine⟨by simp;omega,fun i hi=> ?_⟩;rw[List.getElem_set]
        split
        · rename_i e;subst e;exact gx
        · exact G.2 i _
      have gd:∀M:List ag,M.length=11→eJ M→ri j (M.getD j df):=fun M hM G=>by
        have hj2:j<M.length:=(by omega);have:=G.2 j hj2;simpa[List.getD_eq_getElem?_getD,hj2]using this
      have g1:=gd L hL g;have D:=gs L hL g (⟨(L.getD j df).f0,(L.getD j df).f1,(L.getD j df).f2,v⟩:ag) ⟨g1.1,g1.2.1,g1.2.2.1,v0,v1 (by omega)⟩;obtain⟨Y,hY⟩:∃Y,L.set j (⟨(L.getD j df).f0,(L.getD j df).f1,(L.getD j df).f2,v⟩:ag)=Y:=⟨_,rfl⟩;rw[hY]at D;have z:Y.length=11:=(by rw[←hY];simpa using hL);have g2:=gd Y z D;have gz:=gs Y z D (⟨(Y.getD j df).f0,(Y.getD j df).f1,2,(Y.getD j df).f3⟩:ag) ⟨g2.1,g2.2.1,.inl rfl,g2.2.2.2.1,g2.2.2.2.2⟩;have w1:wrap64 ((j:Int)+1)=((j+1:Nat):Int):=bU (by omega) (by omega);have e3:(some (L.set (j:Int).toNat (⟨(ar L (j:Int)).f0,(ar L (j:Int)).f1,(ar L (j:Int)).f2,v⟩:ag):List ag))=some Y:=(by rw[hr L hL,Int.toNat_natCast,hY]);cases ho:o with
      |true=>
       obtain⟨p,i',h',F,H,jp⟩:=ih _ (by simpa using z) gz i2 h2 j2;refine⟨p,i',h',?_,H,jp⟩;refine Ev.step (fun k=>by rw[e5.l0]) ?_;refine ak (by omega) (aQ e1 ?_);refine ak (by omega) (aQ e3 ?_);refine aQ e2 ?_;refine ak ho ?_;rw[hr Y z,Int.toNat_natCast,w1];exact F
      |false=>
       obtain⟨p,i',h',F,H,jp⟩:=ih Y z D i2 h2 j2;refine⟨p,i',h',?_,H,jp⟩;refine Ev.step (fun k=>by rw[e5.l0]) ?_;refine ak (by omega) (aQ e1 ?_);refine ak (by omega) (aQ e3 ?_);refine aQ e2 ?_;refine aH (by rw[ho];simp) ?_;rw[w1];exact F
  unfold e5.f;obtain⟨g,hg⟩:=tE 0 (by omega);obtain⟨p,i',h',e,g',j⟩:=key 0 (Nat.zero_le _) (iP 0) hg g i h hi;exact⟨p,i',h',Ev.bind (vP 0) e,g',j⟩
end Q
namespace V
open Go.RowKit WW.bc
class From (w0 W:World):Prop where out:Below w0.heap.size w0 W
class au (w:outParam World) (W:World):Prop where out:Below w.heap.size w W
class fY (w:outParam World) (g:Nat):Prop where out:g=w.heap.size
class aJ (W:World) (g:Nat) (cs:outParam (Array Value)) (t:outParam TypeId):Prop where out:W.heap[g]? =some (.cells cs t (0,0))
class Sz (w0 W:World):Prop where out:w0.heap.size≤W.heap.size
class Nw (w0:World) (g:Nat):Prop where out:w0.heap.size≤g
class dQ (g g':Nat):Prop where out:g≠g'
class af (n c:Nat):Prop where out:n≤c
class a6 {α:Type} (d:Kd α) (w0:outParam World) (A:Option Addr) (xs:outParam (List α)):Prop where out:d.C w0 A xs.length xs
class Rd {α:Type} (d:Kd α) (W:World) (A:Option Addr) (xs:List α):Prop where out:d.C W A xs.length xs
class dt {α:Type} (d:Kd α) (e:outParam Nat) (w1 w2:outParam World) (A:Option Addr) (c:outParam Nat) (xs:outParam (List α)):Prop where out:d.R e w2 w1.heap.size (fun _=>True) (.slice A xs.length c) xs
class dI (w1 w2 W:World):Prop where out:∀k,w1.heap.size≤k→k<w2.heap.size→W.heap[k]? =w2.heap[k]?
class kF (w1 w2:World) (g:Nat):Prop where out:g<w1.heap.size∨w2.heap.size≤g
section
variable {w0 w1 w2 w W W':World} {g g':Nat} {cs cs':Array Value} {t t':TypeId} {o:Obj} {n i:Nat} {v:Value}
instance:From w w:=⟨Below.refl _ _⟩
instance [h:From w0 W]:From w0 (W.alloc o):=⟨bM h.out _⟩
instance [h:From w0 W]:From w0 W.drew:=⟨cv h.out⟩
instance [h:From w0 W]:From w0 (W.drewN n):=⟨dp h.out _⟩
instance [h:From w0 W] [hg:Nw w0 g]:From w0 (W.setCell ⟨g,i,none⟩ v):=⟨dZ h.out hg.out⟩
instance [h:au w W] [k:From w0 w]:From w0 W:=⟨aV k.out h.out⟩
instance:Sz w w:=⟨Nat.le_refl _⟩
instance [h:Sz w0 W]:Sz w0 (W.alloc o):=⟨Nat.le_trans h.out (by simp)⟩
instance [h:Sz w0 W]:Sz w0 W.drew:=⟨h.out⟩
instance [h:Sz w0 W]:Sz w0 (W.drewN n):=⟨h.out⟩
instance {p:Addr} [h:Sz w0 W]:Sz w0 (W.setCell p v):=⟨by simpa using h.out⟩
instance [h:au w W] [k:Sz w0 w]:Sz w0 W:=⟨Nat.le_trans k.out h.out.size⟩
instance [h:fY W g] [k:Sz w0 W]:Nw w0 g:=⟨by rw[h.out];exact k.out⟩
instance [h:aJ W g cs t]:aJ (W.alloc o) g cs t:=⟨bl h.out _⟩
instance [h:aJ W g cs t]:aJ W.drew g cs t:=⟨h.out⟩
instance [h:aJ W g cs t]:aJ (W.drewN n) g cs t:=⟨h.out⟩
instance [h:aJ W g cs t] [k:dQ g g']:aJ (W.setCell ⟨g',i,none⟩ v) g cs t:=⟨eO h.out k.out _⟩
instance [h:aJ W g cs t]:aJ (W.setCell ⟨g,i,none⟩ v) g (cs.setIfInBounds i v) t:=⟨nU h.out _ _⟩
instance [h:au w W] [k:aJ w g cs t]:aJ W g cs t:=⟨iU k.out h.out⟩
instance [h:fY W g'] [k:aJ W g cs t]:dQ g g':=⟨by rw[h.out];exact Nat.ne_of_lt (dU k.out)⟩
instance [h:fY W g] [k:aJ W g' cs t]:dQ g g':=⟨by rw[h.out];exact Nat.ne_of_gt (dU k.out)⟩
theorem dB (W:World) (g i:Nat) [h:aJ W g cs t]:W.cell? ⟨g,i,none⟩=cs[i]? :=di h.out i
theorem dC (W:World) (g i:Nat) [h:aJ W g cs t]:W.frozen? ⟨g,i,none⟩=false:=aD h.out i
instance:dI w1 w2 w2:=⟨fun _ _ _=>rfl⟩
theorem nc (h:dI w1 w2 W) {k:Nat} (h1:w1.heap.size≤k) (h2:k<w2.heap.size):k<W.heap.size:=by
  have:=h.out k h1 h2;rw[Array.getElem?_eq_getElem h2]at this;exact(Array.getElem?_eq_some_iff.1 this).1
instance [h:dI w1 w2 W]:dI w1 w2 (W.alloc o):=⟨fun k h1 h2=>(Below.heap_alloc W o k (nc h h1 h2)).trans (h.out k h1 h2)⟩
instance [h:dI w1 w2 W]:dI w1 w2 W.drew:=⟨h.out⟩
instance [h:dI w1 w2 W]:dI w1 w2 (W.drewN n):=⟨h.out⟩
instance [h:au w W] [k:dI w1 w2 w]:dI w1 w2 W:=⟨fun j h1 h2=>(h.out.block j (nc k h1 h2)).trans (k.out j h1 h2)⟩
instance [h:dI w1 w2 W] [k:kF w1 w2 g]:dI w1 w2 (W.setCell ⟨g,i,none⟩ v):=⟨fun j h1 h2=>(Below.heap_setCell W _ v j (by have:=k.out;show j≠g;omega)).trans (h.out j h1 h2)⟩
instance [h:aJ w1 g cs t]:kF w1 w2 g:=⟨.inl (dU h.out)⟩
instance [h:Nw w2 g]:kF w1 w2 g:=⟨.inr h.out⟩
section
variable {α:Type} {d:Kd α} {e:Nat} {A:Option Addr} {c:Nat} {xs:List α}
instance [h:a6 d w0 A xs] [k:From w0 W]:Rd d W A xs:=⟨Kd.mK h.out k.out⟩
theorem oH [h:dt d e w1 w2 A c xs] [k:dI w1 w2 W]:d.R e W w1.heap.size (fun _=>True) (.slice A xs.length c) xs:=
  Kd.cm (Kd.mM (Kd.jV h.out) (fun j hj=>k.out j hj.2.1 hj.2.2.1)) (fun _ _=>trivial)
theorem oG [h:dt d e w1 w2 A c xs] [k:dI w1 w2 W]:d.C W A xs.length xs:=(Kd.cr (oH (h:=h) (k:=k))).2.2
instance [h:dt d e w1 w2 A c xs] [k:dI w1 w2 W]:Rd d W A xs:=⟨oG (h:=h) (k:=k)⟩
theorem ia (h:dt d e w1 w2 A c xs):xs.length≤c:=(Kd.cr h.out).2.1
theorem a8 [h:dt d e w1 w2 A c xs] [k:dI w1 w2 W] [l:From w w1]:d.R e W w.heap.size (fun _=>True) (.slice A xs.length c) xs:=Kd.cD (oH (h:=h) (k:=k)) l.out.size
theorem jl {α:Type} {d:Kd α} {e B:Nat} {w:World} {ok:Nat→Prop} {v:Value} {xs:List α} (h:d.R e w B ok v xs):d.R e w B (fun _=>True) v xs:=Kd.cm h (fun _ _=>trivial)
end
class fz (w0:outParam World) (W:World):Prop where out:Below w0.heap.size w0 W
instance {w0 w W:World} [h:fz w0 W] [k:Sz w w0]:Sz w W:=⟨Nat.le_trans k.out h.out.size⟩
instance {w0 w W:World} [h:fz w0 W] [k:From w w0]:From w W:=⟨aV k.out h.out⟩
instance {w0 W:World} {g:Nat} {cs:Array Value} {t:TypeId} [h:fz w0 W] [k:aJ w0 g cs t]:aJ W g cs t:=⟨iU k.out h.out⟩
instance {w0 w1 w2 W:World} [h:fz w0 W] [k:dI w1 w2 w0]:dI w1 w2 W:=⟨fun j h1 h2=>(h.out.block j (nc k h1 h2)).trans (k.out j h1 h2)⟩
class lV (B:outParam Nat) (w0:outParam World) (W:World):Prop where out:B≤w0.heap.size∧Below B w0 W
class qG (g B:Nat):Prop where out:g<B
class fZ (B:Nat) (w0 W:World):Prop where out:B≤w0.heap.size∧Below B w0 W
section
variable {w0 w W W1:World} {g g' B i n:Nat} {cs:Array Value} {t:TypeId} {o:Obj} {v:Value}
instance [h:fY W g'] [k:aJ W g cs t]:qG g g':=⟨by rw[h.out];exact dU k.out⟩
instance [h:lV B w0 W] [k:aJ w0 g cs t] [l:qG g B]:aJ W g cs t:=⟨(h.out.2.block g l.out).trans k.out⟩
instance [h:lV B w0 W] [k:Sz w w0]:Sz w W:=⟨Nat.le_trans k.out h.out.2.size⟩
instance [h:lV B w0 W] [k:From w w0] [l:Nw w B]:From w W:=⟨sX k.out l.out h.out.2⟩
instance [k:aJ w0 g cs t]:fZ g w0 w0:=⟨⟨Nat.le_of_lt (dU k.out),Below.refl _ _⟩⟩
instance [h:fZ B w0 W]:fZ B w0 (W.alloc o):=⟨⟨h.out.1,h.out.2.alloc (Nat.le_trans h.out.1 h.out.2.size) _⟩⟩
instance [h:fZ B w0 W]:fZ B w0 W.drew:=⟨⟨h.out.1,h.out.2.drew⟩⟩
instance [h:fZ B w0 W]:fZ B w0 (W.drewN n):=⟨⟨h.out.1,dp h.out.2 _⟩⟩
instance [k:au w W] [h:fZ B w0 w]:fZ B w0 W:=⟨⟨h.out.1,sW h.out.2 (Nat.le_trans h.out.1 h.out.2.size) k.out⟩⟩
instance [h:fZ g w0 W]:fZ g w0 (W.setCell ⟨g,i,none⟩ v):=⟨⟨h.out.1,h.out.2.setCell (Nat.le_refl _) _⟩⟩
instance [h:fZ B w0 W] [l:qG B g']:fZ B w0 (W.setCell ⟨g',i,none⟩ v):=⟨⟨h.out.1,h.out.2.setCell (Nat.le_of_lt l.out) _⟩⟩
instance [k:lV B w0 W]:fZ B w0 W:=⟨k.out⟩
end
theorem rL {P:Program} {id:Nat} {ops:Array Oper} {Q:Exit→Act→World→Prop} {a:Act} {W:World} (N:Nat) {g:Nat} (hp:a.tmps.getD N undef= .pointer (some ⟨g,0,none⟩))
    (h:∀g',g'=g→∀w3,au W w3→(Code.region id ops true).wp P Q a w3):(Code.region id ops true).wp P Q a W:=h g rfl W ⟨Below.refl _ _⟩
theorem oF {P:Program} {id:Nat} {ops:Array Oper} {Q:Exit→Act→World→Prop} {a:Act} {W:World} (h:∀w3,au W w3→(Code.region id ops true).wp P Q a w3):(Code.region id ops true).wp P Q a W:=h W ⟨Below.refl _ _⟩
class Mk (W:outParam World) (W':World) (w1 w2:outParam World):Prop where out:Kept W W' (fun k=>w1.heap.size≤k∧k<w2.heap.size)
class o5 (a b w1 w2:World):Prop where out:b.heap.size≤w1.heap.size∨w2.heap.size≤a.heap.size
section
variable {a b w1 w2 W W':World} {g:Nat} {cs:Array Value} {t:TypeId}
instance [h:Sz b w1]:o5 a b w1 w2:=⟨.inl h.out⟩
instance [h:Sz w2 a]:o5 a b w1 w2:=⟨.inr h.out⟩
instance {w0:World} [m:Mk W W' a b] [h:Sz w0 W]:Sz w0 W':=⟨Nat.le_trans h.out m.out.1⟩
instance [m:Mk W W' a b] [h:dI w1 w2 W] [d:o5 a b w1 w2]:dI w1 w2 W':=
  ⟨fun k h1 h2=>(m.out.2 k (nc h h1 h2) (fun hk=>by have:=d.out;omega)).trans (h.out k h1 h2)⟩
instance [m:Mk W W' a b] [h:aJ W g cs t] [d:kF a b g]:aJ W' g cs t:=⟨(m.out.2 g (dU h.out) (fun hk=>by have:=d.out;omega)).trans h.out⟩
end
theorem aM {b:Bool} (h:¬b=true):b=false:=Bool.eq_false_iff.mpr h
theorem bR {b:Bool} (h:(!b)=true):b=false:=(Bool.not_eq_true' _).mp h
theorem bS {b:Bool} (h:¬(!b)=true):b=true:=(Bool.not_eq_false' _).mp (Bool.eq_false_iff.mpr h)
theorem bw {α:Type} [BEq α] [LawfulBEq α] {a b:α} (h:a=b):(a==b)=true:=beq_iff_eq.mpr h
theorem bz {α:Type} [BEq α] [LawfulBEq α] {a b:α} (h:a=b):(a != b)=false:=bne_eq_false_iff_eq.mpr h
theorem bA {α:Type} [BEq α] [LawfulBEq α] {a b:α} (h:a≠b):(a==b)=false:=beq_eq_false_iff_ne.mpr h
theorem bB {α:Type} [BEq α] [LawfulBEq α] {a b:α} (h:a≠b):(a != b)=true:=bne_iff_ne.mpr h
theorem bo {α:Type} {r:α} (h:none=some r):False:=by cases h
theorem bC {α:Type} {c:Prop} [Decidable c] {x y:Option α} {r:α} (h:(if c then x else y)=some r):(c∧x=some r)∨(¬c∧y=some r):=by
  by_cases hc:c
  · exact .inl ⟨hc,by rwa [ai hc]at h⟩
  · exact .inr ⟨hc,by rwa [aj hc]at h⟩
end
end V
namespace V
open Go.RowKit WW.bc
theorem bV {P:Program} {ops:Array Oper} {rest:List Oper} {o:Oper} {a:Act} {Q:Exit→Act→World→Prop} {W:World} {N:Tmp} (cs:Array Value) (t:TypeId) (h:∀g w1,fY W g→au W w1→aJ w1 g cs t→wpList P ops Q rest (a.put o.dst (.pointer (some ⟨g,0,none⟩))) w1)
    (hgd:o.guard=none:=by rfl) (hd:o.dst=some N:=by rfl) (hrun:(execOp a.eval o).run P W= .ok (.value (.pointer (some ⟨W.heap.size,0,none⟩))) (W.alloc (.cells cs t (0,0))):=by first|(go_simp;done)|(go_simp;rfl)):wpList P ops Q (o::rest) a W:=
  Go.Proofs.YtnjfiaekdcekgaaGreatDoor.P.bX (N:=N) (fun g hg w1 hk hb=>h g w1 ⟨hg⟩ ⟨hb⟩ ⟨hk⟩) hgd hd hrun
theorem av {α:Type} {d:Kd α} {e:Nat} {w1 w2:World} {v:Value} {xs:List α} (h:d.R e w2 w1.heap.size (fun _=>True) v xs):∃A c,v= .slice A xs.length c∧dt d e w1 w2 A c xs∧af xs.length c:=by
  obtain⟨A,c,rfl⟩:=Kd.cJ h;exact⟨A,c,rfl,⟨h⟩,⟨(Kd.cr h).2.1⟩⟩
theorem bI {α β:Type} {x:Option α} {f:α→Option β} {b:β} (h:x.bind f=some b):∃a,x=some a∧f a=some b:=ay h
end V
namespace P
set_option maxHeartbeats 8000000
set_option maxRecDepth 100000
set_option synthInstance.maxHeartbeats 400000
set_option synthInstance.maxSize 100000
open Go.RowKit WW.bc WW.bY WW.bZ V
attribute [local go_sem] dB dC
attribute [local go_sem] cP cT cS cW cR cV cQ cU
def iA.f (z:List (ag)) (u:Int) (D:List Int):Option ((List (ag))×Int×List Int):=(jo.f z).bind fun t216=>((nA.f D).bind fun t219=>(some (t216,u,t219)))
theorem iA.c (F:Option Addr) (I:Nat) (u:List (ag)) (H:Int) (G:Option Addr) (J:Nat) (z:List Int) (r1:List (ag)) (r2:Int) (r3:List Int) (w:World) (U:Kd.C aN w F u.length u) (K:u.length≤I) (V:Kd.C (Kd.int .i64) w G z.length z) (O:z.length≤J) (h:iA.f u H z=some (r1,r2,r3)):
  Calls Tryz.prog 68 #[.agg #[.slice F u.length I,.int .i64 H,.slice G z.length J]] w fun e w'=>∃X ad:Value,e= .returned (.agg #[X,.int .i64 r2,ad])∧Kd.R aN 110 w' w.heap.size (fun _=>True) X r1∧Kd.R (Kd.int .i64) 3 w' w.heap.size (fun _=>True) ad r3∧Below w.heap.size w w':=by
 replace U:=a6.mk U;replace K:=af.mk K;replace V:=a6.mk V;replace O:=af.mk O;unfold iA.f at h;have ao:=Tryz.underlying27
 all_goals go_enter Tryz.func68,Tryz.ntmps68
 all_goals go_wp2_with ((first
  |((with_reducible refine aC (N:=1) rfl ?_);refine bV #[.slice F u.length I,.int .i64 H,.slice G z.length J] 27 fun g w1 j1 j2 al=> ?_)
  |((with_reducible refine aC (N:=2) rfl ?_);refine bV #[.slice none 0 0,.int .i64 0,.slice none 0 0] 27 fun g w1 j1 j2 al=> ?_)
  |((with_reducible refine oF ?_);intro w3 aq;refine rL 2 (by rfl) ?_;intro g hg w4 ap;subst hg;go_region_held3 (fun w'=>lV g w4 w') (first|exact⟨fZ.out⟩|skip) (first|(go_at_call 107;replace h:=bI h;obtain⟨t,A,h⟩:=h;(try dsimp only at h);refine(jo.c _ _ _ _ _ Rd.out af.out A).mono ?_;rintro e w2 ⟨v0,rfl,D,hb⟩;obtain⟨ak,b0,rfl,j0,q0⟩:=av D;have am:=au.mk hb;clear A D hb;(repeat' first|((with_reducible replace h:=bC h);rcases h with ⟨hc,h⟩|⟨hc,h⟩<;>first|exact(bo h).elim|exact absurd hc (by decide)|subst hc|(replace hc:=aM hc;subst hc)|(have hd:=bw hc;have he:=bz hc;clear hc)|(have hd:=bA hc;have he:=bB hc)|(have hd:=ax hc)|(have hd:=ah hc)|skip));(try have hn:decide (0<t.length)=true:=ah (by omega));(try have hn:decide (0<t.length)=false:=ax (by omega)))|(go_at_call 108;replace h:=bI h;obtain⟨t,A,h⟩:=h;(try dsimp only at h);refine(nA.c _ _ _ _ _ Rd.out af.out A).mono ?_;rintro e w2 ⟨v0,rfl,D,hb⟩;obtain⟨ak,b0,rfl,j0,q0⟩:=av D;have am:=au.mk hb;clear A D hb));(repeat' first|((with_reducible replace h:=bC h);rcases h with ⟨hc,h⟩|⟨hc,h⟩<;>first|exact(bo h).elim|exact absurd hc (by decide)|subst hc|(replace hc:=aM hc;subst hc)|(have hd:=bw hc;have he:=bz hc;clear hc)|(have hd:=bA hc;have he:=bB hc)|(have hd:=ax hc)|(have hd:=ah hc)|skip));all_goals(try have hn:decide (0<t.length)=true:=ah (by omega));all_goals(try have hn:decide (0<t.length)=false:=ax (by omega)))))
 all_goals simp only[Option.some.injEq,Prod.mk.injEq]at h
 all_goals obtain⟨rfl,rfl,rfl⟩:=h
 all_goals refine bodyPost_ret (results_cell_row rfl _ _ _ _ _ (0,0) _ rfl aJ.out Tryz.underlying27 rfl (by kernel_rfl)) rfl ?_
 all_goals exact⟨_,_,rfl,(by first|exact a8|exact Kd.aY _ _ _ _ _),(by first|exact a8|exact Kd.aY _ _ _ _ _),From.out⟩
def fp.f (G:List (ag)) (z:Int) (H:List Int) (D:Int) (F:Int) (I:List (S64)):Option ((List (ag))×Int×List Int×Int×Int×(List (S64))):=(iA.f G z H).bind fun u=>((iz.f I).bind fun t237=>(some (u.1,u.2.1,u.2.2,D,F,t237)))
theorem fp.c (G:Option Addr) (U:Nat) (u:List (ag)) (J:Int) (H:Option Addr) (V:Nat) (z:List Int) (K:Int) (O:Int) (I:Option Addr) (X:Nat) (D:List (S64)) (r1:List (ag)) (r2:Int) (r3:List Int) (ar:Int) (aB:Int) (aD:List (S64)) (w:World) (ao:Kd.C aN w G u.length u) (ad:u.length≤U) (ap:Kd.C (Kd.int .i64) w H z.length z) (ak:z.length≤V) (aq:Kd.C aK w I D.length D) (al:D.length≤X) (h:fp.f u J z K O D=some (r1,r2,r3,ar,aB,aD)):
  Calls Tryz.prog 30 #[.agg #[.slice G u.length U,.int .i64 J,.slice H z.length V,.int .i64 K,.int .i64 O,.slice I D.length X]] w fun e w'=>∃aE aF aG:Value,e= .returned (.agg #[aE,.int .i64 r2,aF,.int .i64 ar,.int .i64 aB,aG])∧Kd.R aN 110 w' w.heap.size (fun _=>True) aE r1∧Kd.R (Kd.int .i64) 3 w' w.heap.size (fun _=>True) aF r3∧Kd.R aK 64 w' w.heap.size (fun _=>True) aG aD∧Below w.heap.size w w':=by
 replace ao:=a6.mk ao;replace ad:=af.mk ad;replace ap:=a6.mk ap;replace ak:=af.mk ak;replace aq:=a6.mk aq;replace al:=af.mk al;unfold fp.f at h;have aO:=Tryz.underlying30
 all_goals go_enter Tryz.func30,Tryz.ntmps30
 all_goals go_wp2_with ((first
  |((with_reducible refine aC (N:=1) rfl ?_);refine bV #[.slice G u.length U,.int .i64 J,.slice H z.length V,.int .i64 K,.int .i64 O,.slice I D.length X] 30 fun g w1 j1 j2 aI=> ?_)
  |((with_reducible refine aC (N:=2) rfl ?_);refine bV #[.slice none 0 0,.int .i64 0,.slice none 0 0,.int .i64 0,.int .i64 0,.slice none 0 0] 30 fun g w1 j1 j2 aI=> ?_)
  |((with_reducible refine oF ?_);intro w3 aQ;refine rL 2 (by rfl) ?_;intro g hg w4 aP;subst hg;go_region_held3 (fun w'=>lV g w4 w') (first|exact⟨fZ.out⟩|skip) (first|(go_at_call 68;replace h:=bI h;obtain⟨⟨t1,t2,t3⟩,A,h⟩:=h;(try dsimp only at h);refine(iA.c _ _ _ _ _ _ _ _ _ _ _ Rd.out af.out Rd.out af.out A).mono ?_;rintro e w2 ⟨v0,v1,rfl,F,am,hb⟩;obtain⟨aH,b0,rfl,j0,q0⟩:=av F;obtain⟨B1,b1,rfl,j1,q1⟩:=av am;have aL:=au.mk hb;clear A F am hb;(repeat' first|((with_reducible replace h:=bC h);rcases h with ⟨hc,h⟩|⟨hc,h⟩<;>first|exact(bo h).elim|exact absurd hc (by decide)|subst hc|(replace hc:=aM hc;subst hc)|(have hd:=bw hc;have he:=bz hc;clear hc)|(have hd:=bA hc;have he:=bB hc)|(have hd:=ax hc)|(have hd:=ah hc)|skip)))|(go_at_call 69;replace h:=bI h;obtain⟨t,A,h⟩:=h;(try dsimp only at h);refine(iz.c _ _ _ _ _ Rd.out af.out A).mono ?_;rintro e w2 ⟨v0,rfl,F,hb⟩;obtain⟨aH,b0,rfl,j0,q0⟩:=av F;have aL:=au.mk hb;clear A F hb));(repeat' first|((with_reducible replace h:=bC h);rcases h with ⟨hc,h⟩|⟨hc,h⟩<;>first|exact(bo h).elim|exact absurd hc (by decide)|subst hc|(replace hc:=aM hc;subst hc)|(have hd:=bw hc;have he:=bz hc;clear hc)|(have hd:=bA hc;have he:=bB hc)|(have hd:=ax hc)|(have hd:=ah hc)|skip));all_goals(try have hn:decide (0<t.length)=true:=ah (by omega));all_goals(try have hn:decide (0<t.length)=false:=ax (by omega)))))
 all_goals simp only[Option.some.injEq,Prod.mk.injEq]at h
 all_goals obtain⟨rfl,rfl,rfl,rfl,rfl,rfl⟩:=h
 all_goals refine bodyPost_ret (results_cell_row rfl _ _ _ _ _ (0,0) _ rfl aJ.out Tryz.underlying30 rfl (by kernel_rfl)) rfl ?_
 all_goals exact⟨_,_,_,rfl,(by first|exact a8|exact Kd.aY _ _ _ _ _),(by first|exact a8|exact Kd.aY _ _ _ _ _),(by first|exact a8|exact Kd.aY _ _ _ _ _),From.out⟩
def eD.f (G:List (ag)) (z:Int) (H:List Int) (D:Int) (F:Int) (I:List (S64)):Option ((List (ag))×Int×List Int×Int×Int×(List (S64))):=(fc.f G z H).bind fun u=>((im.f I).bind fun J=>(some (u.1,u.2.1,u.2.2,D,F,J)))
theorem eD.c (G:Option Addr) (U:Nat) (u:List (ag)) (J:Int) (H:Option Addr) (V:Nat) (z:List Int) (K:Int) (O:Int) (I:Option Addr) (X:Nat) (D:List (S64)) (r1:List (ag)) (r2:Int) (r3:List Int) (ar:Int) (aB:Int) (aD:List (S64)) (w:World) (ao:Kd.C aN w G u.length u) (ad:u.length≤U) (ap:Kd.C (Kd.int .i64) w H z.length z) (ak:z.length≤V) (aq:Kd.C aK w I D.length D) (al:D.length≤X) (h:eD.f u J z K O D=some (r1,r2,r3,ar,aB,aD)):
  Calls Tryz.prog 27 #[.agg #[.slice G u.length U,.int .i64 J,.slice H z.length V,.int .i64 K,.int .i64 O,.slice I D.length X]] w fun e w'=>∃aE aF aG:Value,e= .returned (.agg #[aE,.int .i64 r2,aF,.int .i64 ar,.int .i64 aB,aG])∧Kd.R aN 110 w' w.heap.size (fun _=>True) aE r1∧Kd.R (Kd.int .i64) 3 w' w.heap.size (fun _=>True) aF r3∧Kd.R aK 64 w' w.heap.size (fun _=>True) aG aD∧Below w.heap.size w w':=by
 replace ao:=a6.mk ao;replace ad:=af.mk ad;replace ap:=a6.mk ap;replace ak:=af.mk ak;replace aq:=a6.mk aq;replace al:=af.mk al;unfold eD.f at h;have aO:=Tryz.underlying30
 all_goals go_enter Tryz.func27,Tryz.ntmps27
 all_goals go_wp2_with ((first
  |((with_reducible refine aC (N:=1) rfl ?_);refine bV #[.slice G u.length U,.int .i64 J,.slice H z.length V,.int .i64 K,.int .i64 O,.slice I D.length X] 30 fun g w1 j1 j2 aI=> ?_)
  |((with_reducible refine aC (N:=2) rfl ?_);refine bV #[.slice none 0 0,.int .i64 0,.slice none 0 0,.int .i64 0,.int .i64 0,.slice none 0 0] 30 fun g w1 j1 j2 aI=> ?_)
  |((with_reducible refine oF ?_);intro w3 aQ;refine rL 2 (by rfl) ?_;intro g hg w4 aP;subst hg;go_region_held3 (fun w'=>lV g w4 w') (first|exact⟨fZ.out⟩|skip) (first|(go_at_call 53;replace h:=bI h;obtain⟨⟨t1,t2,t3⟩,A,h⟩:=h;(try dsimp only at h);refine(fc.c _ _ _ _ _ _ _ _ _ _ _ Rd.out af.out Rd.out af.out A).mono ?_;rintro e w2 ⟨v0,v1,rfl,F,am,hb⟩;obtain⟨aH,b0,rfl,j0,q0⟩:=av F;obtain⟨B1,b1,rfl,j1,q1⟩:=av am;have aL:=au.mk hb;clear A F am hb;(repeat' first|((with_reducible replace h:=bC h);rcases h with ⟨hc,h⟩|⟨hc,h⟩<;>first|exact(bo h).elim|exact absurd hc (by decide)|subst hc|(replace hc:=aM hc;subst hc)|(have hd:=bw hc;have he:=bz hc;clear hc)|(have hd:=bA hc;have he:=bB hc)|(have hd:=ax hc)|(have hd:=ah hc)|skip)))|(go_at_call 54;replace h:=bI h;obtain⟨t,A,h⟩:=h;(try dsimp only at h);refine(im.c _ _ _ _ _ Rd.out af.out A).mono ?_;rintro e w2 ⟨v0,rfl,F,hb⟩;obtain⟨aH,b0,rfl,j0,q0⟩:=av F;have aL:=au.mk hb;clear A F hb));(repeat' first|((with_reducible replace h:=bC h);rcases h with ⟨hc,h⟩|⟨hc,h⟩<;>first|exact(bo h).elim|exact absurd hc (by decide)|subst hc|(replace hc:=aM hc;subst hc)|(have hd:=bw hc;have he:=bz hc;clear hc)|(have hd:=bA hc;have he:=bB hc)|(have hd:=ax hc)|(have hd:=ah hc)|skip));all_goals(try have hn:decide (0<t.length)=true:=ah (by omega));all_goals(try have hn:decide (0<t.length)=false:=ax (by omega)))))
 all_goals simp only[Option.some.injEq,Prod.mk.injEq]at h
 all_goals obtain⟨rfl,rfl,rfl,rfl,rfl,rfl⟩:=h
 all_goals refine bodyPost_ret (results_cell_row rfl _ _ _ _ _ (0,0) _ rfl aJ.out Tryz.underlying30 rfl (by kernel_rfl)) rfl ?_
 all_goals exact⟨_,_,_,rfl,(by first|exact a8|exact Kd.aY _ _ _ _ _),(by first|exact a8|exact Kd.aY _ _ _ _ _),(by first|exact a8|exact Kd.aY _ _ _ _ _),From.out⟩
end P
namespace V
open Go.RowKit WW.bc
class dP (W:World) (a:Addr) (v:outParam Value):Prop where out:W.cell? a=some v
class su (a:Addr) (g:Nat):Prop where out:a.block≠g
section
variable {w w0 W:World} {a:Addr} {v u:Value} {o:Obj} {n g i:Nat}
theorem pw (h:dP W a v):a.block<W.heap.size:=World.block_lt_of_cell? W a h.out
instance [h:dP W a v]:dP (W.alloc o) a v:=⟨((bM (RowKit.Below.refl W.heap.size W) o).cell (pw h)).trans h.out⟩
instance [h:dP W a v]:dP W.drew a v:=⟨h.out⟩
instance [h:dP W a v]:dP (W.drewN n) a v:=⟨h.out⟩
instance [b:au w W] [h:dP w a v]:dP W a v:=⟨(b.out.cell (pw h)).trans h.out⟩
instance [b:fz w0 W] [h:dP w0 a v]:dP W a v:=⟨(b.out.cell (pw h)).trans h.out⟩
instance [h:fY W g] [k:dP W a v]:su a g:=⟨by rw[h.out];exact Nat.ne_of_lt (pw k)⟩
instance [h:dP W a v] [k:su a g]:dP (W.setCell ⟨g,i,none⟩ u) a v:=⟨(cell_far k.out u).trans h.out⟩
theorem gT (W:World) (a:Addr) {v:Value} [h:dP W a v]:W.cell? a=some v:=h.out
end
class nI (w1 w2:outParam World) (g:Nat):Prop where out:w1.heap.size≤g∧g<w2.heap.size
class eH (e:outParam Nat) (w1:outParam World) (W:World) (g:Nat) (c:outParam Nat) (xs:outParam (List Int)):Prop where out:(Kd.int .i64).R e W w1.heap.size (fun _=>True) (.slice (some ⟨g,0,none⟩) xs.length c) xs
class At {α:Type} (d:Kd α) (e:outParam Nat) (w1:outParam World) (W:World) (A:Option Addr) (c:outParam Nat) (xs:outParam (List α)):Prop where out:d.R e W w1.heap.size (fun _=>True) (.slice A xs.length c) xs
class nJ (i:Int) (xs:List Int):Prop where out:0≤i∧i<xs.length
class bj (w0:outParam World) (a:Addr) (v:outParam Value):Prop where out:w0.cell? a=some v
class bK {α:Type} (d:Kd α) (e t:Nat):Prop where out:∀q,q∈e::d.E→q≠t
section
variable {w0 w1 w2 a b w W:World} {g g' e c i n t B:Nat} {A:Option Addr} {xs ys:List Int} {v:Int} {u:Value} {o:Obj} {cs:Array Value}
instance [h:dt (Kd.int .i64) e w1 w2 (some ⟨g,0,none⟩) c xs]:nI w1 w2 g:=⟨by
  have:=(Kd.jV h.out).1 g (by simp[Value.ownBlock]);exact⟨this.2.1,this.2.2.1⟩⟩
instance [h:nI w1 w2 g] [k:kF w1 w2 g']:dQ g' g:=⟨by have:=h.out;have:=k.out;omega⟩
instance [h:nI w1 w2 g] [k:kF w1 w2 g']:dQ g g':=⟨by have:=h.out;have:=k.out;omega⟩
instance [h:nI w1 w2 g] [k:Sz w0 w1]:Nw w0 g:=⟨Nat.le_trans k.out h.out.1⟩
instance [h:nI w1 w2 g] [k:o5 w1 w2 a b]:kF a b g:=⟨by have:=h.out;have:=k.out;omega⟩
instance [h:dt (Kd.int .i64) e w1 w2 (some ⟨g,0,none⟩) c xs] [k:dI w1 w2 W]:eH e w1 W g c xs:=⟨oH (h:=h) (k:=k)⟩
instance [h:eH e w1 W g c xs]:eH e w1 (W.alloc o) g c xs:=⟨Kd.cC h.out o⟩
instance [h:eH e w1 W g c xs]:eH e w1 W.drew g c xs:=⟨Kd.cq h.out⟩
instance [h:eH e w1 W g c xs]:eH e w1 (W.drewN n) g c xs:=⟨Kd.cM h.out n⟩
instance [k:au w W] [h:eH e w1 w g c xs]:eH e w1 W g c xs:=⟨Kd.b6 h.out k.out⟩
instance [k:fz w W] [h:eH e w1 w g c xs]:eH e w1 W g c xs:=⟨Kd.b6 h.out k.out⟩
instance [h:eH e w1 W g c xs]:eH e w1 (W.setCell ⟨g,i,none⟩ (.int .i64 v)) g c (xs.set i v):=⟨by
  have:=Kd.wY h.out (i:Int) v;rw[List.length_set];exact this⟩
instance [h:eH e w1 W g c xs] [k:dQ g g']:eH e w1 (W.setCell ⟨g',i,none⟩ u) g c xs:=⟨Kd.cm (Kd.dM (p:=⟨g',i,none⟩) (ok:=fun k=>k=g) (Kd.sF (Kd.ox h.out) (fun k hk=>by simp[Value.ownBlock]at hk;exact hk.symm)) (fun j hj=>by rw[hj];exact k.out) u) (fun _ _=>trivial)⟩
theorem iV (W:World) (g:Nat) (i:Int) [h:eH e w1 W g c xs] [k:nJ i xs]:W.cell? ⟨g,i.toNat,none⟩=some (.int .i64 (rd xs i)):=(Kd.kG 0 h.out i k.out.1 k.out.2).1
theorem iW (W:World) (g:Nat) (i:Int) [h:eH e w1 W g c xs] [k:nJ i xs]:W.frozen? ⟨g,i.toNat,none⟩=false:=(Kd.kG 0 h.out i k.out.1 k.out.2).2
theorem jI (W:World) (g:Nat) [h:eH e w1 W g c xs] [k:nJ 0 xs]:W.cell? ⟨g,0,none⟩=some (.int .i64 (rd xs 0)):=iV W g 0
theorem jJ (W:World) (g:Nat) [h:eH e w1 W g c xs] [k:nJ 0 xs]:W.frozen? ⟨g,0,none⟩=false:=iW W g 0
theorem bQ {i:Int} (j:dt (Kd.int .i64) e w1 w2 A c xs) (h0:0≤i) (h1:i<(xs.length:Int)):∃g,A=some ⟨g,0,none⟩∧nJ i xs:=by
  obtain⟨g,c',h,_⟩:=Kd.kH j.out (by omega);injection h with h _ _;exact⟨g,h,⟨⟨h0,h1⟩⟩⟩
theorem bO {i:Int} (j:a6 (Kd.int .i64) w0 A xs) (h0:0≤i) (h1:i<(xs.length:Int)):∃ad,A=some ad∧bj w0 (ad.add i.toNat) (.int .i64 (rd xs i)):=by
  obtain⟨ad,e,h⟩:=Kd.dY j.out i h0 h1;exact⟨ad,e,⟨h⟩⟩
instance {p:Addr} [h:bj w0 p u] [k:From w0 W]:dP W p u:=⟨(k.out.cell (World.block_lt_of_cell? w0 p h.out)).trans h.out⟩
theorem bP {β:Type} {i:Nat} {f:List Int→Option β} {r:β} (h:(some (xs.set i v)).bind f=some r):xs.length=(xs.set i v).length∧f (xs.set i v)=some r:=⟨(List.length_set ..).symm,h⟩
instance [h:af xs.length c]:af (xs.set i v).length c:=⟨by rw[List.length_set];exact h.out⟩
theorem yM [h:eH e w1 W g c xs] [l:From w w1]:(Kd.int .i64).R e W w.heap.size (fun _=>True) (.slice (some ⟨g,0,none⟩) xs.length c) xs:=Kd.cD h.out l.out.size
theorem dD {m:Nat} [h:eH e w1 W g c xs] [l:From w w1] (hm:m=xs.length):(Kd.int .i64).R e W w.heap.size (fun _=>True) (.slice (some ⟨g,0,none⟩) m c) xs:=by rw[hm];exact yM
instance [h:eH e w1 W g c xs]:Rd (Kd.int .i64) W (some ⟨g,0,none⟩) xs:=⟨(Kd.cr h.out).2.2⟩
section
variable {α:Type} {d:Kd α} {zs:List α} {c':Nat}
instance [h:dt d t w1 w2 A c zs] [k:dI w1 w2 W] [l:eH e w W g c' ys] [m:bK d t e]:At d t w1 (W.setCell ⟨g,i,none⟩ (.int .i64 v)) A c zs:=⟨Kd.mN (v:= .slice (some ⟨g,0,none⟩) ys.length c') (oH (h:=h) (k:=k)) (Kd.mR l.out) m.out (Kd.mO l.out (i:Int) v).2⟩
instance [h:At d t w1 W A c zs] [l:eH e w W g c' ys] [m:bK d t e]:At d t w1 (W.setCell ⟨g,i,none⟩ (.int .i64 v)) A c zs:=⟨Kd.mN (v:= .slice (some ⟨g,0,none⟩) ys.length c') h.out (Kd.mR l.out) m.out (Kd.mO l.out (i:Int) v).2⟩
instance [h:At d t w1 W A c zs]:At d t w1 (W.alloc o) A c zs:=⟨Kd.cC h.out o⟩
instance [h:At d t w1 W A c zs]:At d t w1 W.drew A c zs:=⟨Kd.cq h.out⟩
instance [h:At d t w1 W A c zs]:At d t w1 (W.drewN n) A c zs:=⟨Kd.cM h.out n⟩
instance [k:au w W] [h:At d t w1 w A c zs]:At d t w1 W A c zs:=⟨Kd.b6 h.out k.out⟩
instance [k:fz w W] [h:At d t w1 w A c zs]:At d t w1 W A c zs:=⟨Kd.b6 h.out k.out⟩
instance [h:At d t w1 W A c zs] [k:aJ W g cs e] [m:bK d t e]:At d t w1 (W.setCell ⟨g,i,none⟩ u) A c zs:=⟨Kd.cm (Kd.dM (p:=⟨g,i,none⟩) (Kd.lz h.out k.out m.out) (fun _ hk=>hk.2) u) (fun _ _=>trivial)⟩
theorem bG [h:At d t w1 W A c zs] [l:From w w1]:d.R t W w.heap.size (fun _=>True) (.slice A zs.length c) zs:=Kd.cD h.out l.out.size
instance [h:At d t w1 W A c zs]:Rd d W A zs:=⟨(Kd.cr h.out).2.2⟩
end
end
end V
namespace V
open Go.RowKit WW.bc WW.bY
section
variable {P:Program} {ops:Array Oper} {Q:Exit→Act→World→Prop} {T:Bool×List (List Nat×List Nat)} {B:List Nat} {oi:Oper} {v:Value} {fuel:Nat} {l l':Array Bool} {ds:List Nat} {a a':Act} {w w1 w3:World}
abbrev Sb (w3:World):World→Prop:=fun w'=>Below w3.heap.size w3 w'
theorem qR {id n:Nat} (hT:aW .any ops=T) (hB:bL T.2 B=true) (h:ae (aW .any ops=T)→ae (bL T.2 B=true)→∀w3,au w w3→∀u,au w3 u→Sb w3 u→bm P .any ops Q (Sb w3) ds n l a u)
    (hn:ops.size=n:=by rfl) (hl:Array.replicate n false=l:=by rfl) (hm:P.follows .mixedOrders=true:=by kernel_rfl):(Code.region id ops true).wp P Q a w:=
  fX (S:=Sb w) (ds:=ds) l hm hn hl (cv (Below.refl _ _)) fun hS=>h ⟨hT⟩ ⟨hB⟩ w ⟨Below.refl _ _⟩ w.drew ⟨hS⟩ hS
theorem qA (i:Nat) (N:Option Tmp) (u:ae (aW .any ops=T)) (h:bm P .any ops Q (Sb w3) ds fuel l' a' w) (hi:ops[i]? =some oi:=by rfl) (hN:oi.dst=N:=by rfl)
    (hl:l.setIfInBounds i true=l':=by simp only[List.setIfInBounds_toArray,List.set_cons_zero,List.set_cons_succ];rfl) (hc:mS T l.toList l'.toList i=true:=by kernel_rfl)
    (hQ:∀c a w,Q (.panic c) (a.put oi.dst v) w→Q (.panic c) a w:=by exact fun _ _ _ h=>h) (hw:Region.wanted oi (yielded ops a.tmps)=true:=by rfl)
    (hy:∀w',(execOp a.eval oi).run P w'= .ok (.value v) w':=by intro w';go_simp;with_reducible rfl) (ha:a.put N v=a':=by simp only[Act.put,List.setIfInBounds_toArray,List.set_cons_zero,List.set_cons_succ,bJ,cu];rfl):
    bm P .any ops Q (Sb w3) ds (fuel+1) l a w:=pZ l' hi hN (pc u.out hc) hQ (Or.inl ⟨hw,hy⟩) ha h
theorem qT (i:Nat) (N:Option Tmp) (u:ae (aW .any ops=T)) (HW:ae (bL T.2 B=true)) (hS:Sb w3 w) (h:bm P .any ops Q (Sb w3) ds fuel l' a' w) (hi:ops[i]? =some oi:=by rfl) (hN:oi.dst=N:=by rfl)
    (hl:l.setIfInBounds i true=l':=by simp only[List.setIfInBounds_toArray,List.set_cons_zero,List.set_cons_succ];rfl) (hc:oT T B ds l.toList l'.toList i=true:=by kernel_rfl)
    (hQ:∀c a w,Q (.panic c) (a.put oi.dst v) w→Q (.panic c) a w:=by exact fun _ _ _ h=>h) (hw:Region.wanted oi (yielded ops a.tmps)=true:=by rfl)
    (hy:∀w',fz w3 w'→(execOp a.eval oi).run P w'= .ok (.value v) w':=by intro w' jS;go_simp;with_reducible rfl) (ha:a.put N v=a':=by simp only[Act.put,List.setIfInBounds_toArray,List.set_cons_zero,List.set_cons_succ,bJ,cu];rfl):
    bm P .any ops Q (Sb w3) ds (fuel+1) l a w:=oU l' hi hN (r9 u.out HW.out hc) hQ (Or.inl ⟨hw,fun w' hS=>hy w' ⟨hS⟩⟩) hS ha h
theorem qB {a':Nat→Act} (i N:Nat) (cs:Array Value) (t:TypeId) (u:ae (aW .any ops=T)) (hS:Sb w3 w) (h:∀g,fY w g→∀w1,au w w1→aJ w1 g cs t→Sb w3 w1→bm P .any ops Q (Sb w3) ds fuel l' (a' g) w1) (hi:ops[i]? =some oi:=by rfl) (hN:oi.dst=some N:=by rfl)
    (hl:l.setIfInBounds i true=l':=by simp only[List.setIfInBounds_toArray,List.set_cons_zero,List.set_cons_succ];rfl) (hc:(eP T.2 l.toList==[i]&&l.toList.set i true==l'.toList)=true:=by kernel_rfl) (hd:i∉ds:=by decide) (hw:Region.wanted oi (yielded ops a.tmps)=true:=by rfl)
    (hr:(execOp a.eval oi).run P w= .ok (.value (.pointer (some ⟨w.heap.size,0,none⟩))) (w.alloc (.cells cs t (0,0))):=by first|(go_simp;done)|(go_simp;rfl))
    (ha:∀g,a.put (some N) (.pointer (some ⟨g,0,none⟩))=a' g:=by intro g;simp only[Act.put,List.setIfInBounds_toArray,List.set_cons_zero,List.set_cons_succ,bJ,cu];rfl):
    bm P .any ops Q (Sb w3) ds (fuel+1) l a w:=dN l' hi hN (dF u.out hc) hd fun K hK=>by
  rw[←hN];refine sZ hw hN hr fun g hg w1 hb hk=> ?_;have h1:Sb w3 w1:=aV hS hk;exact hK.out _ _ h1 fun _=>by rw[hN,ha];exact h g ⟨hg⟩ w1 ⟨hk⟩ ⟨hb⟩ h1
theorem qS (i:Nat) (u:ae (aW .any ops=T)) (h:Sb w3 w1→bm P .any ops Q (Sb w3) ds fuel l' a w1) (hi:ops[i]? =some oi:=by rfl) (hN:oi.dst=none:=by rfl)
    (hl:l.setIfInBounds i true=l':=by simp only[List.setIfInBounds_toArray,List.set_cons_zero,List.set_cons_succ];rfl) (hc:(eP T.2 l.toList==[i]&&l.toList.set i true==l'.toList)=true:=by kernel_rfl) (hd:i∉ds:=by decide) (hw:Region.wanted oi (yielded ops a.tmps)=true:=by rfl)
    (hr:(execOp a.eval oi).run P w= .ok .skip w1:=by go_simp;rfl) (hS:From w3 w1:=by infer_instance):
    bm P .any ops Q (Sb w3) ds (fuel+1) l a w:=dN l' hi hN (dF u.out hc) hd fun K hK=>p9 hw hN hr (hK.out _ _ hS.out fun _=>h hS.out)
theorem qL (i:Nat) (u:ae (aW .any ops=T)) (h:bm P .any ops Q (Sb w3) ds fuel l' a w1) (hi:ops[i]? =some oi:=by rfl) (hN:oi.dst=none:=by rfl)
    (hl:l.setIfInBounds i true=l':=by simp only[List.setIfInBounds_toArray,List.set_cons_zero,List.set_cons_succ];rfl) (hc:(eP T.2 l.toList==[i]&&l.toList.set i true==l'.toList)=true:=by kernel_rfl) (hd:i∈ds:=by decide) (hw:Region.wanted oi (yielded ops a.tmps)=true:=by rfl)
    (hr:(execOp a.eval oi).run P w= .ok .skip w1:=by go_simp;rfl):
    bm P .any ops Q (Sb w3) ds (fuel+1) l a w:=tU l' hi hN (dF u.out hc) hd fun K hK=>p9 hw hN hr (hK.out _ _ h)
theorem qC {f:FuncId} {args:Array Value} {xs:Array Operand} {ts:Array TypeId} (i N:Nat) {fn:Func} (hf:P.funcs[f]? =some fn) (u:ae (aW .any ops=T)) (h:∀K:Act→World→Prop,(∀a' w',Sb w3 w'→(Sb w3 w'→bm P .any ops Q (Sb w3) ds fuel l' a' w')→K a' w')→Calls P f args w fun e w'=>∃v,e= .returned v∧K (a.put (some N) v) w') (hi:ops[i]? =some oi:=by rfl) (hN:oi.dst=some N:=by rfl)
    (hl:l.setIfInBounds i true=l':=by simp only[List.setIfInBounds_toArray,List.set_cons_zero,List.set_cons_succ];rfl) (hc:(eP T.2 l.toList==[i]&&l.toList.set i true==l'.toList)=true:=by kernel_rfl) (hd:i∉ds:=by decide) (hw:Region.wanted oi (yielded ops a.tmps)=true:=by rfl)
    (hop:oi.op= .call {callee:= .value (.func f),args:=xs,argTypes:=ts}:=by rfl) (hname:(fn.name== "runtime.NumGoroutine")=false:=by kernel_rfl) (hb:fn.body.isSome=true:=by rfl)
    (hargs:xs.map a.eval=args:=by(try simp only[List.map_toArray,List.map_cons,List.map_nil]);first|done|rfl):
    bm P .any ops Q (Sb w3) ds (fuel+1) l a w:=dN l' hi hN (dF u.out hc) hd fun K hK=>cG hf hname hb args hw hN hop hargs (h K (fun a' w' h1 h2=>hK.out a' w' h1 h2))
theorem qN (h:bm P .any ops Q (Sb w3) ds fuel l a' w) (ha:a=a':=by show Act.put _ (some _) _=_;simp only[Act.put,List.setIfInBounds_toArray,List.set_cons_zero,List.set_cons_succ,bJ,cu];rfl):bm P .any ops Q (Sb w3) ds fuel l a w:=dS ha h
theorem qD (u:ae (aW .any ops=T)) (h:Q .normal a w) (hr:(eP T.2 l.toList==[])=true:=by kernel_rfl):bm P .any ops Q (Sb w3) ds fuel l a w:=fH (gb u.out hr) h
theorem gK (i:Nat) (Ni:Option Tmp) (u:ae (aW .any ops=T))
    (h:∀K:Act→World→Prop,Shut (∀a' w',Sb w3 w'→(Sb w3 w'→bm P .any ops Q (Sb w3) ds fuel l' a' w')→K a' w')→if Region.wanted oi (yielded ops a.tmps)=true then Oper.wp P oi a w K Q else K (a.put Ni undef) w)
    (hi:ops[i]? =some oi:=by rfl) (hN:oi.dst=Ni:=by rfl) (hl:l.setIfInBounds i true=l':=by simp only[List.setIfInBounds_toArray,List.set_cons_zero,List.set_cons_succ];rfl) (hc:(eP T.2 l.toList==[i]&&l.toList.set i true==l'.toList)=true:=by kernel_rfl) (hd:i∉ds:=by decide):
    bm P .any ops Q (Sb w3) ds (fuel+1) l a w:=dN l' hi hN (dF u.out hc) hd h
theorem Aw {oj ok:Oper} {li lj lk:Array Bool} (i j k:Nat) (Ni Nj Nk:Option Tmp) (u:ae (aW .any ops=T))
    (h1:∀K:Act→World→Prop,Shut (∀a' w',Sb w3 w'→(Sb w3 w'→bm P .any ops Q (Sb w3) ds fuel li a' w')→K a' w')→if Region.wanted oi (yielded ops a.tmps)=true then Oper.wp P oi a w K Q else K (a.put Ni undef) w)
    (h2:∀K:Act→World→Prop,Shut (∀a' w',Sb w3 w'→(Sb w3 w'→bm P .any ops Q (Sb w3) ds fuel lj a' w')→K a' w')→if Region.wanted oj (yielded ops a.tmps)=true then Oper.wp P oj a w K Q else K (a.put Nj undef) w)
    (h3:∀K:Act→World→Prop,Shut (∀a' w',Sb w3 w'→(Sb w3 w'→bm P .any ops Q (Sb w3) ds fuel lk a' w')→K a' w')→if Region.wanted ok (yielded ops a.tmps)=true then Oper.wp P ok a w K Q else K (a.put Nk undef) w)
    (hi:ops[i]? =some oi:=by rfl) (hj:ops[j]? =some oj:=by rfl) (hk:ops[k]? =some ok:=by rfl) (l4:oi.dst=Ni:=by rfl) (l5:oj.dst=Nj:=by rfl) (rj:ok.dst=Nk:=by rfl)
    (yD:l.setIfInBounds i true=li:=by simp only[List.setIfInBounds_toArray,List.set_cons_zero,List.set_cons_succ];rfl) (hlj:l.setIfInBounds j true=lj:=by simp only[List.setIfInBounds_toArray,List.set_cons_zero,List.set_cons_succ];rfl) (hlk:l.setIfInBounds k true=lk:=by simp only[List.setIfInBounds_toArray,List.set_cons_zero,List.set_cons_succ];rfl)
    (hc:(eP T.2 l.toList==[i,j,k]&&l.toList.set i true==li.toList&&l.toList.set j true==lj.toList&&l.toList.set k true==lk.toList)=true:=by kernel_rfl) (jZ:i∉ds:=by decide) (hdj:j∉ds:=by decide) (hdk:k∉ds:=by decide):
    bm P .any ops Q (Sb w3) ds (fuel+1) l a w:=B_ li lj lk hi hj hk l4 l5 rj (Ca u.out hc) jZ hdj hdk h1 h2 h3
theorem iL {K:Act→World→Prop} (N:Nat) (cs:Array Value) (t:TypeId) (h:∀g,fY w g→∀w1,au w w1→aJ w1 g cs t→K (a.put (some N) (.pointer (some ⟨g,0,none⟩))) w1) (hN:oi.dst=some N:=by rfl) (hw:Region.wanted oi (yielded ops a.tmps)=true:=by rfl)
    (hr:(execOp a.eval oi).run P w= .ok (.value (.pointer (some ⟨w.heap.size,0,none⟩))) (w.alloc (.cells cs t (0,0))):=by first|(go_simp;done)|(go_simp;rfl)):if Region.wanted oi (yielded ops a.tmps)=true then Oper.wp P oi a w K Q else K (a.put (some N) undef) w:=by
  rw[←hN];refine sZ hw hN hr fun g hg w1 hb hk=> ?_;rw[hN];exact h g ⟨hg⟩ w1 ⟨hk⟩ ⟨hb⟩
theorem oA {K:Act→World→Prop} (e N:Nat) (t:TypeId) (x y:Operand) (m:Nat) (bytes:Nat) (hu:P.underlying t=some (.slice e)) (hinfo:(P.info? e).map (fun i=>(i.zero,i.size,i.bytes))=some (some (.int .i64 0),1,bytes)) (hb0:0<bytes) (hl:m*bytes≤281474976710656)
    (h:∀A c w1,dt (Kd.int .i64) e w w1 A c (List.replicate m 0)→au w w1→K (a.put (some N) (.slice A (List.replicate m (0:Int)).length c)) w1) (hN:oi.dst=some N:=by rfl) (hw:Region.wanted oi (yielded ops a.tmps)=true:=by rfl)
    (ho:oi.op= .makeSlice t x y:=by rfl) (hx:a.eval x= .int .i64 (m:Int):=by rfl) (hy:a.eval y= .int .i64 (m:Int):=by rfl):if Region.wanted oi (yielded ops a.tmps)=true then Oper.wp P oi a w K Q else K (a.put (some N) undef) w:=by
  rw[←hN];refine Kd.wV (Kd.int .i64) w.heap.size e hw hN t x y ho (m:Int) hx hy hu (.int .i64 0) bytes hinfo rfl (by decide) hb0 0 (ok:=fun _=>True) (bD:=fun _=>True) rfl (fun _ h=>h) trivial (by omega) (by simpa using hl) (Below.refl _ _) (Nat.le_refl _) ?_;intro v1 w1 u hb _ _;obtain⟨A,c,rfl⟩:=Kd.cJ u;rw[Int.toNat_natCast]at u ⊢;rw[hN];exact h A c w1 ⟨u⟩ ⟨hb⟩
theorem ld {oj:Oper} {li lj:Array Bool} (i j:Nat) (Ni Nj:Option Tmp) (u:ae (aW .any ops=T))
    (h1:∀K:Act→World→Prop,Shut (∀a' w',Sb w3 w'→(Sb w3 w'→bm P .any ops Q (Sb w3) ds fuel li a' w')→K a' w')→if Region.wanted oi (yielded ops a.tmps)=true then Oper.wp P oi a w K Q else K (a.put Ni undef) w)
    (h2:∀K:Act→World→Prop,Shut (∀a' w',Sb w3 w'→(Sb w3 w'→bm P .any ops Q (Sb w3) ds fuel lj a' w')→K a' w')→if Region.wanted oj (yielded ops a.tmps)=true then Oper.wp P oj a w K Q else K (a.put Nj undef) w)
    (hi:ops[i]? =some oi:=by rfl) (hj:ops[j]? =some oj:=by rfl) (l4:oi.dst=Ni:=by rfl) (l5:oj.dst=Nj:=by rfl)
    (yD:l.setIfInBounds i true=li:=by simp only[List.setIfInBounds_toArray,List.set_cons_zero,List.set_cons_succ];rfl) (hlj:l.setIfInBounds j true=lj:=by simp only[List.setIfInBounds_toArray,List.set_cons_zero,List.set_cons_succ];rfl)
    (hc:(eP T.2 l.toList==[i,j]&&l.toList.set i true==li.toList&&l.toList.set j true==lj.toList)=true:=by kernel_rfl) (jZ:i∉ds:=by decide) (hdj:j∉ds:=by decide):
    bm P .any ops Q (Sb w3) ds (fuel+1) l a w:=vL li lj hi hj l4 l5 (vM u.out hc) jZ hdj h1 h2
section
variable {α:Type} {xs ys:List α} {inner:List Value} {K:Act→World→Prop} {N:Nat}
theorem rI (d:Kd α) (e N:Nat) (xs:List α) (inner:List Value) (hp:aI (d.M w w.heap.size (fun _=>True)) d.sz xs inner) (h:∀A c w1,dt d e w w1 A c xs→au w w1→K (a.put (some N) (.slice A xs.length c)) w1)
    (hN:oi.dst=some N:=by rfl) (hw:Region.wanted oi (yielded ops a.tmps)=true:=by rfl) (hr:(execOp a.eval oi).run P w= .ok (.value (.slice (some ⟨w.heap.size,0,none⟩) xs.length xs.length)) (w.alloc (.cells inner.toArray e)):=by first|(go_simp;done)|(go_simp;rfl)) (hl:xs.length≤9223372036854775807:=by simp):
    if Region.wanted oi (yielded ops a.tmps)=true then Oper.wp P oi a w K Q else K (a.put (some N) undef) w:=by
  rw[←hN];refine Kd.kI d w.heap.size e hw hN (xs:=xs) (inner:=inner) (ok:=fun _=>True) (bD:=fun _=>True) hr hp (fun _ h=>h) trivial (Below.refl _ _) (Nat.le_refl _) hl ?_;intro v1 w1 ho hb _ _;obtain⟨A,c,rfl⟩:=Kd.cJ ho;rw[hN];exact h A c w1 ⟨ho⟩ ⟨hb⟩
theorem qI {a':Option Addr→Nat→Act} (d:Kd α) (i e N:Nat) (xs:List α) (inner:List Value) (u:ae (aW .any ops=T)) (hS:Sb w3 w) (hp:aI (d.M w w.heap.size (fun _=>True)) d.sz xs inner) (h:∀A c w1,dt d e w w1 A c xs→au w w1→Sb w3 w1→bm P .any ops Q (Sb w3) ds fuel l' (a' A c) w1) (hi:ops[i]? =some oi:=by rfl)
    (hN:oi.dst=some N:=by rfl) (hl':l.setIfInBounds i true=l':=by simp only[List.setIfInBounds_toArray,List.set_cons_zero,List.set_cons_succ];rfl) (hc:(eP T.2 l.toList==[i]&&l.toList.set i true==l'.toList)=true:=by kernel_rfl) (hd:i∉ds:=by decide) (hw:Region.wanted oi (yielded ops a.tmps)=true:=by rfl)
    (hr:(execOp a.eval oi).run P w= .ok (.value (.slice (some ⟨w.heap.size,0,none⟩) xs.length xs.length)) (w.alloc (.cells inner.toArray e)):=by first|(go_simp;done)|(go_simp;rfl)) (hl:xs.length≤9223372036854775807:=by simp)
    (ha:∀A c,a.put (some N) (.slice A xs.length c)=a' A c:=by intro A c;simp only[Act.put,List.setIfInBounds_toArray,List.set_cons_zero,List.set_cons_succ,bJ,cu];rfl):
    bm P .any ops Q (Sb w3) ds (fuel+1) l a w:=dN l' hi hN (dF u.out hc) hd fun K hK=>rI d e N xs inner hp (fun A c w1 j b=>hK.out _ _ (aV hS b.out) fun _=>by rw[ha];exact h A c w1 j b (aV hS b.out)) hN hw hr hl
theorem qP {a':Option Addr→Nat→Act} {A A2:Option Addr} {c c2 e:Nat} (d:Kd α) (xs ys:List α) (i N:Nat) (so xo:Operand) (t:TypeId) (z:Value) (bytes:Nat) (D:ae (aW .any ops=T)) (hS:Sb w3 w)
    (hu:P.underlying t=some (.slice e)) (hinfo:(P.info? e).map (fun i=>(i.zero,i.size,i.bytes))=some (some z,d.sz,bytes)) (hz:z.cells.size=d.sz) (hs0:0<d.sz) (hb0:0<bytes) (F:∀x cs,d.K w x cs→d.M w w3.heap.size (fun _=>False) x cs) (hlen:(xs.length+ys.length)*bytes≤140737488355328)
    (h:∀A' c' w1,dt d e w3 w1 A' c' (xs++ys)→au w3 w1→Sb w3 w1→bm P .any ops Q (Sb w3) ds fuel l' (a' A' c') w1)
    (hi:ops[i]? =some oi:=by rfl) (hN:oi.dst=some N:=by rfl) (ho:oi.op= .call {callee:= .builtin .append,args:= #[so,xo],argTypes:= #[t,t]}:=by rfl) (hs:a.eval so= .slice A xs.length c:=by rfl) (hx:a.eval xo= .slice A2 ys.length c2:=by rfl)
    (hl':l.setIfInBounds i true=l':=by simp only[List.setIfInBounds_toArray,List.set_cons_zero,List.set_cons_succ];rfl) (hc:(eP T.2 l.toList==[i]&&l.toList.set i true==l'.toList)=true:=by kernel_rfl) (hd:i∉ds:=by decide) (hw:Region.wanted oi (yielded ops a.tmps)=true:=by rfl)
    (hR:d.R e w w3.heap.size (fun _=>True) (.slice A xs.length c) xs:=by exact a8) (rk:d.C w A2 ys.length ys:=by exact oG)
    (ha:∀A c,a.put (some N) (.slice A (xs++ys).length c)=a' A c:=by intro A c;simp only[Act.put,List.setIfInBounds_toArray,List.set_cons_zero,List.set_cons_succ,bJ,cu];rfl):
    bm P .any ops Q (Sb w3) ds (fuel+1) l a w:=dN l' hi hN (dF D.out hc) hd fun K hK=>by
  rw[←hN];refine Kd.sB d (w0:=w3) w3.heap.size hw so xo t e z bytes ho hu hinfo hz hs0 hb0 (.slice A xs.length c) xs ys A2 ys.length c2 (fun _=>True) (fun _=>False) hs hx hR rk F (fun _ h=>h.elim) (fun _ _=>trivial) hS hS.size hlen ?_;intro v1 w1 u hb _ _;obtain⟨A',c',rfl⟩:=Kd.cJ u;rw[hN];exact hK.out _ _ hb fun _=>by rw[ha];exact h A' c' w1 ⟨u⟩ ⟨hb⟩ hb
theorem uP {a':Option Addr→Nat→Nat→Act} {A A2:Option Addr} {c c2 e M:Nat} (d:Kd α) {xs ys:List α} (i N:Nat) (so xo:Operand) (t:TypeId) (z:Value) (bytes:Nat) (u:ae (aW .any ops=T)) (hS:Sb w3 w)
    (hu:P.underlying t=some (.slice e)) (hinfo:(P.info? e).map (fun i=>(i.zero,i.size,i.bytes))=some (some z,d.sz,bytes)) (hz:z.cells.size=d.sz) (hs0:0<d.sz) (hb0:0<bytes) (D:∀x cs,d.K w x cs→d.M w w3.heap.size (fun _=>False) x cs)
    (h:∀A' c' w1 y,xs++ys=y→dt d e w3 w1 A' c' y→au w3 w1→Sb w3 w1→bm P .any ops Q (Sb w3) ds fuel l' (a' A' c' y.length) w1)
    (hi:ops[i]? =some oi:=by rfl) (hN:oi.dst=some N:=by rfl) (ho:oi.op= .call {callee:= .builtin .append,args:= #[so,xo],argTypes:= #[t,t]}:=by rfl) (hs:a.eval so= .slice A xs.length c:=by rfl) (hx:a.eval xo= .slice A2 ys.length c2:=by rfl)
    (hl':l.setIfInBounds i true=l':=by simp only[List.setIfInBounds_toArray,List.set_cons_zero,List.set_cons_succ];rfl) (hc:(eP T.2 l.toList==[i]&&l.toList.set i true==l'.toList)=true:=by kernel_rfl) (hd:i∉ds:=by decide) (hw:Region.wanted oi (yielded ops a.tmps)=true:=by rfl)
    (hR:d.R e w w3.heap.size (fun _=>True) (.slice A xs.length c) xs:=by exact a8) (rk:d.C w A2 ys.length ys:=by exact oG)
    (ha:∀A c n,a.put (some N) (.slice A n c)=a' A c n:=by intro A c n;simp only[Act.put,List.setIfInBounds_toArray,List.set_cons_zero,List.set_cons_succ,bJ,cu];rfl) (hc0:xs.length+ys.length<M:=by assumption) (hM:M*bytes≤140737488355328:=by decide):
    bm P .any ops Q (Sb w3) ds (fuel+1) l a w:=
  qP (a':=fun A c=>a' A c (xs++ys).length) d xs ys i N so xo t z bytes u hS hu hinfo hz hs0 hb0 D (Nat.le_trans (Nat.mul_le_mul_right _ (Nat.le_of_lt hc0)) hM) (fun A' c' w1 j b s=>h A' c' w1 _ rfl j b s) hi hN ho hs hx hl' hc hd hw hR rk (fun A c=>ha A c _)
end
end
class qF (W:outParam World) (W':World) (e:outParam Nat):Prop where out:∀(g:Nat) (cs:Array Value) (t:TypeId),W.heap[g]? =some (.cells cs t (0,0))→e≠t→W'.heap[g]? =some (.cells cs t (0,0))
class ij (e t:Nat):Prop where out:e≠t
section
variable {w w0 W W':World} {g e t:Nat} {cs:Array Value}
instance [h:qF W W' e] [k:aJ W g cs t] [n:ij e t]:aJ W' g cs t:=⟨h.out g cs t k.out n.out⟩
theorem grE {α:Type} {d:Kd α} {v:Value} {xs:List α} {B:Nat} {ok:Nat→Prop} (h:d.R e W B ok v xs) (hg:W.grownBy W' v.ownBlock):qF W W' e:=⟨fun g cs t hb ht=>po hb hg (Kd.jY h hb ht)⟩
theorem bN {α:Type} {d:Kd α} {w1 w2:World} {A:Option Addr} {c n:Nat} {xs:List α} [h:dt d e w1 w2 A c xs] [k:dI w1 w2 W] [l:From w w1] (hn:n=xs.length):d.R e W w.heap.size (fun _=>True) (.slice A n c) xs:=by rw[hn];exact a8
theorem rM {α:Type} {d:Kd α} {v:Value} {xs:List α} (h:d.R e W w.heap.size (fun _=>True) v xs):∃A c,v= .slice A xs.length c∧dt d e w W A c xs:=by
  obtain⟨A,c,rfl⟩:=Kd.cJ h;exact⟨A,c,rfl,⟨h⟩⟩
theorem gD {α:Type} {d:Kd α} {w1:World} {A:Option Addr} {c n:Nat} {xs:List α} [h:At d e w1 W A c xs] [l:From w w1] (hn:n=xs.length):d.R e W w.heap.size (fun _=>True) (.slice A n c) xs:=by rw[hn];exact bG
class Dj (A B:Option Addr):Prop where out:∀a b:Addr,A=some a→B=some b→a.block≠b.block
theorem pW {a:Addr} {n c k:Nat} (h:(Value.slice (some a) n c).ownBlock=some k):k=a.block:=by cases h;rfl
theorem lB {A B:Option Addr} {n c n' c':Nat} (h:∀k,(Value.slice A n c).ownBlock=some k→some k≠(Value.slice B n' c').ownBlock):Dj A B:=
  ⟨by rintro a b rfl rfl e;exact h a.block rfl (by rw[e];rfl)⟩
instance {B:Option Addr}:Dj none B:=⟨fun _ _ h=>by cases h⟩
instance {A:Option Addr}:Dj A none:=⟨fun _ _ _ h=>by cases h⟩
theorem nx {e:Nat} {w1 w2:World} {a:Addr} {c:Nat} {xs:List Int} (h:dt (Kd.int .i64) e w1 w2 (some a) c xs):w1.heap.size≤a.block∧a.block<w2.heap.size:=⟨Kd.ik h.out a.block rfl,Kd.o8 h.out a.block rfl⟩
instance {e e':Nat} {w1 w2 u z:World} {A B:Option Addr} {c c':Nat} {xs ys:List Int} [a:dt (Kd.int .i64) e w1 w2 A c xs] [b:dt (Kd.int .i64) e' u z B c' ys] [s:Sz w2 u]:Dj A B:=
  ⟨by rintro x y rfl rfl h;have h1:=nx a;have h2:=nx b;have:=s.out;omega⟩
instance {e e':Nat} {w1 w2 z u:World} {A B:Option Addr} {c c':Nat} {xs ys:List Int} [a:dt (Kd.int .i64) e w1 w2 A c xs] [b:dt (Kd.int .i64) e' z u B c' ys] [s:Sz u w1]:Dj A B:=
  ⟨by rintro x y rfl rfl h;have h1:=nx a;have h2:=nx b;have:=s.out;omega⟩
theorem pG {W W':World} {A:Option Addr} {c:Nat} {xs:List Int} (hg:W.grownBy W' (Value.slice A xs.length c).ownBlock) [h:At (Kd.int .i64) e w W A c xs]:qF W W' e:=grE h.out hg
theorem pz {A B:Option Addr} (h:Dj A B):Dj B A:=⟨fun a b h1 h2 e=>h.out b a h2 h1 e.symm⟩
theorem gG {e u n c n' c':Nat} {A B:Option Addr} {ok:Nat→Prop} {xs:List Int} (h:(Kd.int .i64).R e W u ok (.slice A n c) xs) [d:Dj A B]:(Kd.int .i64).R e W u (fun k=>some k≠(Value.slice B n' c').ownBlock) (.slice A n c) xs:=
  Kd.wZ rfl h (by
    intro k hk he;rcases A with _|a
    · cases hk
    rcases B with _|b
    · cases he
    have h1:=pW hk;have h2:=pW he.symm;exact d.out a b rfl rfl (h1.symm.trans h2))
theorem jF {α:Type} {d:Kd α} {ok:Nat→Prop} {v:Value} {xs:List α} (h:d.R e W w.heap.size ok v xs):∃A c,v= .slice A xs.length c∧At d e w W A c xs∧af xs.length c∧∀k,(Value.slice A xs.length c).ownBlock=some k→ok k:=by
  obtain⟨A,c,rfl⟩:=Kd.cJ h;exact⟨A,c,rfl,⟨Kd.cm h (fun _ _=>trivial)⟩,⟨(Kd.cr h).2.1⟩,h.1⟩
theorem pM {α:Type} {d:Kd α} {e':Nat} {w1 w2:World} {A B:Option Addr} {c c' n:Nat} {xs:List α} {ys:List Int} (j:dt d e' w1 w2 A c xs) [k:dI w1 w2 W] (hg:W.grownBy W' (Value.slice B n c').ownBlock) [a:At (Kd.int .i64) e w w1 B c' ys]:dI w1 w2 W':=
  ⟨fun i h1 h2=>(hg.block i (nc k h1 h2) (by
    rintro hb;rcases B with _|b
    · cases hb
    have h3:=pW hb.symm;have h4:=Kd.o8 a.out b.block rfl;omega)).trans (k.out i h1 h2)⟩
theorem py {w1 w2:World} {A B C:Option Addr} {c c' c7 n u:Nat} {xs ys:List Int} {e':Nat} (j:dt (Kd.int .i64) e' w1 w2 A c xs)
    (hat:(Value.slice C u c7).ownBlock=(Value.slice B n c').ownBlock∨∃b,(Value.slice C u c7).ownBlock=some b∧W.heap.size≤b) [s:Sz w2 W] [a:At (Kd.int .i64) e w w1 B c' ys]:Dj C A:=
  ⟨by
    rintro x y rfl rfl he;have h1:=nx j;have h2:=s.out;rcases hat with h|⟨b,hb,hs⟩
    · rcases B with _|z
      · cases h
      have h3:x.block=z.block:=(by cases z;cases x;injection h);have h4:=Kd.o8 a.out z.block rfl;omega
    · have h3:=pW hb;omega⟩
end
end V
namespace P
set_option maxHeartbeats 8000000
set_option maxRecDepth 100000
set_option synthInstance.maxHeartbeats 400000
set_option synthInstance.maxSize 100000
open Go.RowKit WW.bc WW.bY WW.bZ V
attribute [local go_sem] dB dC gT iV iW jI jJ
attribute [local go_sem] cP cT cS cW cR cV cQ cU
def gO.f (k:Nat) (a0:Int) (l1:List (ag)):Option ((List (ag))×Int×List Int×Bool):=(cK.f k a0 l1).bind fun z=>(if z.2=true then((jo.f l1).bind fun t142=>(if 12≤35184372088832 then((some (List.replicate 12 0:List Int)).bind fun u=>(if 0<(u.length:Int)then(some (t142,0,(u.set (0:Int).toNat a0),true))else(none)))else(none)))else(some (([]:List (ag)),0,([]:List Int),false)))
noncomputable def gO.T4:Bool×List (List Nat×List Nat):=aW .any (opsOf Tryz.f130 4)
def gO.B4:List Nat:=[0,1,0,7,0,31]
theorem gO.oM:aW .any (opsOf Tryz.f130 4)=gO.T4:=rfl
theorem gO.nS:bL gO.T4.2 gO.B4=true:=by kernel_rfl
theorem gO.c (k:Nat) (a0:Int) (A1:Option Addr) (c1:Nat) (l1:List (ag)) (r1:List (ag)) (r2:Int) (r3:List Int) (V:Bool) (w:World) (hr1:Kd.C aN w A1 l1.length l1) (hc1:l1.length≤c1) (h:gO.f k a0 l1=some (r1,r2,r3,V)):
  Calls Tryz.prog 130 #[.int .i64 a0,.slice A1 l1.length c1] w fun e w'=>∃X ad:Value,e= .returned (.tuple #[.agg #[X,.int .i64 r2,ad],.bool V])∧Kd.R aN 110 w' w.heap.size (fun _=>True) X r1∧Kd.R (Kd.int .i64) 3 w' w.heap.size (fun _=>True) ad r3∧Below w.heap.size w w':=by
 replace hr1:=a6.mk hr1;replace hc1:=af.mk hc1;have aD:=bK.mk (d:=aN) (e:=110) (t:=3) (by decide);have aB:=bK.mk (d:=aN) (e:=110) (t:=27) (by decide);unfold gO.f at h;have ao:=Tryz.underlying27
 all_goals go_enter Tryz.func130,Tryz.ntmps130
 all_goals go_wp2_with ((first
  |((with_reducible refine aC (N:=4) rfl ?_);refine bV #[.slice none 0 0,.int .i64 0,.slice none 0 0] 27 fun g w1 j1 j2 aq=> ?_)
  |(go_at_call 151;(try rw[D.out]);replace h:=bI h;obtain⟨⟨t1,t2⟩,A,h⟩:=h;(try dsimp only at h);refine(cK.c _ _ _ _ _ _ _ _ Rd.out af.out A).mono ?_;rintro e w2 ⟨v0,rfl,z,hb⟩;obtain⟨F,b0,rfl,j0,q0⟩:=av z;have G:=au.mk hb;clear A z hb)
  |(refine qR (id:=4) (ds:=[]) (l:= #[false,false,false,false,false,false]) gO.oM gO.nS ?_;intro u am w3 ar u0 ap hHeld;replace h:=bI h;obtain⟨aE,A1,h⟩:=h;(try dsimp only at h);refine qA 0 (some 18) u ?_;refine Aw 1 2 4 (some 19) (some 20) (some 8) u (fun K hK=> ?_) (fun K hK=> ?_) (fun K hK=> ?_);(focus (refine cG Tryz.func107 (by kernel_rfl) rfl _ (by rfl) rfl rfl (by(try simp only[List.map_toArray,List.map_cons,List.map_nil]);rfl) ?_;refine(jo.c _ _ _ _ _ Rd.out af.out A1).mono ?_;rintro e u1 ⟨v0,rfl,z,hb⟩;obtain⟨F,b0,rfl,j0,q0⟩:=av z;have G:=au.mk hb;(try clear z hb);refine⟨_,rfl,hK.out _ _ From.out fun hHeld=> ?_⟩;clear hK K;refine qN ?_;refine ld 2 4 (some 20) (some 8) u (fun K hK=> ?_) (fun K hK=> ?_);(focus (refine oA 3 20 25 _ _ 12 8 Tryz.underlying25 info3 (by decide) (by decide) ?_;intro B2 b2 u2 j2 I;generalize List.replicate 12 (0:Int)=U at h j2 ⊢;refine hK.out _ _ From.out fun hHeld=> ?_;clear hK K;refine qN ?_;refine qA 3 (some 21) u ?_;refine gK 4 (some 8) u fun K hK=> ?_;refine iL 8 #[.slice none 0 0,.int .i64 0,.slice none 0 0] 27 ?_;intro g4 H u4 J O;refine hK.out _ _ From.out fun hHeld=> ?_;clear hK K;refine qN ?_;refine qS 5 u fun hHeld=> ?_;refine qD u ?_));rotate_left 1;(focus (refine iL 8 #[.slice none 0 0,.int .i64 0,.slice none 0 0] 27 ?_;intro g4 H u4 J O;refine hK.out _ _ From.out fun hHeld=> ?_;clear hK K;refine qN ?_;refine gK 2 (some 20) u fun K hK=> ?_;refine oA 3 20 25 _ _ 12 8 Tryz.underlying25 info3 (by decide) (by decide) ?_;intro B2 b2 u2 j2 I;generalize List.replicate 12 (0:Int)=U at h j2 ⊢;refine hK.out _ _ From.out fun hHeld=> ?_;clear hK K;refine qN ?_;refine qA 3 (some 21) u ?_;refine qS 5 u fun hHeld=> ?_;refine qD u ?_))));rotate_left 2;(focus (refine oA 3 20 25 _ _ 12 8 Tryz.underlying25 info3 (by decide) (by decide) ?_;intro B2 b2 u2 j2 I;generalize List.replicate 12 (0:Int)=U at h j2 ⊢;refine hK.out _ _ From.out fun hHeld=> ?_;clear hK K;refine qN ?_;refine ld 1 4 (some 19) (some 8) u (fun K hK=> ?_) (fun K hK=> ?_);(focus (refine cG Tryz.func107 (by kernel_rfl) rfl _ (by rfl) rfl rfl (by(try simp only[List.map_toArray,List.map_cons,List.map_nil]);rfl) ?_;refine(jo.c _ _ _ _ _ Rd.out af.out A1).mono ?_;rintro e u1 ⟨v0,rfl,z,hb⟩;obtain⟨F,b0,rfl,j0,q0⟩:=av z;have G:=au.mk hb;(try clear z hb);refine⟨_,rfl,hK.out _ _ From.out fun hHeld=> ?_⟩;clear hK K;refine qN ?_;refine qA 3 (some 21) u ?_;refine gK 4 (some 8) u fun K hK=> ?_;refine iL 8 #[.slice none 0 0,.int .i64 0,.slice none 0 0] 27 ?_;intro g4 H u4 J O;refine hK.out _ _ From.out fun hHeld=> ?_;clear hK K;refine qN ?_;refine qS 5 u fun hHeld=> ?_;refine qD u ?_));rotate_left 1;(focus (refine iL 8 #[.slice none 0 0,.int .i64 0,.slice none 0 0] 27 ?_;intro g4 H u4 J O;refine hK.out _ _ From.out fun hHeld=> ?_;clear hK K;refine qN ?_;refine gK 1 (some 19) u fun K hK=> ?_;refine cG Tryz.func107 (by kernel_rfl) rfl _ (by rfl) rfl rfl (by(try simp only[List.map_toArray,List.map_cons,List.map_nil]);rfl) ?_;refine(jo.c _ _ _ _ _ Rd.out af.out A1).mono ?_;rintro e u1 ⟨v0,rfl,z,hb⟩;obtain⟨F,b0,rfl,j0,q0⟩:=av z;have G:=au.mk hb;(try clear z hb);refine⟨_,rfl,hK.out _ _ From.out fun hHeld=> ?_⟩;clear hK K;refine qN ?_;refine qA 3 (some 21) u ?_;refine qS 5 u fun hHeld=> ?_;refine qD u ?_))));rotate_left 2;(focus (refine iL 8 #[.slice none 0 0,.int .i64 0,.slice none 0 0] 27 ?_;intro g4 H u4 J O;refine hK.out _ _ From.out fun hHeld=> ?_;clear hK K;refine qN ?_;refine ld 1 2 (some 19) (some 20) u (fun K hK=> ?_) (fun K hK=> ?_);(focus (refine cG Tryz.func107 (by kernel_rfl) rfl _ (by rfl) rfl rfl (by(try simp only[List.map_toArray,List.map_cons,List.map_nil]);rfl) ?_;refine(jo.c _ _ _ _ _ Rd.out af.out A1).mono ?_;rintro e u1 ⟨v0,rfl,z,hb⟩;obtain⟨F,b0,rfl,j0,q0⟩:=av z;have G:=au.mk hb;(try clear z hb);refine⟨_,rfl,hK.out _ _ From.out fun hHeld=> ?_⟩;clear hK K;refine qN ?_;refine gK 2 (some 20) u fun K hK=> ?_;refine oA 3 20 25 _ _ 12 8 Tryz.underlying25 info3 (by decide) (by decide) ?_;intro B2 b2 u2 j2 I;generalize List.replicate 12 (0:Int)=U at h j2 ⊢;refine hK.out _ _ From.out fun hHeld=> ?_;clear hK K;refine qN ?_;refine qA 3 (some 21) u ?_;refine qS 5 u fun hHeld=> ?_;refine qD u ?_));rotate_left 1;(focus (refine oA 3 20 25 _ _ 12 8 Tryz.underlying25 info3 (by decide) (by decide) ?_;intro B2 b2 u2 j2 I;generalize List.replicate 12 (0:Int)=U at h j2 ⊢;refine hK.out _ _ From.out fun hHeld=> ?_;clear hK K;refine qN ?_;refine gK 1 (some 19) u fun K hK=> ?_;refine cG Tryz.func107 (by kernel_rfl) rfl _ (by rfl) rfl rfl (by(try simp only[List.map_toArray,List.map_cons,List.map_nil]);rfl) ?_;refine(jo.c _ _ _ _ _ Rd.out af.out A1).mono ?_;rintro e u1 ⟨v0,rfl,z,hb⟩;obtain⟨F,b0,rfl,j0,q0⟩:=av z;have G:=au.mk hb;(try clear z hb);refine⟨_,rfl,hK.out _ _ From.out fun hHeld=> ?_⟩;clear hK K;refine qN ?_;refine qA 3 (some 21) u ?_;refine qS 5 u fun hHeld=> ?_;refine qD u ?_))));all_goals((try simp only[az]at h);(repeat' first|((with_reducible replace h:=bC h);rcases h with ⟨hc,h⟩|⟨hc,h⟩<;>first|exact(bo h).elim|exact absurd hc (by decide)|subst hc|(replace hc:=aM hc;subst hc)|(replace hc:=bR hc;subst hc)|(replace hc:=bS hc;subst hc)|(have hd:(_==_)=true:=hc)|(have hd:(_==_)=false:=aM hc)|(have hd:=bw hc;have he:=bz hc;clear hc)|(have hd:=bA hc;have he:=bB hc)|(have hd:=ax hc)|(have hd:=ah hc;(try(have hn:=Int.natCast_pos.mp hc;have hm:=ah hn;replace hn:=aw hn));first|(obtain⟨al,e_,i_⟩:=bQ (by assumption) (by first|assumption|decide) hc;cases e_)|(obtain⟨ak,e_,c_⟩:=bO (by assumption) (by first|assumption|decide) hc;cases e_))|(have hd:=ah hc)|skip)|((with_reducible replace h:=bP h);obtain⟨D,h⟩:=h;replace D:=A_ D;(try dsimp only at h))))));(repeat' first|((with_reducible replace h:=bC h);rcases h with ⟨hc,h⟩|⟨hc,h⟩<;>first|exact(bo h).elim|exact absurd hc (by decide)|subst hc|(replace hc:=aM hc;subst hc)|(replace hc:=bR hc;subst hc)|(replace hc:=bS hc;subst hc)|(have hd:(_==_)=true:=hc)|(have hd:(_==_)=false:=aM hc)|(have hd:=bw hc;have he:=bz hc;clear hc)|(have hd:=bA hc;have he:=bB hc)|(have hd:=ax hc)|(have hd:=ah hc;(try(have hn:=Int.natCast_pos.mp hc;have hm:=ah hn;replace hn:=aw hn));first|(obtain⟨al,e_,i_⟩:=bQ (by assumption) (by first|assumption|decide) hc;cases e_)|(obtain⟨ak,e_,c_⟩:=bO (by assumption) (by first|assumption|decide) hc;cases e_))|(have hd:=ah hc)|skip)|((with_reducible replace h:=bP h);obtain⟨D,h⟩:=h;replace D:=A_ D;(try dsimp only at h))))
 all_goals simp only[Option.some.injEq,Prod.mk.injEq]at h
 all_goals obtain⟨rfl,rfl,rfl,rfl⟩:=h
 all_goals refine bodyPost_ret (dW rfl _ _ _ _ _ (0,0) _ rfl aJ.out Tryz.underlying27 rfl (by kernel_rfl)) rfl ?_
 all_goals exact⟨_,_,(by first|rfl|(simp_all;done)),(by first|exact a8|exact Kd.aY _ _ _ _ _|exact bG|exact dD (by simp)),(by first|exact a8|exact Kd.aY _ _ _ _ _|exact bG|exact dD (by simp)),From.out⟩
def dz.l0:Nat→List Int→Int→List (ag)→Int→List Int→Option (List Int)
 |0,_,_,_,_,_=>none
 |k+1,x3,u,z,F,D=>if u<F then(if 0≤u then(if u<(z.length:Int)then(if 0≤((ar z u).f1)then(if((ar z u).f1)<(D.length:Int)then(if 0≤((ar z u).f0)then(if((ar z u).f0)<(D.length:Int)then((cy.f k (rd D ((ar z u).f0)) ((ar z u).f2) ((ar z u).f3)).bind fun G=>(if(rd D ((ar z u).f1))=G then(dz.l0 k x3 (wrap64 (u+1)) z F D)else(if x3.length<17592186044416 then(dz.l0 k (x3++[u]) (wrap64 (u+1)) z F D)else(none))))else(none))else(none))else(none))else(none))else(none))else(none))else(some x3)
def dz.f (k:Nat) (z:List (ag)) (u:Int) (D:List Int):Option (List Int):=(some (([]:List Int):List Int)).bind fun F=>((cI.f k z u D).bind fun G=>(if G=true then(dz.l0 k F 0 z u D)else(some F)))
def dz.T8:Bool×List (List Nat×List Nat):=(true,[([],[]),([0],[0]),([],[]),([2],[2]),([1,3],[1,3]),([4],[4]),([],[]),([6],[6]),([],[]),([8],[8]),([7,9],[7,9]),([10],[10]),([],[]),([12],[12]),([],[]),([14],[14]),([11,13,15],[11,13,15]),([5,16],[5,16])])
def dz.B8:List Nat:=[0,1,0,4,15,31,0,64,0,256,960,1984,0,4096,0,16384,65472,131071]
theorem dz.ju:aW .any (opsOf Tryz.f112 8)=dz.T8:=by kernel_rfl
theorem dz.iT:bL dz.T8.2 dz.B8=true:=by kernel_rfl
theorem dz.c (k:Nat) (ak:Option Addr) (am:Nat) (J:List (ag)) (ad:Int) (al:Option Addr) (ao:Nat) (O:List Int) (r:List Int) (w:World) (a0:Kd.C aN w ak J.length J) (aW:J.length≤am) (a1:Kd.C (Kd.int .i64) w al O.length O) (aZ:O.length≤ao) (h:dz.f k J ad O=some r):
  Calls Tryz.prog 112 #[.agg #[.slice ak J.length am,.int .i64 ad,.slice al O.length ao]] w fun e w'=>∃a3:Value,e= .returned (a3)∧Kd.R (Kd.int .i64) 3 w' w.heap.size (fun _=>True) a3 r∧Below w.heap.size w w':=by
 have bs:=a6.mk a0;have bq:=af.mk aW;have bt:=a6.mk a1;have br:=af.mk aZ;clear a0 aW a1 aZ;have bv:=ij.mk (e:=3) (t:=27) (by decide);have bu:=ij.mk (e:=3) (t:=110) (by decide);unfold dz.f at h
 (try simp only[az]at h)
 have bp:=Tryz.underlying27;have bn:=Tryz.underlying110
 (repeat' first|((with_reducible replace h:=bC h);rcases h with ⟨hc,h⟩|⟨hc,h⟩<;>first|exact(bo h).elim|exact absurd hc (by decide)|subst hc|(replace hc:=aM hc;subst hc)|(replace hc:=bR hc;subst hc)|(replace hc:=bS hc;subst hc)|(have hd:(_==_)=true:=hc)|(have hd:(_==_)=false:=aM hc)|(have hd:=bw hc;have he:=bz hc;clear hc)|(have hd:=bA hc;have he:=bB hc)|(have hd:=ax hc)|(have hd:=ah hc;(try(have hn:=Int.natCast_pos.mp hc;have hm:=ah hn;replace hn:=aw hn));first|(obtain⟨ar,e_,i_⟩:=bQ (by assumption) (by first|assumption|decide) hc;cases e_)|(obtain⟨U,e_,c_⟩:=bO (by assumption) (by first|assumption|decide) hc;cases e_)|(obtain⟨U,e_,F,G,H,I⟩:=eN (a6.out (self:=by assumption)) _ (by first|assumption|decide) hc;cases e_;replace F:=bj.mk F;replace G:=bj.mk G;replace H:=bj.mk H;replace I:=bj.mk I))|(have hd:=ah hc)|skip)|((with_reducible replace h:=bP h);obtain⟨D,h⟩:=h;replace D:=A_ D;(try dsimp only at h)))
 all_goals go_enter Tryz.func112,Tryz.ntmps112
 all_goals go_wp2_with ((first
  |((with_reducible refine aC (N:=1) rfl ?_);refine bV #[.slice ak J.length am,.int .i64 ad,.slice al O.length ao] 27 fun g1 w1 j1 j2 aE=> ?_)
  |((with_reducible refine aC (N:=5) rfl ?_);refine bV #[.int .i64 0,.int .i64 0,.int .i64 0,.int .i64 0] 110 fun g5 w1 j1 j2 aE=> ?_)
  |((with_reducible refine aC (N:=6) rfl ?_);refine Kd.dR (Kd.int .i64) _ 3 ?hg (N:=6) ?hd (xs:=([]:List Int)) (inner:=[]) (ok:=fun _=>True) (bD:=fun _=>True) ?hr ?hp (fun _ hk=>hk) trivial (Below.refl _ _) (Nat.le_refl _) (by simp) ?_;(case hd=>rfl);(case hg=>rfl);(case hr=>first|(go_simp;done)|(go_simp;rfl));(case hp=>exact(aI.none _ _));intro v5 bg ho hb av aD;obtain⟨a4,c5,rfl⟩:=Kd.cJ ho;have aG:=dt.mk ho;have q5:=af.mk (ia aG);have a9:=au.mk hb;clear av aD ho hb)
  |(go_at_call 70;(try rw[D.out]);replace h:=bI h;obtain⟨t,A,h⟩:=h;(try dsimp only at h);refine(cI.c _ _ _ _ _ _ _ _ _ _ Rd.out af.out Rd.out af.out A).mono ?_;rintro e w2 ⟨rfl,hb⟩;have aK:=au.mk hb;clear A hb)
  |(refine qR (id:=8) (ds:=[]) (l:= #[false,false,false,false,false,false,false,false,false,false,false,false,false,false,false,false,false,false]) dz.ju dz.iT ?_;intro u z w3 be u0 a7 hHeld;refine qA 0 (some 22) u ?_;refine qA 2 (some 24) u ?_;refine qA 6 (some 28) u ?_;refine qA 8 (some 30) u ?_;refine qA 12 (some 34) u ?_;refine qA 14 (some 36) u ?_;refine qT 1 (some 23) u z hHeld ?_;refine qT 3 (some 25) u z hHeld ?_;refine qA 4 (some 26) u ?_;refine qT 5 (some 27) u z hHeld ?_;refine qT 7 (some 29) u z hHeld ?_;refine qT 9 (some 31) u z hHeld ?_;refine qA 10 (some 32) u ?_;refine qT 11 (some 33) u z hHeld ?_;refine qT 13 (some 35) u z hHeld ?_;refine qT 15 (some 37) u z hHeld ?_;replace h:=bI h;obtain⟨t,A,h⟩:=h;(try dsimp only at h);refine qC 16 38 Tryz.func134 u fun K hK=> ?_;refine(cy.c _ _ _ _ _ _ A).mono ?_;rintro e w2 ⟨rfl,hb⟩;have aK:=au.mk hb;clear A hb;refine⟨_,rfl,hK _ _ From.out fun hHeld=> ?_⟩;clear hK K;refine qN ?_;refine qA 17 (some 39) u ?_;refine qD u ?_)
  |((with_reducible refine fI (b:= .append) (xs:= #[.tmp 40,.tmp 42]) rfl ?_);at_builtin;refine Kd.gS (Kd.int .i64) (w0:=w) w.heap.size rfl (.tmp 40) (.tmp 42) 25 3 (.int .i64 0) 8 rfl Tryz.underlying25 info3 rfl (by decide) (by omega) (.slice aQ V.length aV) V X [.int .i64 X] (fun _=>True) (fun _=>False) rfl rfl ?aP (fun _ hk=>hk.elim) ?aF ?aO ?aB ?aS ?aL ?_;(case aP=>exact rfl);(case aO=>exact a8);(case aB=>exact From.out);(case aF=>exact(fun _ _=>trivial));(case aS=>exact(From.out (w0:=w)).size);(case aL=>omega);intro v7 w7 ho hb hg hat;have bc:=grE (a8 (w:=w) (d:=(Kd.int .i64))) hg;obtain⟨a5,c7,rfl,aH⟩:=rM ho;have bf:=af.mk (ia aH);have bb:From w w7:=⟨hb⟩;have bd:Sz w w7:=⟨hb.size⟩;clear ho hb hg hat));(repeat' first|((with_reducible replace h:=bC h);rcases h with ⟨hc,h⟩|⟨hc,h⟩<;>first|exact(bo h).elim|exact absurd hc (by decide)|subst hc|(replace hc:=aM hc;subst hc)|(replace hc:=bR hc;subst hc)|(replace hc:=bS hc;subst hc)|(have hd:(_==_)=true:=hc)|(have hd:(_==_)=false:=aM hc)|(have hd:=bw hc;have he:=bz hc;clear hc)|(have hd:=bA hc;have he:=bB hc)|(have hd:=ax hc)|(have hd:=ah hc;(try(have hn:=Int.natCast_pos.mp hc;have hm:=ah hn;replace hn:=aw hn));first|(obtain⟨ar,e_,i_⟩:=bQ (by assumption) (by first|assumption|decide) hc;cases e_)|(obtain⟨U,e_,c_⟩:=bO (by assumption) (by first|assumption|decide) hc;cases e_)|(obtain⟨U,e_,F,G,H,I⟩:=eN (a6.out (self:=by assumption)) _ (by first|assumption|decide) hc;cases e_;replace F:=bj.mk F;replace G:=bj.mk G;replace H:=bj.mk H;replace I:=bj.mk I))|(have hd:=ah hc)|skip)|((with_reducible replace h:=bP h);obtain⟨D,h⟩:=h;replace D:=A_ D;(try dsimp only at h))))
 all_goals first
  |((try obtain rfl:=aA h);go_ret;exact⟨(.slice _ _ _),rfl,(by first|exact a8|exact bN rfl|exact bN (by simp)|exact Kd.aY _ _ _ _ _|exact bG|exact dD (by simp)),From.out⟩)
  |skip
 go_loopg [3,4] k (fun a2 v3 v4 w'=>∃(V:List Int) (X:Int),v4= .int .i64 X∧ae (dz.l0 a2 V X J ad O=some r)∧ae (a2≤k)∧ae (Kd.R (Kd.int .i64) 3 w' w.heap.size (fun _=>True) v3 V)∧ae (w'.heap[g1]? =some (.cells #[(.slice ak J.length am),.int .i64 ad,(.slice al O.length ao)] 27 (0,0)))∧ae (Below w.heap.size w w'))
 case atStart=>exact⟨_,_,(by first|rfl|(simp;done)),⟨h⟩,⟨Nat.le_refl _⟩,⟨by first|exact a8|exact bN rfl|exact bN (by simp)|exact Kd.aY _ _ _ _ _⟩,⟨aJ.out⟩,⟨From.out⟩⟩
 case round=>
  clear h;obtain⟨V,X,rfl,ap,aT,aU,aR,aq⟩:=hrel;rcases gk with _|k1
  ·exact absurd ap.out (by simp[dz.l0])
  have h:=ap.out;clear ap;simp only[dz.l0]at h;obtain⟨aQ,aV,rfl,a_⟩:=rM aU.out;have bx:=af.mk (ia a_);clear aU;have bk:=aJ.mk aR.out;clear aR;have bl:From w wr:=⟨aq.out⟩;have bm:Sz w wr:=⟨aq.out.size⟩;clear aq
  (repeat' first|((with_reducible replace h:=bC h);rcases h with ⟨hc,h⟩|⟨hc,h⟩<;>first|exact(bo h).elim|exact absurd hc (by decide)|subst hc|(replace hc:=aM hc;subst hc)|(replace hc:=bR hc;subst hc)|(replace hc:=bS hc;subst hc)|(have hd:(_==_)=true:=hc)|(have hd:(_==_)=false:=aM hc)|(have hd:=bw hc;have he:=bz hc;clear hc)|(have hd:=bA hc;have he:=bB hc)|(have hd:=ax hc)|(have hd:=ah hc;(try(have hn:=Int.natCast_pos.mp hc;have hm:=ah hn;replace hn:=aw hn));first|(obtain⟨ar,e_,i_⟩:=bQ (by assumption) (by first|assumption|decide) hc;cases e_)|(obtain⟨U,e_,c_⟩:=bO (by assumption) (by first|assumption|decide) hc;cases e_)|(obtain⟨U,e_,F,G,H,I⟩:=eN (a6.out (self:=by assumption)) _ (by first|assumption|decide) hc;cases e_;replace F:=bj.mk F;replace G:=bj.mk G;replace H:=bj.mk H;replace I:=bj.mk I))|(have hd:=ah hc)|skip)|((with_reducible replace h:=bP h);obtain⟨D,h⟩:=h;replace D:=A_ D;(try dsimp only at h)))
  all_goals go_wp2_with ((first
   |((with_reducible refine aC (N:=1) rfl ?_);refine bV #[.slice ak J.length am,.int .i64 ad,.slice al O.length ao] 27 fun g1 w1 j1 j2 aE=> ?_)
   |((with_reducible refine aC (N:=5) rfl ?_);refine bV #[.int .i64 0,.int .i64 0,.int .i64 0,.int .i64 0] 110 fun g5 w1 j1 j2 aE=> ?_)
   |((with_reducible refine aC (N:=6) rfl ?_);refine Kd.dR (Kd.int .i64) _ 3 ?hg (N:=6) ?hd (xs:=([]:List Int)) (inner:=[]) (ok:=fun _=>True) (bD:=fun _=>True) ?hr ?hp (fun _ hk=>hk) trivial (Below.refl _ _) (Nat.le_refl _) (by simp) ?_;(case hd=>rfl);(case hg=>rfl);(case hr=>first|(go_simp;done)|(go_simp;rfl));(case hp=>exact(aI.none _ _));intro v5 bg ho hb av aD;obtain⟨a4,c5,rfl⟩:=Kd.cJ ho;have aG:=dt.mk ho;have q5:=af.mk (ia aG);have a9:=au.mk hb;clear av aD ho hb)
   |(go_at_call 70;(try rw[D.out]);replace h:=bI h;obtain⟨t,A,h⟩:=h;(try dsimp only at h);refine(cI.c _ _ _ _ _ _ _ _ _ _ Rd.out af.out Rd.out af.out A).mono ?_;rintro e w2 ⟨rfl,hb⟩;have aK:=au.mk hb;clear A hb)
   |(refine qR (id:=8) (ds:=[]) (l:= #[false,false,false,false,false,false,false,false,false,false,false,false,false,false,false,false,false,false]) dz.ju dz.iT ?_;intro u z w3 be u0 a7 hHeld;refine qA 0 (some 22) u ?_;refine qA 2 (some 24) u ?_;refine qA 6 (some 28) u ?_;refine qA 8 (some 30) u ?_;refine qA 12 (some 34) u ?_;refine qA 14 (some 36) u ?_;refine qT 1 (some 23) u z hHeld ?_;refine qT 3 (some 25) u z hHeld ?_;refine qA 4 (some 26) u ?_;refine qT 5 (some 27) u z hHeld ?_;refine qT 7 (some 29) u z hHeld ?_;refine qT 9 (some 31) u z hHeld ?_;refine qA 10 (some 32) u ?_;refine qT 11 (some 33) u z hHeld ?_;refine qT 13 (some 35) u z hHeld ?_;refine qT 15 (some 37) u z hHeld ?_;replace h:=bI h;obtain⟨t,A,h⟩:=h;(try dsimp only at h);refine qC 16 38 Tryz.func134 u fun K hK=> ?_;refine(cy.c _ _ _ _ _ _ A).mono ?_;rintro e w2 ⟨rfl,hb⟩;have aK:=au.mk hb;clear A hb;refine⟨_,rfl,hK _ _ From.out fun hHeld=> ?_⟩;clear hK K;refine qN ?_;refine qA 17 (some 39) u ?_;refine qD u ?_)
   |((with_reducible refine fI (b:= .append) (xs:= #[.tmp 40,.tmp 42]) rfl ?_);at_builtin;refine Kd.gS (Kd.int .i64) (w0:=w) w.heap.size rfl (.tmp 40) (.tmp 42) 25 3 (.int .i64 0) 8 rfl Tryz.underlying25 info3 rfl (by decide) (by omega) (.slice aQ V.length aV) V X [.int .i64 X] (fun _=>True) (fun _=>False) rfl rfl ?aP (fun _ hk=>hk.elim) ?aF ?aO ?aB ?aS ?aL ?_;(case aP=>exact rfl);(case aO=>exact a8);(case aB=>exact From.out);(case aF=>exact(fun _ _=>trivial));(case aS=>exact(From.out (w0:=w)).size);(case aL=>omega);intro v7 w7 ho hb hg hat;have bc:=grE (a8 (w:=w) (d:=(Kd.int .i64))) hg;obtain⟨a5,c7,rfl,aH⟩:=rM ho;have bf:=af.mk (ia aH);have bb:From w w7:=⟨hb⟩;have bd:Sz w w7:=⟨hb.size⟩;clear ho hb hg hat));(repeat' first|((with_reducible replace h:=bC h);rcases h with ⟨hc,h⟩|⟨hc,h⟩<;>first|exact(bo h).elim|exact absurd hc (by decide)|subst hc|(replace hc:=aM hc;subst hc)|(replace hc:=bR hc;subst hc)|(replace hc:=bS hc;subst hc)|(have hd:(_==_)=true:=hc)|(have hd:(_==_)=false:=aM hc)|(have hd:=bw hc;have he:=bz hc;clear hc)|(have hd:=bA hc;have he:=bB hc)|(have hd:=ax hc)|(have hd:=ah hc;(try(have hn:=Int.natCast_pos.mp hc;have hm:=ah hn;replace hn:=aw hn));first|(obtain⟨ar,e_,i_⟩:=bQ (by assumption) (by first|assumption|decide) hc;cases e_)|(obtain⟨U,e_,c_⟩:=bO (by assumption) (by first|assumption|decide) hc;cases e_)|(obtain⟨U,e_,F,G,H,I⟩:=eN (a6.out (self:=by assumption)) _ (by first|assumption|decide) hc;cases e_;replace F:=bj.mk F;replace G:=bj.mk G;replace H:=bj.mk H;replace I:=bj.mk I))|(have hd:=ah hc)|skip)|((with_reducible replace h:=bP h);obtain⟨D,h⟩:=h;replace D:=A_ D;(try dsimp only at h))))
  all_goals first
   |(go_roundg k1;(case measure=>have:=aT.out;omega);(case rel=>exact⟨_,_,(by first|rfl|(simp;done)),⟨h⟩,⟨by have:=aT.out;omega⟩,⟨by first|exact a8|exact bN rfl|exact bN (by simp)|exact Kd.aY _ _ _ _ _⟩,⟨aJ.out⟩,⟨From.out⟩⟩))
   |((try obtain rfl:=aA h);go_ret;exact⟨(.slice _ _ _),rfl,(by first|exact a8|exact bN rfl|exact bN (by simp)|exact Kd.aY _ _ _ _ _|exact bG|exact dD (by simp)),From.out⟩)
def eF.f (k:Nat) (z:List (ag)) (G:Int) (F:List Int):Option ((List (ag))×Int×List Int×Bool):=(iA.f z G F).bind fun D=>((dz.f k z G F).bind fun u=>(if(u.length:Int)=0 then(some (D.1,D.2.1,D.2.2,false))else(if 0<(u.length:Int)then(if 0≤(rd u 0)then(if(rd u 0)<(z.length:Int)then(if 0≤((ar z (rd u 0)).f0)then(if((ar z (rd u 0)).f0)<(F.length:Int)then((cy.f k (rd F ((ar z (rd u 0)).f0)) ((ar z (rd u 0)).f2) ((ar z (rd u 0)).f3)).bind fun H=>(if H=0 then(some (D.1,D.2.1,D.2.2,false))else(if 0≤((ar z (rd u 0)).f1)then(if((ar z (rd u 0)).f1)<(D.2.2.length:Int)then(some (D.1,D.2.1,(D.2.2.set (((ar z (rd u 0)).f1):Int).toNat H),true))else(none))else(none))))else(none))else(none))else(none))else(none))else(none))))
def eF.T5:Bool×List (List Nat×List Nat):=(true,[([],[]),([0],[0]),([],[]),([2],[2]),([3],[3]),([1,4],[1,4]),([5],[5]),([],[]),([7,6,0,1,2,3,4,5,6,7],[6,7])])
def eF.B5:List Nat:=[0,1,0,4,12,31,63,0,255]
theorem eF.oO:aW .any (opsOf Tryz.f113 5)=eF.T5:=by kernel_rfl
theorem eF.nT:bL eF.T5.2 eF.B5=true:=by kernel_rfl
def eF.T6:Bool×List (List Nat×List Nat):=(true,[([],[]),([0],[0]),([],[]),([2],[2]),([1,3],[1,3]),([4],[4]),([],[]),([6],[6]),([],[]),([8],[8]),([5,7,9],[5,7,9]),([10,10,0,1,2,3,4,5,6,7,8,9,10],[10])])
def eF.B6:List Nat:=[0,1,0,4,15,31,0,64,0,256,1023,2047]
theorem eF.rX:aW .any (opsOf Tryz.f113 6)=eF.T6:=by kernel_rfl
theorem eF.qY:bL eF.T6.2 eF.B6=true:=by kernel_rfl
theorem eF.c (k:Nat) (I:Option Addr) (U:Nat) (D:List (ag)) (O:Int) (J:Option Addr) (V:Nat) (F:List Int) (r1:List (ag)) (r2:Int) (r3:List Int) (aE:Bool) (w:World) (aq:Kd.C aN w I D.length D) (am:D.length≤U) (ar:Kd.C (Kd.int .i64) w J F.length F) (ao:F.length≤V) (h:eF.f k D O F=some (r1,r2,r3,aE)):
  Calls Tryz.prog 113 #[.agg #[.slice I D.length U,.int .i64 O,.slice J F.length V]] w fun e w'=>∃aF aG:Value,e= .returned (.tuple #[.agg #[aF,.int .i64 r2,aG],.bool aE])∧Kd.R aN 110 w' w.heap.size (fun _=>True) aF r1∧Kd.R (Kd.int .i64) 3 w' w.heap.size (fun _=>True) aG r3∧Below w.heap.size w w':=by
 replace aq:=a6.mk aq;replace am:=af.mk am;replace ar:=a6.mk ar;replace ao:=af.mk ao;have aV:=bK.mk (d:=aN) (e:=110) (t:=3) (by decide);have aU:=bK.mk (d:=aN) (e:=110) (t:=27) (by decide);unfold eF.f at h;have aQ:=Tryz.underlying27;have aP:=Tryz.underlying110
 all_goals go_enter Tryz.func113,Tryz.ntmps113
 all_goals go_wp2_with ((first
  |((with_reducible refine aC (N:=1) rfl ?_);refine bV #[.slice I D.length U,.int .i64 O,.slice J F.length V] 27 fun g w1 j1 j2 aB=> ?_)
  |((with_reducible refine aC (N:=2) rfl ?_);refine bV #[.slice none 0 0,.int .i64 0,.slice none 0 0] 27 fun g w1 j1 j2 aB=> ?_)
  |((with_reducible refine aC (N:=4) rfl ?_);refine bV #[.slice none 0 0,.int .i64 0,.slice none 0 0] 27 fun g w1 j1 j2 aB=> ?_)
  |(go_at_call 68;(try rw[H.out]);replace h:=bI h;obtain⟨⟨t1,t2,t3⟩,A,h⟩:=h;(try dsimp only at h);refine(iA.c _ _ _ _ _ _ _ _ _ _ _ Rd.out af.out Rd.out af.out A).mono ?_;rintro e w2 ⟨v0,v1,rfl,G,ap,hb⟩;obtain⟨aH,b0,rfl,j0,q0⟩:=av G;obtain⟨B1,b1,rfl,j1,q1⟩:=av ap;have aD:=au.mk hb;clear A G ap hb)
  |(go_at_call 112;(try rw[H.out]);replace h:=bI h;obtain⟨t,A,h⟩:=h;(try dsimp only at h);refine(dz.c _ _ _ _ _ _ _ _ _ _ Rd.out af.out Rd.out af.out A).mono ?_;rintro e w2 ⟨v0,rfl,G,hb⟩;obtain⟨aH,b0,rfl,j0,q0⟩:=av G;have aD:=au.mk hb;clear A G hb)
  |(refine qR (id:=5) (ds:=[]) (l:= #[false,false,false,false,false,false,false,false,false]) eF.oO eF.nT ?_;intro u z w3 aL u0 aK hHeld;refine qA 0 (some 16) u ?_;refine qA 2 (some 18) u ?_;refine qA 3 (some 19) u ?_;refine qT 1 (some 17) u z hHeld ?_;refine qT 4 (some 20) u z hHeld ?_;refine qA 5 (some 21) u ?_;refine qT 6 (some 22) u z hHeld ?_;refine qB 7 6 #[.int .i64 0,.int .i64 0,.int .i64 0,.int .i64 0] 110 u hHeld fun gx aR wx aS aT hHeld=> ?_;refine qS 8 u fun hHeld=> ?_;refine qD u ?_)
  |(refine qR (id:=6) (ds:=[]) (l:= #[false,false,false,false,false,false,false,false,false,false,false,false]) eF.rX eF.qY ?_;intro u z w3 aL u0 aK hHeld;refine qA 0 (some 23) u ?_;refine qA 2 (some 25) u ?_;refine qA 6 (some 29) u ?_;refine qA 8 (some 31) u ?_;refine qT 1 (some 24) u z hHeld ?_;refine qT 3 (some 26) u z hHeld ?_;refine qA 4 (some 27) u ?_;refine qT 5 (some 28) u z hHeld ?_;refine qT 7 (some 30) u z hHeld ?_;refine qT 9 (some 32) u z hHeld ?_;replace h:=bI h;obtain⟨t,A,h⟩:=h;(try dsimp only at h);refine qC 10 33 Tryz.func134 u fun K hK=> ?_;refine(cy.c _ _ _ _ _ _ A).mono ?_;rintro e w2 ⟨rfl,hb⟩;have aD:=au.mk hb;clear A hb;refine⟨_,rfl,hK _ _ From.out fun hHeld=> ?_⟩;clear hK K;refine qN ?_;refine qA 11 (some 7) u ?_;refine qD u ?_));(repeat' first|((with_reducible replace h:=bC h);rcases h with ⟨hc,h⟩|⟨hc,h⟩<;>first|exact(bo h).elim|exact absurd hc (by decide)|subst hc|(replace hc:=aM hc;subst hc)|(replace hc:=bR hc;subst hc)|(replace hc:=bS hc;subst hc)|(have hd:(_==_)=true:=hc)|(have hd:(_==_)=false:=aM hc)|(have hd:=bw hc;have he:=bz hc;clear hc)|(have hd:=bA hc;have he:=bB hc)|(have hd:=ax hc)|(have hd:=ah hc;(try(have hn:=Int.natCast_pos.mp hc;have hm:=ah hn;replace hn:=aw hn));first|(obtain⟨aO,e_,i_⟩:=bQ (by assumption) (by first|assumption|decide) hc;cases e_)|(obtain⟨aI,e_,c_⟩:=bO (by assumption) (by first|assumption|decide) hc;cases e_)|(obtain⟨aI,e_,X,ad,ak,al⟩:=eN (a6.out (self:=by assumption)) _ (by first|assumption|decide) hc;cases e_;replace X:=bj.mk X;replace ad:=bj.mk ad;replace ak:=bj.mk ak;replace al:=bj.mk al))|(have hd:=ah hc)|skip)|((with_reducible replace h:=bP h);obtain⟨H,h⟩:=h;replace H:=A_ H;(try dsimp only at h)));all_goals(try have hn:decide (0<t.length)=true:=ah (by omega));all_goals(try have hn:decide (0<t.length)=false:=ax (by omega)))
 all_goals simp only[Option.some.injEq,Prod.mk.injEq]at h
 all_goals obtain⟨rfl,rfl,rfl,rfl⟩:=h
 all_goals refine bodyPost_ret (dW rfl _ _ _ _ _ (0,0) _ rfl aJ.out Tryz.underlying27 rfl (by kernel_rfl)) rfl ?_
 all_goals exact⟨_,_,rfl,(by first|exact a8|exact Kd.aY _ _ _ _ _|exact bG|exact dD (by simp)),(by first|exact a8|exact Kd.aY _ _ _ _ _|exact bG|exact dD (by simp)),From.out⟩
def eM.j0:Nat→Bool→List (ag)→Int→List Int→List (ag)→Int→List Int→Option ((List (ag))×Int×List Int×Bool)
 |0,_,_,_,_,_,_,_=>none
 |k+1,J,z,u,H,F,I,D=>if J=true then(some (F,I,D,false))else(if 0≤u then(if u<(z.length:Int)then(if 0≤((ar z u).f0)then(if((ar z u).f0)<(H.length:Int)then((cy.f k (rd H ((ar z u).f0)) ((ar z u).f2) ((ar z u).f3)).bind fun G=>(if G=0 then(some (F,I,D,false))else(if 0≤((ar z u).f1)then(if((ar z u).f1)<(D.length:Int)then(some (F,wrap64 (u+1),(D.set (((ar z u).f1):Int).toNat G),true))else(none))else(none))))else(none))else(none))else(none))else(none))
def eM.f (k:Nat) (D:List (ag)) (z:Int) (F:List Int):Option ((List (ag))×Int×List Int×Bool):=(iA.f D z F).bind fun u=>((cI.f k D z F).bind fun G=>(if G=true then(eM.j0 k (z==(D.length:Int)) D z F u.1 u.2.1 u.2.2)else(eM.j0 k true D z F u.1 u.2.1 u.2.2)))
def eM.T5:Bool×List (List Nat×List Nat):=(true,[([],[]),([0],[0]),([],[]),([2],[2]),([1,3],[1,3]),([4],[4]),([],[]),([6],[6]),([],[]),([8],[8]),([5,7,9],[5,7,9]),([10,10,0,1,2,3,4,5,6,7,8,9,10],[10])])
def eM.B5:List Nat:=[0,1,0,4,15,31,0,64,0,256,1023,2047]
theorem eM.oO:aW .any (opsOf Tryz.f114 5)=eM.T5:=by kernel_rfl
theorem eM.nT:bL eM.T5.2 eM.B5=true:=by kernel_rfl
theorem eM.c (k:Nat) (H:Option Addr) (O:Nat) (z:List (ag)) (J:Int) (I:Option Addr) (U:Nat) (D:List Int) (r1:List (ag)) (r2:Int) (r3:List Int) (aE:Bool) (w:World) (ar:Kd.C aN w H z.length z) (am:z.length≤O) (aB:Kd.C (Kd.int .i64) w I D.length D) (ao:D.length≤U) (h:eM.f k z J D=some (r1,r2,r3,aE)):
  Calls Tryz.prog 114 #[.agg #[.slice H z.length O,.int .i64 J,.slice I D.length U]] w fun e w'=>∃aF aG:Value,e= .returned (.tuple #[.agg #[aF,.int .i64 r2,aG],.bool aE])∧Kd.R aN 110 w' w.heap.size (fun _=>True) aF r1∧Kd.R (Kd.int .i64) 3 w' w.heap.size (fun _=>True) aG r3∧Below w.heap.size w w':=by
 replace ar:=a6.mk ar;replace am:=af.mk am;replace aB:=a6.mk aB;replace ao:=af.mk ao;have aS:=bK.mk (d:=aN) (e:=110) (t:=3) (by decide);have aR:=bK.mk (d:=aN) (e:=110) (t:=27) (by decide);unfold eM.f at h;have aO:=Tryz.underlying27;have aL:=Tryz.underlying110
 all_goals go_enter Tryz.func114,Tryz.ntmps114
 all_goals go_wp2_with ((first
  |((with_reducible refine aC (N:=1) rfl ?_);refine bV #[.slice H z.length O,.int .i64 J,.slice I D.length U] 27 fun g w1 j1 j2 V=> ?_)
  |((with_reducible refine aC (N:=2) rfl ?_);refine bV #[.slice none 0 0,.int .i64 0,.slice none 0 0] 27 fun g w1 j1 j2 V=> ?_)
  |((with_reducible refine aC (N:=4) rfl ?_);refine bV #[.slice none 0 0,.int .i64 0,.slice none 0 0] 27 fun g w1 j1 j2 V=> ?_)
  |((with_reducible refine aC (N:=5) rfl ?_);refine bV #[.int .i64 0,.int .i64 0,.int .i64 0,.int .i64 0] 110 fun g w1 j1 j2 V=> ?_)
  |(go_at_call 68;(try rw[G.out]);replace h:=bI h;obtain⟨⟨t1,t2,t3⟩,A,h⟩:=h;(try dsimp only at h);refine(iA.c _ _ _ _ _ _ _ _ _ _ _ Rd.out af.out Rd.out af.out A).mono ?_;rintro e w2 ⟨v0,v1,rfl,ap,aq,hb⟩;obtain⟨aI,b0,rfl,j0,q0⟩:=av ap;obtain⟨B1,b1,rfl,j1,q1⟩:=av aq;have aD:=au.mk hb;clear A ap aq hb)
  |(go_at_call 70;(try rw[G.out]);replace h:=bI h;obtain⟨t,A,h⟩:=h;(try dsimp only at h);refine(cI.c _ _ _ _ _ _ _ _ _ _ Rd.out af.out Rd.out af.out A).mono ?_;rintro e w2 ⟨rfl,hb⟩;have aD:=au.mk hb;clear A hb)
  |(refine qR (id:=5) (ds:=[]) (l:= #[false,false,false,false,false,false,false,false,false,false,false,false]) eM.oO eM.nT ?_;intro u F w3 aQ u0 aP hHeld;refine qA 0 (some 27) u ?_;refine qA 2 (some 29) u ?_;refine qA 6 (some 33) u ?_;refine qA 8 (some 35) u ?_;refine qT 1 (some 28) u F hHeld ?_;refine qT 3 (some 30) u F hHeld ?_;refine qA 4 (some 31) u ?_;refine qT 5 (some 32) u F hHeld ?_;refine qT 7 (some 34) u F hHeld ?_;refine qT 9 (some 36) u F hHeld ?_;replace h:=bI h;obtain⟨t,A,h⟩:=h;(try dsimp only at h);refine qC 10 37 Tryz.func134 u fun K hK=> ?_;refine(cy.c _ _ _ _ _ _ A).mono ?_;rintro e w2 ⟨rfl,hb⟩;have aD:=au.mk hb;clear A hb;refine⟨_,rfl,hK _ _ From.out fun hHeld=> ?_⟩;clear hK K;refine qN ?_;refine qA 11 (some 6) u ?_;refine qD u ?_));(repeat' first|((with_reducible replace h:=bC h);rcases h with ⟨hc,h⟩|⟨hc,h⟩<;>first|exact(bo h).elim|exact absurd hc (by decide)|subst hc|(replace hc:=aM hc;subst hc)|(replace hc:=bR hc;subst hc)|(replace hc:=bS hc;subst hc)|(have hd:(_==_)=true:=hc)|(have hd:(_==_)=false:=aM hc)|(have hd:=bw hc;have he:=bz hc;clear hc)|(have hd:=bA hc;have he:=bB hc)|(have hd:=ax hc)|(have hd:=ah hc;(try(have hn:=Int.natCast_pos.mp hc;have hm:=ah hn;replace hn:=aw hn));first|(obtain⟨aK,e_,i_⟩:=bQ (by assumption) (by first|assumption|decide) hc;cases e_)|(obtain⟨aH,e_,c_⟩:=bO (by assumption) (by first|assumption|decide) hc;cases e_)|(obtain⟨aH,e_,X,ad,ak,al⟩:=eN (a6.out (self:=by assumption)) _ (by first|assumption|decide) hc;cases e_;replace X:=bj.mk X;replace ad:=bj.mk ad;replace ak:=bj.mk ak;replace al:=bj.mk al))|(have hd:=ah hc)|skip)|((with_reducible have hj:eM.j0 k _ _ _ _ _ _ _=_:=h);clear hj;rcases k with _|k<;>rw[eM.j0]at h<;>first|exact(bo h).elim|skip)|((with_reducible replace h:=bP h);obtain⟨G,h⟩:=h;replace G:=A_ G;(try dsimp only at h))))
 all_goals simp only[Option.some.injEq,Prod.mk.injEq]at h
 all_goals obtain⟨rfl,rfl,rfl,rfl⟩:=h
 all_goals refine bodyPost_ret (dW rfl _ _ _ _ _ (0,0) _ rfl aJ.out Tryz.underlying27 rfl (by kernel_rfl)) rfl ?_
 all_goals exact⟨_,_,rfl,(by first|exact a8|exact Kd.aY _ _ _ _ _|exact bG|exact dD (by simp)),(by first|exact a8|exact Kd.aY _ _ _ _ _|exact bG|exact dD (by simp)),From.out⟩
def eu.j0:Nat→Int→Int→Bool→List (ag)→Int→List Int→List (ag)→Int→List Int→Option ((List (ag))×Int×List Int×Bool)
 |0,_,_,_,_,_,_,_,_,_=>none
 |k+1,x1,x2,I,J,K,O,D,F,u=>if I=true then(some (D,F,u,false))else(if 0≤x1 then(if x1<(u.length:Int)then((some (u.set (x1:Int).toNat (wrap64 ((rd u x1)+x2)):List Int)).bind fun G=>((cI.f k D F G).bind fun H=>(if H=true then(some (D,F,G,true))else((iA.f J K O).bind fun z=>(some (z.1,z.2.1,z.2.2,false))))))else(none))else(none))
def eu.f (k:Nat) (F:List (ag)) (D:Int) (z:List Int) (a1:Int) (a2:Int):Option ((List (ag))×Int×List Int×Bool):=(iA.f F D z).bind fun u=>((cI.f k F D z).bind fun G=>(if G=true then((cA.f a1 0 11).bind fun H=>(if H=true then((cA.f a2 (-100000) 100000).bind fun I=>(if I=true then(if 0≤a1 then(if a1<(z.length:Int)then(eu.j0 k a1 a2 ((rd z a1)==0) F D z u.1 u.2.1 u.2.2)else(none))else(none))else(eu.j0 k a1 a2 true F D z u.1 u.2.1 u.2.2)))else(eu.j0 k a1 a2 true F D z u.1 u.2.1 u.2.2)))else(eu.j0 k a1 a2 true F D z u.1 u.2.1 u.2.2)))
def eu.T4:Bool×List (List Nat×List Nat):=(true,[([],[]),([0],[0]),([],[]),([],[]),([3],[3]),([],[]),([4,5],[4,5]),([6],[6]),([],[]),([7,8],[7,8]),([1,2,0,1,2,3,4,5,6,7,8,9],[1,2]),([10,9,0,1,2,3,4,5,6,7,8,9],[9,10])])
def eu.B4:List Nat:=[0,1,0,0,8,0,56,120,0,504,1023,2047]
theorem eu.oM:aW .any (opsOf Tryz.f116 4)=eu.T4:=by kernel_rfl
theorem eu.nS:bL eu.T4.2 eu.B4=true:=by kernel_rfl
theorem eu.c (k:Nat) (G:Option Addr) (K:Nat) (z:List (ag)) (J:Int) (H:Option Addr) (O:Nat) (D:List Int) (a1:Int) (a2:Int) (r1:List (ag)) (r2:Int) (r3:List Int) (ao:Bool) (w:World) (ak:Kd.C aN w G z.length z) (U:z.length≤K) (al:Kd.C (Kd.int .i64) w H D.length D) (V:D.length≤O) (h:eu.f k z J D a1 a2=some (r1,r2,r3,ao)):
  Calls Tryz.prog 116 #[.agg #[.slice G z.length K,.int .i64 J,.slice H D.length O],.int .i64 a1,.int .i64 a2] w fun e w'=>∃ap aq:Value,e= .returned (.tuple #[.agg #[ap,.int .i64 r2,aq],.bool ao])∧Kd.R aN 110 w' w.heap.size (fun _=>True) ap r1∧Kd.R (Kd.int .i64) 3 w' w.heap.size (fun _=>True) aq r3∧Below w.heap.size w w':=by
 replace ak:=a6.mk ak;replace U:=af.mk U;replace al:=a6.mk al;replace V:=af.mk V;have aK:=bK.mk (d:=aN) (e:=110) (t:=3) (by decide);have aI:=bK.mk (d:=aN) (e:=110) (t:=27) (by decide);unfold eu.f at h;have aF:=Tryz.underlying27
 all_goals go_enter Tryz.func116,Tryz.ntmps116
 all_goals go_wp2_with ((first
  |((with_reducible refine aC (N:=3) rfl ?_);refine bV #[.slice G z.length K,.int .i64 J,.slice H D.length O] 27 fun g w1 j1 j2 am=> ?_)
  |((with_reducible refine aC (N:=6) rfl ?_);refine bV #[.slice none 0 0,.int .i64 0,.slice none 0 0] 27 fun g w1 j1 j2 am=> ?_)
  |((with_reducible refine aC (N:=8) rfl ?_);refine bV #[.slice none 0 0,.int .i64 0,.slice none 0 0] 27 fun g w1 j1 j2 am=> ?_)
  |(go_at_call 68;(try rw[F.out]);replace h:=bI h;obtain⟨⟨t1,t2,t3⟩,A,h⟩:=h;(try dsimp only at h);refine(iA.c _ _ _ _ _ _ _ _ _ _ _ Rd.out af.out Rd.out af.out A).mono ?_;rintro e w2 ⟨v0,v1,rfl,X,ad,hb⟩;obtain⟨aB,b0,rfl,j0,q0⟩:=av X;obtain⟨B1,b1,rfl,j1,q1⟩:=av ad;have ar:=au.mk hb;clear A X ad hb)
  |(go_at_call 70;(try rw[F.out]);replace h:=bI h;obtain⟨t,A,h⟩:=h;(try dsimp only at h);refine(cI.c _ _ _ _ _ _ _ _ _ _ Rd.out af.out Rd.out af.out A).mono ?_;rintro e w2 ⟨rfl,hb⟩;have ar:=au.mk hb;clear A hb)
  |(go_at_call 72;(try rw[F.out]);replace h:=bI h;obtain⟨t,A,h⟩:=h;(try dsimp only at h);refine(cA.c _ _ _ _ _ A).mono ?_;rintro e w2 ⟨rfl,n,rfl⟩;clear A)
  |(refine qR (id:=4) (ds:=[11]) (l:= #[false,false,false,false,false,false,false,false,false,false,false,false]) eu.oM eu.nS ?_;intro u I w3 aH u0 aG hHeld;refine qA 0 (some 33) u ?_;refine qA 2 (some 35) u ?_;refine qA 3 (some 36) u ?_;refine qA 5 (some 38) u ?_;refine qA 8 (some 41) u ?_;refine qT 1 (some 34) u I hHeld ?_;refine qT 4 (some 37) u I hHeld ?_;refine qA 6 (some 39) u ?_;refine qT 7 (some 40) u I hHeld ?_;refine qA 9 (some 42) u ?_;refine qA 10 (some 43) u ?_;refine qL 11 u ?_;refine qD u ?_));(repeat' first|((with_reducible replace h:=bC h);rcases h with ⟨hc,h⟩|⟨hc,h⟩<;>first|exact(bo h).elim|exact absurd hc (by decide)|subst hc|(replace hc:=aM hc;subst hc)|(replace hc:=bR hc;subst hc)|(replace hc:=bS hc;subst hc)|(have hd:(_==_)=true:=hc)|(have hd:(_==_)=false:=aM hc)|(have hd:=bw hc;have he:=bz hc;clear hc)|(have hd:=bA hc;have he:=bB hc)|(have hd:=ax hc)|(have hd:=ah hc;(try(have hn:=Int.natCast_pos.mp hc;have hm:=ah hn;replace hn:=aw hn));first|(obtain⟨aE,e_,i_⟩:=bQ (by assumption) (by first|assumption|decide) hc;cases e_)|(obtain⟨aD,e_,c_⟩:=bO (by assumption) (by first|assumption|decide) hc;cases e_))|(have hd:=ah hc)|skip)|((with_reducible have hj:eu.j0 k _ _ _ _ _ _ _ _ _=_:=h);clear hj;rcases k with _|k<;>rw[eu.j0]at h<;>first|exact(bo h).elim|skip)|((with_reducible replace h:=bP h);obtain⟨F,h⟩:=h;replace F:=A_ F;(try dsimp only at h))))
 all_goals simp only[Option.some.injEq,Prod.mk.injEq]at h
 all_goals obtain⟨rfl,rfl,rfl,rfl⟩:=h
 all_goals refine bodyPost_ret (dW rfl _ _ _ _ _ (0,0) _ rfl aJ.out Tryz.underlying27 rfl (by kernel_rfl)) rfl ?_
 all_goals exact⟨_,_,rfl,(by first|exact a8|exact Kd.aY _ _ _ _ _|exact bG|exact dD (by simp)),(by first|exact a8|exact Kd.aY _ _ _ _ _|exact bG|exact dD (by simp)),From.out⟩
def eK.j0:Nat→Bool→List (ag)→Int→List Int→List (ag)→Int→List Int→Option ((List (ag))×Int×List Int×Bool)
 |0,_,_,_,_,_,_,_=>none
 |k+1,I,z,u,J,F,G,D=>if I=true then(some (F,G,D,false))else((fD.f k z u J u).bind fun H=>(if H=0 then(some (F,G,D,false))else(if 0≤u then(if u<(z.length:Int)then(if 0≤((ar z u).f1)then(if((ar z u).f1)<(D.length:Int)then(some (F,wrap64 (G+1),(D.set (((ar z u).f1):Int).toNat H),true))else(none))else(none))else(none))else(none))))
def eK.f (k:Nat) (D:List (ag)) (z:Int) (F:List Int):Option ((List (ag))×Int×List Int×Bool):=(fc.f D z F).bind fun u=>((fJ.f D z F).bind fun G=>(if G=true then(eK.j0 k (z==(D.length:Int)) D z F u.1 u.2.1 u.2.2)else(eK.j0 k true D z F u.1 u.2.1 u.2.2)))
def eK.T7:Bool×List (List Nat×List Nat):=(true,[([],[]),([0],[0]),([],[]),([2],[2]),([],[]),([4],[4]),([3,5],[3,5]),([6],[6]),([7],[7]),([],[]),([1,8,0,1,2,3,4,5,6,7,8,9],[1,8]),([10,9,0,1,2,3,4,5,6,7,8,9],[9,10])])
def eK.B7:List Nat:=[0,1,0,4,0,16,60,124,252,0,1023,2047]
theorem eK.nC:aW .any (opsOf Tryz.f99 7)=eK.T7:=by kernel_rfl
theorem eK.mW:bL eK.T7.2 eK.B7=true:=by kernel_rfl
theorem eK.c (k:Nat) (H:Option Addr) (K:Nat) (z:List (ag)) (J:Int) (I:Option Addr) (O:Nat) (D:List Int) (r1:List (ag)) (r2:Int) (r3:List Int) (aD:Bool) (w:World) (ap:Kd.C aN w H z.length z) (ak:z.length≤K) (aq:Kd.C (Kd.int .i64) w I D.length D) (al:D.length≤O) (h:eK.f k z J D=some (r1,r2,r3,aD)):
  Calls Tryz.prog 99 #[.agg #[.slice H z.length K,.int .i64 J,.slice I D.length O]] w fun e w'=>∃aE aF:Value,e= .returned (.tuple #[.agg #[aE,.int .i64 r2,aF],.bool aD])∧Kd.R aN 110 w' w.heap.size (fun _=>True) aE r1∧Kd.R (Kd.int .i64) 3 w' w.heap.size (fun _=>True) aF r3∧Below w.heap.size w w':=by
 replace ap:=a6.mk ap;replace ak:=af.mk ak;replace aq:=a6.mk aq;replace al:=af.mk al;have aQ:=bK.mk (d:=aN) (e:=110) (t:=3) (by decide);have aP:=bK.mk (d:=aN) (e:=110) (t:=27) (by decide);unfold eK.f at h;have aK:=Tryz.underlying27
 all_goals go_enter Tryz.func99,Tryz.ntmps99
 all_goals go_wp2_with ((first
  |((with_reducible refine aC (N:=1) rfl ?_);refine bV #[.slice H z.length K,.int .i64 J,.slice I D.length O] 27 fun g w1 j1 j2 ar=> ?_)
  |((with_reducible refine aC (N:=2) rfl ?_);refine bV #[.slice none 0 0,.int .i64 0,.slice none 0 0] 27 fun g w1 j1 j2 ar=> ?_)
  |((with_reducible refine aC (N:=4) rfl ?_);refine bV #[.slice none 0 0,.int .i64 0,.slice none 0 0] 27 fun g w1 j1 j2 ar=> ?_)
  |(go_at_call 53;(try rw[F.out]);replace h:=bI h;obtain⟨⟨t1,t2,t3⟩,A,h⟩:=h;(try dsimp only at h);refine(fc.c _ _ _ _ _ _ _ _ _ _ _ Rd.out af.out Rd.out af.out A).mono ?_;rintro e w2 ⟨v0,v1,rfl,am,ao,hb⟩;obtain⟨aH,b0,rfl,j0,q0⟩:=av am;obtain⟨B1,b1,rfl,j1,q1⟩:=av ao;have aB:=au.mk hb;clear A am ao hb)
  |(go_at_call 55;(try rw[F.out]);replace h:=bI h;obtain⟨t,A,h⟩:=h;(try dsimp only at h);refine(fJ.c _ _ _ _ _ _ _ _ _ Rd.out af.out Rd.out af.out A).mono ?_;rintro e w2 ⟨rfl,hb⟩;have aB:=au.mk hb;clear A hb)
  |(go_at_call 131;(try rw[F.out]);replace h:=bI h;obtain⟨t,A,h⟩:=h;(try dsimp only at h);refine(fD.c _ _ _ _ _ _ _ _ _ _ _ Rd.out af.out Rd.out af.out A).mono ?_;rintro e w2 ⟨rfl,hb⟩;have aB:=au.mk hb;clear A hb)
  |(refine qR (id:=7) (ds:=[11]) (l:= #[false,false,false,false,false,false,false,false,false,false,false,false]) eK.nC eK.mW ?_;intro u G w3 aO u0 aL hHeld;refine qA 0 (some 27) u ?_;refine qA 2 (some 29) u ?_;refine qA 4 (some 31) u ?_;refine qA 9 (some 36) u ?_;refine qT 1 (some 28) u G hHeld ?_;refine qT 3 (some 30) u G hHeld ?_;refine qT 5 (some 32) u G hHeld ?_;refine qA 6 (some 33) u ?_;refine qA 7 (some 34) u ?_;refine qT 8 (some 35) u G hHeld ?_;refine qA 10 (some 37) u ?_;refine qL 11 u ?_;refine qD u ?_));(repeat' first|((with_reducible replace h:=bC h);rcases h with ⟨hc,h⟩|⟨hc,h⟩<;>first|exact(bo h).elim|exact absurd hc (by decide)|subst hc|(replace hc:=aM hc;subst hc)|(replace hc:=bR hc;subst hc)|(replace hc:=bS hc;subst hc)|(have hd:(_==_)=true:=hc)|(have hd:(_==_)=false:=aM hc)|(have hd:=bw hc;have he:=bz hc;clear hc)|(have hd:=bA hc;have he:=bB hc)|(have hd:=ax hc)|(have hd:=ah hc;(try(have hn:=Int.natCast_pos.mp hc;have hm:=ah hn;replace hn:=aw hn));first|(obtain⟨aI,e_,i_⟩:=bQ (by assumption) (by first|assumption|decide) hc;cases e_)|(obtain⟨aG,e_,c_⟩:=bO (by assumption) (by first|assumption|decide) hc;cases e_)|(obtain⟨aG,e_,U,V,X,ad⟩:=eN (a6.out (self:=by assumption)) _ (by first|assumption|decide) hc;cases e_;replace U:=bj.mk U;replace V:=bj.mk V;replace X:=bj.mk X;replace ad:=bj.mk ad))|(have hd:=ah hc)|skip)|((with_reducible have hj:eK.j0 k _ _ _ _ _ _ _=_:=h);clear hj;rcases k with _|k<;>rw[eK.j0]at h<;>first|exact(bo h).elim|skip)|((with_reducible replace h:=bP h);obtain⟨F,h⟩:=h;replace F:=A_ F;(try dsimp only at h))))
 all_goals simp only[Option.some.injEq,Prod.mk.injEq]at h
 all_goals obtain⟨rfl,rfl,rfl,rfl⟩:=h
 all_goals refine bodyPost_ret (dW rfl _ _ _ _ _ (0,0) _ rfl aJ.out Tryz.underlying27 rfl (by kernel_rfl)) rfl ?_
 all_goals exact⟨_,_,rfl,(by first|exact a8|exact Kd.aY _ _ _ _ _|exact bG|exact dD (by simp)),(by first|exact a8|exact Kd.aY _ _ _ _ _|exact bG|exact dD (by simp)),From.out⟩
end P

end Go.Proofs.YtnjfiaekdcekgaaGreatDoor
