/- What functions of the program come to (f), that their calls come to just this (calls), and the plain laws over lists and numbers. No condition but those of the given row. -/
import Derived.Test.YtnjfiaekdcekgaaGreatDoorE4
import Derived.Deep.RegionHeld3
import Derived.Shelf.GgSortFunc.Insertion
import Derived.Sort.WalkA6
import Derived.Sort.WalkC
import Derived.Sort.LotC
import Derived.Shelf.SlSortFuncK.PdqK
import Derived.RangeFuncBox
set_option linter.unusedVariables false
set_option linter.unusedSimpArgs false
namespace Go.Proofs.YtnjfiaekdcekgaaGreatDoor
namespace P
set_option maxHeartbeats 8000000
set_option maxRecDepth 100000
open Go.RowKit WW.bc WW.bY WW.bZ V
attribute [local go_sem] dB dC
attribute [local go_sem] cP cT cS cW cR cV cQ cU
def dm.l0:Nat→List ByteArray→List (S64)→Int→Int→Option (List ByteArray)
 |0,_,_,_,_=>none
 |k+1,x3,z,D,u=>if u<D then(if 0≤u then(if u<(z.length:Int)then((cN.f k (([(aq z u).f0.f0,(aq z u).f0.f1,(aq z u).f1,(aq z u).f2]:List Int))).bind fun F=>(if x3.length<8796093022208 then(dm.l0 k (x3++[F]) z D (wrap64 (u+1)))else(none)))else(none))else(none))else(some x3)
def dm.f (k:Nat) (O:List (ag)) (z:Int) (G:List Int) (D:Int) (F:Int) (u:List (S64)):Option (List ByteArray):=(dV.f k O z G D F u).bind fun U=>(if U=true then((cN.f k G).bind fun H=>(if 8+H.size≤9223372036854775807 then((cN.f k (([z]:List Int))).bind fun I=>(if 5+I.size≤9223372036854775807 then((cN.f k (([D]:List Int))).bind fun J=>(if 7+J.size≤9223372036854775807 then((cN.f k (([F]:List Int))).bind fun K=>(if 7+K.size≤9223372036854775807 then(dm.l0 k (([(⟨#[112,105,116,99,104,101,115,32]⟩:ByteArray)++H,(⟨#[100,111,110,101,32]⟩:ByteArray)++I,(⟨#[119,97,114,109,116,104,32]⟩:ByteArray)++J,(⟨#[109,111,109,101,110,116,32]⟩:ByteArray)++K]:List ByteArray)) u (u.length:Int) 0)else(none)))else(none)))else(none)))else(none)))else(some ([]:List ByteArray)))
def dm.T3:Bool×List (List Nat×List Nat):=(true,[([],[]),([0],[0]),([1],[1]),([2],[2]),([3],[3]),([],[]),([5],[5]),([6],[6]),([7],[7]),([8,3],[8]),([9],[9]),([],[]),([11],[11]),([12],[12]),([13,9],[13]),([14],[14]),([],[]),([16],[16]),([17],[17]),([18,14],[18]),([19],[19]),([4,10,15,20],[4,10,15,20]),([21,19,0,1,2,3,4,5,6,7,8,9,10,11,12,13,14,15,16,17,18,19,20,21],[21])])
def dm.B3:List Nat:=[0,1,3,7,15,0,32,96,224,495,1007,0,2048,6144,15343,31727,0,65536,196608,490479,1014767,2097151,4194303]
theorem dm.jR:aW .any (opsOf Tryz.f12 3)=dm.T3:=by kernel_rfl
theorem dm.jH:bL dm.T3.2 dm.B3=true:=by kernel_rfl
theorem dm.c (k:Nat) (bj:Option Addr) (bk:Nat) (a7:List (ag)) (aQ:Int) (a9:Option Addr) (bc:Nat) (aR:List Int) (aM:Int) (aH:Int) (bo:Option Addr) (bm:Nat) (F:List (S64)) (r:List ByteArray) (w:World) (dv:Kd.C aN w bj a7.length a7) (dq:a7.length≤bk) (dw:Kd.C (Kd.int .i64) w a9 aR.length aR) (dt:aR.length≤bc) (dx:Kd.C aK w bo F.length F) (du:F.length≤bm) (h:dm.f k a7 aQ aR aM aH F=some r) (bU:ae (kJ w)):
  Calls Tryz.prog 12 #[.agg #[.slice bj a7.length bk,.int .i64 aQ,.slice a9 aR.length bc,.int .i64 aM,.int .i64 aH,.slice bo F.length bm]] w fun e w'=>∃dF:Value,e= .returned (dF)∧Kd.R Kd.string 9 w' w.heap.size (fun _=>True) dF r∧Below w.heap.size w w':=by
 have fy:=Tryz.underlying30;have hu64:=Tryz.underlying64;have cR:=A_ dv;have cO:=A_ dq;clear dv dq;have b':=A_ dw;have b_:=A_ dt;clear dw dt;have ca:=A_ dx;have cP:=A_ du;clear dx du;have z:=A_ (Below.refl w.heap.size w);have H:((dV.f k a7 aQ aR aM aH F).bind fun cp=>(if cp=true then((cN.f k aR).bind fun a4=>(if 8+a4.size≤9223372036854775807 then((cN.f k (([aQ]:List Int))).bind fun a1=>(if 5+a1.size≤9223372036854775807 then((cN.f k (([aM]:List Int))).bind fun a0=>(if 7+a0.size≤9223372036854775807 then((cN.f k (([aH]:List Int))).bind fun aJ=>(if 7+aJ.size≤9223372036854775807 then(dm.l0 k (([(⟨#[112,105,116,99,104,101,115,32]⟩:ByteArray)++a4,(⟨#[100,111,110,101,32]⟩:ByteArray)++a1,(⟨#[119,97,114,109,116,104,32]⟩:ByteArray)++a0,(⟨#[109,111,109,101,110,116,32]⟩:ByteArray)++aJ]:List ByteArray)) F (F.length:Int) 0)else(none)))else(none)))else(none)))else(none)))else(some ([]:List ByteArray))))=some r:=h;clear h;replace H:=ay H;obtain⟨cp,cy,H⟩:=H
 (try dsimp only at H)
 have A2:=A_ cy;clear cy;by_cases c3:cp=true
 ·subst c3;rw[ai rfl]at H;replace H:=ay H;obtain⟨a4,cB,H⟩:=H
  (try dsimp only at H)
  have dL:=A_ cB;clear cB;by_cases c5:8+a4.size≤9223372036854775807
  ·rw[ai c5]at H;have d7:=aw c5;have d8:decide (8+a4.size≤9223372036854775807)=true:=ah c5
   try have d9:(9223372036854775807<8+a4.size)=False:=il (Nat.not_lt.2 c5)
   obtain⟨bG,bV⟩:∃br:List Int,br=(([aQ]:List Int)):=⟨_,rfl⟩;replace H:((cN.f k bG).bind fun a1=>(if 5+a1.size≤9223372036854775807 then((cN.f k (([aM]:List Int))).bind fun a0=>(if 7+a0.size≤9223372036854775807 then((cN.f k (([aH]:List Int))).bind fun aJ=>(if 7+aJ.size≤9223372036854775807 then(dm.l0 k (([(⟨#[112,105,116,99,104,101,115,32]⟩:ByteArray)++a4,(⟨#[100,111,110,101,32]⟩:ByteArray)++a1,(⟨#[119,97,114,109,116,104,32]⟩:ByteArray)++a0,(⟨#[109,111,109,101,110,116,32]⟩:ByteArray)++aJ]:List ByteArray)) F (F.length:Int) 0)else(none)))else(none)))else(none)))=some r:=by first|(rw[bV];with_reducible exact H)|(have a2:=(az _ _).symm.trans H;rw[bV];with_reducible exact a2)|(have a2:=(az _ _).symm.trans H;with_reducible exact a2)|with_reducible exact H|(rw[bV];exact H)|exact H
   have cS:=A_ bV;clear bV;replace H:=ay H;obtain⟨a1,cF,H⟩:=H
   (try dsimp only at H)
   have dN:=A_ cF;clear cF;by_cases c7:5+a1.size≤9223372036854775807
   ·rw[ai c7]at H;have d_:=aw c7;have d':decide (5+a1.size≤9223372036854775807)=true:=ah c7
    try have ea:(9223372036854775807<5+a1.size)=False:=il (Nat.not_lt.2 c7)
    obtain⟨bx,bW⟩:∃br:List Int,br=(([aM]:List Int)):=⟨_,rfl⟩;replace H:((cN.f k bx).bind fun a0=>(if 7+a0.size≤9223372036854775807 then((cN.f k (([aH]:List Int))).bind fun aJ=>(if 7+aJ.size≤9223372036854775807 then(dm.l0 k (([(⟨#[112,105,116,99,104,101,115,32]⟩:ByteArray)++a4,(⟨#[100,111,110,101,32]⟩:ByteArray)++a1,(⟨#[119,97,114,109,116,104,32]⟩:ByteArray)++a0,(⟨#[109,111,109,101,110,116,32]⟩:ByteArray)++aJ]:List ByteArray)) F (F.length:Int) 0)else(none)))else(none)))=some r:=by first|(rw[bW];with_reducible exact H)|(have a2:=(az _ _).symm.trans H;rw[bW];with_reducible exact a2)|(have a2:=(az _ _).symm.trans H;with_reducible exact a2)|with_reducible exact H|(rw[bW];exact H)|exact H
    have cT:=A_ bW;clear bW;replace H:=ay H;obtain⟨a0,cH,H⟩:=H
    (try dsimp only at H)
    have dP:=A_ cH;clear cH;by_cases c9:7+a0.size≤9223372036854775807
    ·rw[ai c9]at H;have eb:=aw c9;have ec:decide (7+a0.size≤9223372036854775807)=true:=ah c9
     try have ef:(9223372036854775807<7+a0.size)=False:=il (Nat.not_lt.2 c9)
     obtain⟨bs,bY⟩:∃br:List Int,br=(([aH]:List Int)):=⟨_,rfl⟩;replace H:((cN.f k bs).bind fun aJ=>(if 7+aJ.size≤9223372036854775807 then(dm.l0 k (([(⟨#[112,105,116,99,104,101,115,32]⟩:ByteArray)++a4,(⟨#[100,111,110,101,32]⟩:ByteArray)++a1,(⟨#[119,97,114,109,116,104,32]⟩:ByteArray)++a0,(⟨#[109,111,109,101,110,116,32]⟩:ByteArray)++aJ]:List ByteArray)) F (F.length:Int) 0)else(none)))=some r:=by first|(rw[bY];with_reducible exact H)|(have a2:=(az _ _).symm.trans H;rw[bY];with_reducible exact a2)|(have a2:=(az _ _).symm.trans H;with_reducible exact a2)|with_reducible exact H|(rw[bY];exact H)|exact H
     have cU:=A_ bY;clear bY;replace H:=ay H;obtain⟨aJ,cx,H⟩:=H
     (try dsimp only at H)
     have dJ:=A_ cx;clear cx;by_cases c11:7+aJ.size≤9223372036854775807
     ·rw[ai c11]at H;have d3:=aw c11;have d4:decide (7+aJ.size≤9223372036854775807)=true:=ah c11
      try have d5:(9223372036854775807<7+aJ.size)=False:=il (Nat.not_lt.2 c11)
      obtain⟨ct,bZ⟩:∃br:List ByteArray,br=(([(⟨#[112,105,116,99,104,101,115,32]⟩:ByteArray)++a4,(⟨#[100,111,110,101,32]⟩:ByteArray)++a1,(⟨#[119,97,114,109,116,104,32]⟩:ByteArray)++a0,(⟨#[109,111,109,101,110,116,32]⟩:ByteArray)++aJ]:List ByteArray)):=⟨_,rfl⟩;replace H:(dm.l0 k ct F (F.length:Int) 0)=some r:=by first|(rw[bZ];with_reducible exact H)|(have a2:=(az _ _).symm.trans H;rw[bZ];with_reducible exact a2)|(have a2:=(az _ _).symm.trans H;with_reducible exact a2)|with_reducible exact H|(rw[bZ];exact H)|exact H
      have cV:=A_ bZ;clear bZ;have H':=A_ H;clear H;go_enter Tryz.func12,Tryz.ntmps12
      try go_wp2_with (first|((with_reducible refine aC (N:=1) rfl ?_);refine bX (N:=1) (cs:= #[.slice bj a7.length bk,.int .i64 aQ,.slice a9 aR.length bc,.int .i64 aM,.int .i64 aH,.slice bo F.length bm]) (t:=30) ?_;intro ar hg fC bC hb;have I:=A_ (aV (oB z) hb);have J:=A_ (bC);have ap:=A_ ((by rw[hg];exact(aZ (oB z)):w.heap.size≤ar));have aW:=A_ ((by rw[hg];exact(aZ (oB z)):w.heap.size≤ar));clear z;have z:=I;have u:=J;have dT:=ap;have dS:=aW;clear I J ap aW hb bC hg;have el:=cz u 0;have em:=cz u 1;have en:=cz u 2;have eo:=cz u 3;have ep:=cz u 4;have er:=cz u 5;have ey:=aD u.out 0;have ez:=aD u.out 1;have eB:=aD u.out 2;have eC:=aD u.out 3;have eD:=aD u.out 4;have eE:=aD u.out 5)|((with_reducible refine bp (f:=28) rfl ?_);refine gL (some 7) Tryz.func28 #[.agg #[.slice bj a7.length bk,.int .i64 aQ,.slice a9 aR.length bc,.int .i64 aM,.int .i64 aH,.slice bo F.length bm]] ?_;(with_reducible refine(dV.c k _ _ a7 aQ _ _ aR aM aH _ _ F true _ ?aT ?aU ?dH ?dO ?gj ?ib A2.out).mono ?_);(case aT=>exact bF cR.out);(case aU=>exact cO.out);(case dH=>exact bF b'.out);(case dO=>exact b_.out);(case gj=>exact bF ca.out);(case ib=>exact cP.out);rintro e eL ⟨rfl,hb⟩;refine⟨_,rfl,?_⟩;have I:=A_ (bb u hb);have J:=A_ (aV (oB z) hb);clear u z;have u:=I;have z:=J;clear I J;(try clear hb);(try clear hb2);(try clear hk);(try clear hi)))
      have I:=A_ (bn u.out);have J:=A_ (cv z.out);clear u z;have u:=I;have z:=J;clear I J;refine fX (n:=23) (S:=fun w'=>True) (ds:=[]) #[false,false,false,false,false,false,false,false,false,false,false,false,false,false,false,false,false,false,false,false,false,false,false] (by kernel_rfl) rfl rfl trivial (fun hHeld=> ?_);refine gQ dm.jR dm.jH (fun bH dW=> ?_);generalize eL.drew=fD at u z hHeld ⊢;refine pA 0 (some 9) bH.out ?_;refine pA 1 (some 10) bH.out ?_;refine pA 5 (some 14) bH.out ?_;refine pA 6 (some 15) bH.out ?_;refine pA 11 (some 20) bH.out ?_;refine pA 16 (some 25) bH.out ?_;refine yL [2,3,4,7,8,9,10,12,13,14,15,17,18,19,20,21,22] (fun d1 b a w'=>∃(ak:Value) (ad:Value) (X:Value) (af:Value) (au:Value),a=fo d1 b [(2,11,.slice a9 aR.length bc),(3,12,.string a4),(4,13,.string ((⟨#[112,105,116,99,104,101,115,32]⟩:ByteArray)++a4)),(7,16,.int .i64 aQ),(8,17,ak),(9,18,.string a1),(10,19,.string ((⟨#[100,111,110,101,32]⟩:ByteArray)++a1)),(12,21,.int .i64 aM),(13,22,ad),(14,23,.string a0),(15,24,.string ((⟨#[119,97,114,109,116,104,32]⟩:ByteArray)++a0)),(17,26,.int .i64 aH),(18,27,X),(19,28,.string aJ),(20,29,.string ((⟨#[109,111,109,101,110,116,32]⟩:ByteArray)++aJ)),(21,30,af),(22,3,au)]∧(w'.heap[ar]? =some (.cells #[.slice bj a7.length bk,.int .i64 aQ,.slice a9 aR.length bc,.int .i64 aM,.int .i64 aH,.slice bo F.length bm] 30 (0,0)))∧(Below w.heap.size w w')∧(b 8=true→Kd.R (Kd.int .i64) 3 w' w.heap.size (fun _=>True) ak bG)∧(b 13=true→Kd.R (Kd.int .i64) 3 w' w.heap.size (fun _=>True) ad bx)∧(b 18=true→Kd.R (Kd.int .i64) 3 w' w.heap.size (fun _=>True) X bs)∧(b 21=true→Kd.R Kd.string 9 w' w.heap.size (fun _=>True) af ct)∧(b 22=true→(au:Value)=af)) bH.out dW.out (by kernel_rfl) (by kernel_rfl) ?_ ?_ ?_
      ·exact⟨.bool false,.bool false,.bool false,.bool false,.bool false,by simp only[fo,Bool.false_eq_true,if_false],u.out,z.out,fun h_=>absurd h_ (by decide),fun h_=>absurd h_ (by decide),fun h_=>absurd h_ (by decide),fun h_=>absurd h_ (by decide),fun h_=>absurd h_ (by decide)⟩
      ·skip
       clear u z;refine gm ?_ ?_
       ·rintro b a w' ⟨ak,ad,X,af,au,ha,U,V,al,am,ao,a5,a_⟩ av G hoff;refine⟨_,rfl,fun K hK=> ?_⟩;have eW:a.tmps[10]? =some (.pointer (some ⟨ar,2,none⟩)):=(by rw[ha];exact(mn rfl).trans rfl);replace ha:=A_ ha;have u:=A_ U;have z:=A_ V;have cg:w'.cell? ⟨ar,0,none⟩=some (.slice bj a7.length bk):=cz u 0;have ch:w'.cell? ⟨ar,1,none⟩=some (.int .i64 aQ):=cz u 1;have ci:w'.cell? ⟨ar,2,none⟩=some (.slice a9 aR.length bc):=cz u 2;have cj:w'.cell? ⟨ar,3,none⟩=some (.int .i64 aM):=cz u 3;have ck:w'.cell? ⟨ar,4,none⟩=some (.int .i64 aH):=cz u 4;have cl:w'.cell? ⟨ar,5,none⟩=some (.slice bo F.length bm):=cz u 5;refine lr (w1:=w') (v:= .slice a9 aR.length bc) (by rfl) rfl ?_ ?_
        ·go_simp
         (try simp only[bJ])
         try rfl
        refine hK.out _ _ ⟨ak,ad,X,af,au,(by rw[ha.out];exact gi 0 av rfl rfl rfl),U,V,al,am,ao,fun D=>absurd ((hoff 21 (by kernel_rfl)).symm.trans D) (by decide),fun D=>absurd ((hoff 22 (by kernel_rfl)).symm.trans D) (by decide)⟩
       refine gm ?_ ?_
       ·rintro b a w' ⟨ak,ad,X,af,au,ha,U,V,al,am,ao,a5,a_⟩ av G hoff;refine⟨_,rfl,fun K hK=> ?_⟩;have e11:a.tmps[11]? =some (.slice a9 aR.length bc):=(by rw[ha];exact gh (e:=(2,11,.slice a9 aR.length bc)) 0 rfl rfl (G 2 (by kernel_rfl)) rfl);replace ha:=A_ ha;have u:=A_ U;have z:=A_ V;refine cG Tryz.func33 (by kernel_rfl) rfl #[.slice a9 aR.length bc] (by rfl) rfl rfl (by first|(simp only[List.map_toArray,List.map_cons,List.map_nil,Act.eval,Array.getD_eq_getD_getElem?,Option.getD_some,e11];done)|(simp only[List.map_toArray,List.map_cons,List.map_nil,Act.eval,Array.getD_eq_getD_getElem?,Option.getD_some,e11];rfl)) ?_
        with_reducible refine(cN.c k _ _ aR a4 _ ?aT ?aU dL.out ?jO).mono ?_
        (case jO=>exact⟨mE bU.out (oB z)⟩)
        (case aT=>exact bF b'.out)
        (case aU=>exact b_.out)
        rintro e bq ⟨rfl,hb⟩;refine⟨_,rfl,?_⟩;have I:=A_ (bb u hb);have J:=A_ (aV (oB z) hb);have b3:=fun(D:b 8=true)=>(show Kd.R (Kd.int .i64) 3 bq w.heap.size (fun _=>True) ak bG from by first|exact(Kd.b6 (by(with_reducible repeat(first|apply Kd.cC|apply Kd.cM|apply Kd.cq));exact(al D)) hb)|exact Kd.cm (Kd.b6 (by(with_reducible repeat(first|apply Kd.cC|apply Kd.cM|apply Kd.cq));exact(al D)) hb) (fun _ h_=>by first|trivial|exact h_|exact h_.1));have bK:=fun(D:b 13=true)=>(show Kd.R (Kd.int .i64) 3 bq w.heap.size (fun _=>True) ad bx from by first|exact(Kd.b6 (by(with_reducible repeat(first|apply Kd.cC|apply Kd.cM|apply Kd.cq));exact(am D)) hb)|exact Kd.cm (Kd.b6 (by(with_reducible repeat(first|apply Kd.cC|apply Kd.cM|apply Kd.cq));exact(am D)) hb) (fun _ h_=>by first|trivial|exact h_|exact h_.1));have bz:=fun(D:b 18=true)=>(show Kd.R (Kd.int .i64) 3 bq w.heap.size (fun _=>True) X bs from by first|exact(Kd.b6 (by(with_reducible repeat(first|apply Kd.cC|apply Kd.cM|apply Kd.cq));exact(ao D)) hb)|exact Kd.cm (Kd.b6 (by(with_reducible repeat(first|apply Kd.cC|apply Kd.cM|apply Kd.cq));exact(ao D)) hb) (fun _ h_=>by first|trivial|exact h_|exact h_.1));clear u z;have u:=I;have z:=J;clear I J
        (try clear hb)
        (try clear hb2)
        (try clear hk)
        (try clear hi)
        refine hK.out _ _ ⟨ak,ad,X,af,au,(by rw[ha.out];exact gi 1 av rfl rfl rfl),(oK u),(oB z),b3,bK,bz,fun D=>absurd ((hoff 21 (by kernel_rfl)).symm.trans D) (by decide),fun D=>absurd ((hoff 22 (by kernel_rfl)).symm.trans D) (by decide)⟩
       refine gm ?_ ?_
       ·rintro b a w' ⟨ak,ad,X,af,au,ha,U,V,al,am,ao,a5,a_⟩ av G hoff;refine⟨_,rfl,fun K hK=> ?_⟩;have eX:a.tmps[12]? =some (.string a4):=(by rw[ha];exact gh (e:=(3,12,.string a4)) 1 rfl rfl (G 3 (by kernel_rfl)) rfl);replace ha:=A_ ha;have u:=A_ U;have z:=A_ V;refine lr (w1:=w') (v:= .string ((⟨#[112,105,116,99,104,101,115,32]⟩:ByteArray)++a4)) (by rfl) rfl ?_ ?_
        ·go_simp
         (try simp only[bJ])
         try rfl
        refine hK.out _ _ ⟨ak,ad,X,af,au,(by rw[ha.out];exact gi 2 av rfl rfl rfl),U,V,al,am,ao,fun D=>absurd ((hoff 21 (by kernel_rfl)).symm.trans D) (by decide),fun D=>absurd ((hoff 22 (by kernel_rfl)).symm.trans D) (by decide)⟩
       refine gm ?_ ?_
       ·rintro b a w' ⟨ak,ad,X,af,au,ha,U,V,al,am,ao,a5,a_⟩ av G hoff;refine⟨_,rfl,fun K hK=> ?_⟩;have eZ:a.tmps[15]? =some (.pointer (some ⟨ar,1,none⟩)):=(by rw[ha];exact(mn rfl).trans rfl);replace ha:=A_ ha;have u:=A_ U;have z:=A_ V;have cg:w'.cell? ⟨ar,0,none⟩=some (.slice bj a7.length bk):=cz u 0;have ch:w'.cell? ⟨ar,1,none⟩=some (.int .i64 aQ):=cz u 1;have ci:w'.cell? ⟨ar,2,none⟩=some (.slice a9 aR.length bc):=cz u 2;have cj:w'.cell? ⟨ar,3,none⟩=some (.int .i64 aM):=cz u 3;have ck:w'.cell? ⟨ar,4,none⟩=some (.int .i64 aH):=cz u 4;have cl:w'.cell? ⟨ar,5,none⟩=some (.slice bo F.length bm):=cz u 5;refine lr (w1:=w') (v:= .int .i64 aQ) (by rfl) rfl ?_ ?_
        ·go_simp
         (try simp only[bJ])
         try rfl
        refine hK.out _ _ ⟨ak,ad,X,af,au,(by rw[ha.out];exact gi 3 av rfl rfl rfl),U,V,fun D=>absurd ((hoff 8 (by kernel_rfl)).symm.trans D) (by decide),am,ao,fun D=>absurd ((hoff 21 (by kernel_rfl)).symm.trans D) (by decide),fun D=>absurd ((hoff 22 (by kernel_rfl)).symm.trans D) (by decide)⟩
       refine gm ?_ ?_
       ·rintro b a w' ⟨ak,ad,X,af,au,ha,U,V,al,am,ao,a5,a_⟩ av G hoff;refine⟨_,rfl,fun K hK=> ?_⟩;have e0:a.tmps[16]? =some (.int .i64 aQ):=(by rw[ha];exact gh (e:=(7,16,.int .i64 aQ)) 3 rfl rfl (G 7 (by kernel_rfl)) rfl);replace ha:=A_ ha;have u:=A_ U;have z:=A_ V;refine Kd.kI (Kd.int .i64) _ 3 ?hg (N:=17) ?hd (xs:=([aQ]:List Int)) (inner:=[.int .i64 aQ]) (ok:=fun _=>True) (bD:=fun _=>True) ?hr ?hp (fun _ hk=>hk) trivial (Below.refl _ _) (Nat.le_refl _) (by simp) ?_;(case hd=>rfl);(case hg=>rfl);(case hr=>first|(go_simp;done)|(go_simp;rfl));(case hp=>exact(aI.one (show Kd.M (Kd.int .i64) _ _ _ aQ [.int .i64 aQ]from rfl) (aI.none _ _)));intro ak bq aG hb bv bw;clear bv bw
        (first|rw[←cS.out]at aG|(simp only[Int.reduceToNat]at aG;rw[←cS.out]at aG))
        have I:=A_ (Kd.cD aG (aZ (oB z)));have J:=A_ (bb u hb);have ap:=A_ (aV (oB z) hb);have bK:=fun(D:b 13=true)=>(show Kd.R (Kd.int .i64) 3 bq w.heap.size (fun _=>True) ad bx from by first|exact(Kd.iE (by(with_reducible repeat(first|apply Kd.cC|apply Kd.cM|apply Kd.cq));exact(am D)) (Kd.ik aG) hb)|exact Kd.cm (Kd.iE (by(with_reducible repeat(first|apply Kd.cC|apply Kd.cM|apply Kd.cq));exact(am D)) (Kd.ik aG) hb) (fun _ h_=>by first|trivial|exact h_|exact h_.1));have bz:=fun(D:b 18=true)=>(show Kd.R (Kd.int .i64) 3 bq w.heap.size (fun _=>True) X bs from by first|exact(Kd.iE (by(with_reducible repeat(first|apply Kd.cC|apply Kd.cM|apply Kd.cq));exact(ao D)) (Kd.ik aG) hb)|exact Kd.cm (Kd.iE (by(with_reducible repeat(first|apply Kd.cC|apply Kd.cM|apply Kd.cq));exact(ao D)) (Kd.ik aG) hb) (fun _ h_=>by first|trivial|exact h_|exact h_.1));clear u z;have aE:=I;have u:=J;have z:=ap;clear I J ap hb aG;refine hK.out _ _ ⟨ak,ad,X,af,au,(by rw[ha.out];exact gi 4 av rfl rfl rfl),(oK u),(oB z),fun _=>(oR aE),bK,bz,fun D=>absurd ((hoff 21 (by kernel_rfl)).symm.trans D) (by decide),fun D=>absurd ((hoff 22 (by kernel_rfl)).symm.trans D) (by decide)⟩
       refine gm ?_ ?_
       ·rintro b a w' ⟨ak,ad,X,af,au,ha,U,V,al,am,ao,a5,a_⟩ av G hoff;refine⟨_,rfl,fun K hK=> ?_⟩;have c0:a.tmps[17]? =some (ak):=(by rw[ha];exact gh (e:=(8,17,ak)) 4 rfl rfl (G 8 (by kernel_rfl)) rfl);replace ha:=A_ ha;have u:=A_ U;have z:=A_ V;have aE:=A_ (al (G 8 (by kernel_rfl)));obtain⟨cI,cX,c_⟩:=Kd.cJ aE.out
        (first|subst c_|(injection c_ with bA bP bB;have bQ:=bA.symm;have bR:=bB.symm;clear bA bP bB;subst bQ;subst bR))
        refine cG Tryz.func33 (by kernel_rfl) rfl #[.slice cI bG.length cX] (by rfl) rfl rfl (by first|(simp only[List.map_toArray,List.map_cons,List.map_nil,Act.eval,Array.getD_eq_getD_getElem?,Option.getD_some,c0];done)|(simp only[List.map_toArray,List.map_cons,List.map_nil,Act.eval,Array.getD_eq_getD_getElem?,Option.getD_some,c0];rfl)) ?_
        with_reducible refine(cN.c k _ _ bG a1 _ ?aT ?aU dN.out ?jO).mono ?_
        (case jO=>exact⟨mE bU.out (oB z)⟩)
        (case aT=>repeat(first|exact(Kd.cr aE.out).2.2|(with_reducible refine Kd.lv ?_ _)|(with_reducible refine Kd.lT ?_ _)|(with_reducible refine Kd.lS ?_)))
        (case aU=>exact(Kd.cr aE.out).2.1)
        rintro e dG ⟨rfl,hb⟩;refine⟨_,rfl,?_⟩;have I:=A_ (Kd.b6 (oR aE) hb);have J:=A_ (bb u hb);have ap:=A_ (aV (oB z) hb);have bK:=fun(D:b 13=true)=>(show Kd.R (Kd.int .i64) 3 dG w.heap.size (fun _=>True) ad bx from by first|exact(Kd.b6 (by(with_reducible repeat(first|apply Kd.cC|apply Kd.cM|apply Kd.cq));exact(am D)) hb)|exact Kd.cm (Kd.b6 (by(with_reducible repeat(first|apply Kd.cC|apply Kd.cM|apply Kd.cq));exact(am D)) hb) (fun _ h_=>by first|trivial|exact h_|exact h_.1));have bz:=fun(D:b 18=true)=>(show Kd.R (Kd.int .i64) 3 dG w.heap.size (fun _=>True) X bs from by first|exact(Kd.b6 (by(with_reducible repeat(first|apply Kd.cC|apply Kd.cM|apply Kd.cq));exact(ao D)) hb)|exact Kd.cm (Kd.b6 (by(with_reducible repeat(first|apply Kd.cC|apply Kd.cM|apply Kd.cq));exact(ao D)) hb) (fun _ h_=>by first|trivial|exact h_|exact h_.1));clear aE u z;have aE:=I;have u:=J;have z:=ap;clear I J ap
        (try clear hb)
        (try clear hb2)
        (try clear hk)
        (try clear hi)
        refine hK.out _ _ ⟨.slice cI bG.length cX,ad,X,af,au,(by rw[ha.out];exact gi 5 av rfl rfl rfl),(oK u),(oB z),fun _=>(oR aE),bK,bz,fun D=>absurd ((hoff 21 (by kernel_rfl)).symm.trans D) (by decide),fun D=>absurd ((hoff 22 (by kernel_rfl)).symm.trans D) (by decide)⟩
       refine gm ?_ ?_
       ·rintro b a w' ⟨ak,ad,X,af,au,ha,U,V,al,am,ao,a5,a_⟩ av G hoff;refine⟨_,rfl,fun K hK=> ?_⟩;have e1:a.tmps[18]? =some (.string a1):=(by rw[ha];exact gh (e:=(9,18,.string a1)) 5 rfl rfl (G 9 (by kernel_rfl)) rfl);replace ha:=A_ ha;have u:=A_ U;have z:=A_ V;have aE:=A_ (al (G 8 (by kernel_rfl)));refine lr (w1:=w') (v:= .string ((⟨#[100,111,110,101,32]⟩:ByteArray)++a1)) (by rfl) rfl ?_ ?_
        ·go_simp
         (try simp only[bJ])
         try rfl
        refine hK.out _ _ ⟨ak,ad,X,af,au,(by rw[ha.out];exact gi 6 av rfl rfl rfl),U,V,al,am,ao,fun D=>absurd ((hoff 21 (by kernel_rfl)).symm.trans D) (by decide),fun D=>absurd ((hoff 22 (by kernel_rfl)).symm.trans D) (by decide)⟩
       refine gm ?_ ?_
       ·rintro b a w' ⟨ak,ad,X,af,au,ha,U,V,al,am,ao,a5,a_⟩ av G hoff;refine⟨_,rfl,fun K hK=> ?_⟩;have e3:a.tmps[20]? =some (.pointer (some ⟨ar,3,none⟩)):=(by rw[ha];exact(mn rfl).trans rfl);replace ha:=A_ ha;have u:=A_ U;have z:=A_ V;have cg:w'.cell? ⟨ar,0,none⟩=some (.slice bj a7.length bk):=cz u 0;have ch:w'.cell? ⟨ar,1,none⟩=some (.int .i64 aQ):=cz u 1;have ci:w'.cell? ⟨ar,2,none⟩=some (.slice a9 aR.length bc):=cz u 2;have cj:w'.cell? ⟨ar,3,none⟩=some (.int .i64 aM):=cz u 3;have ck:w'.cell? ⟨ar,4,none⟩=some (.int .i64 aH):=cz u 4;have cl:w'.cell? ⟨ar,5,none⟩=some (.slice bo F.length bm):=cz u 5;refine lr (w1:=w') (v:= .int .i64 aM) (by rfl) rfl ?_ ?_
        ·go_simp
         (try simp only[bJ])
         try rfl
        refine hK.out _ _ ⟨ak,ad,X,af,au,(by rw[ha.out];exact gi 7 av rfl rfl rfl),U,V,al,fun D=>absurd ((hoff 13 (by kernel_rfl)).symm.trans D) (by decide),ao,fun D=>absurd ((hoff 21 (by kernel_rfl)).symm.trans D) (by decide),fun D=>absurd ((hoff 22 (by kernel_rfl)).symm.trans D) (by decide)⟩
       refine gm ?_ ?_
       ·rintro b a w' ⟨ak,ad,X,af,au,ha,U,V,al,am,ao,a5,a_⟩ av G hoff;refine⟨_,rfl,fun K hK=> ?_⟩;have e4:a.tmps[21]? =some (.int .i64 aM):=(by rw[ha];exact gh (e:=(12,21,.int .i64 aM)) 7 rfl rfl (G 12 (by kernel_rfl)) rfl);replace ha:=A_ ha;have u:=A_ U;have z:=A_ V;refine Kd.kI (Kd.int .i64) _ 3 ?hg (N:=22) ?hd (xs:=([aM]:List Int)) (inner:=[.int .i64 aM]) (ok:=fun _=>True) (bD:=fun _=>True) ?hr ?hp (fun _ hk=>hk) trivial (Below.refl _ _) (Nat.le_refl _) (by simp) ?_;(case hd=>rfl);(case hg=>rfl);(case hr=>first|(go_simp;done)|(go_simp;rfl));(case hp=>exact(aI.one (show Kd.M (Kd.int .i64) _ _ _ aM [.int .i64 aM]from rfl) (aI.none _ _)));intro ad bq aG hb bv bw;clear bv bw
        (first|rw[←cT.out]at aG|(simp only[Int.reduceToNat]at aG;rw[←cT.out]at aG))
        have I:=A_ (Kd.cD aG (aZ (oB z)));have J:=A_ (bb u hb);have ap:=A_ (aV (oB z) hb);have b3:=fun(D:b 8=true)=>(show Kd.R (Kd.int .i64) 3 bq w.heap.size (fun _=>True) ak bG from by first|exact(Kd.iE (by(with_reducible repeat(first|apply Kd.cC|apply Kd.cM|apply Kd.cq));exact(al D)) (Kd.ik aG) hb)|exact Kd.cm (Kd.iE (by(with_reducible repeat(first|apply Kd.cC|apply Kd.cM|apply Kd.cq));exact(al D)) (Kd.ik aG) hb) (fun _ h_=>by first|trivial|exact h_|exact h_.1));have bz:=fun(D:b 18=true)=>(show Kd.R (Kd.int .i64) 3 bq w.heap.size (fun _=>True) X bs from by first|exact(Kd.iE (by(with_reducible repeat(first|apply Kd.cC|apply Kd.cM|apply Kd.cq));exact(ao D)) (Kd.ik aG) hb)|exact Kd.cm (Kd.iE (by(with_reducible repeat(first|apply Kd.cC|apply Kd.cM|apply Kd.cq));exact(ao D)) (Kd.ik aG) hb) (fun _ h_=>by first|trivial|exact h_|exact h_.1));clear u z;have a3:=I;have u:=J;have z:=ap;clear I J ap hb aG;refine hK.out _ _ ⟨ak,ad,X,af,au,(by rw[ha.out];exact gi 8 av rfl rfl rfl),(oK u),(oB z),b3,fun _=>(oR a3),bz,fun D=>absurd ((hoff 21 (by kernel_rfl)).symm.trans D) (by decide),fun D=>absurd ((hoff 22 (by kernel_rfl)).symm.trans D) (by decide)⟩
       refine gm ?_ ?_
       ·rintro b a w' ⟨ak,ad,X,af,au,ha,U,V,al,am,ao,a5,a_⟩ av G hoff;refine⟨_,rfl,fun K hK=> ?_⟩;have c6:a.tmps[22]? =some (ad):=(by rw[ha];exact gh (e:=(13,22,ad)) 8 rfl rfl (G 13 (by kernel_rfl)) rfl);replace ha:=A_ ha;have u:=A_ U;have z:=A_ V;have aE:=A_ (al (G 8 (by kernel_rfl)));have a3:=A_ (am (G 13 (by kernel_rfl)));obtain⟨cK,cY,c'⟩:=Kd.cJ a3.out
        (first|subst c'|(injection c' with bA bP bB;have bQ:=bA.symm;have bR:=bB.symm;clear bA bP bB;subst bQ;subst bR))
        refine cG Tryz.func33 (by kernel_rfl) rfl #[.slice cK bx.length cY] (by rfl) rfl rfl (by first|(simp only[List.map_toArray,List.map_cons,List.map_nil,Act.eval,Array.getD_eq_getD_getElem?,Option.getD_some,c6];done)|(simp only[List.map_toArray,List.map_cons,List.map_nil,Act.eval,Array.getD_eq_getD_getElem?,Option.getD_some,c6];rfl)) ?_
        with_reducible refine(cN.c k _ _ bx a0 _ ?aT ?aU dP.out ?jO).mono ?_
        (case jO=>exact⟨mE bU.out (oB z)⟩)
        (case aT=>repeat(first|exact(Kd.cr a3.out).2.2|(with_reducible refine Kd.lv ?_ _)|(with_reducible refine Kd.lT ?_ _)|(with_reducible refine Kd.lS ?_)))
        (case aU=>exact(Kd.cr a3.out).2.1)
        rintro e eM ⟨rfl,hb⟩;refine⟨_,rfl,?_⟩;have I:=A_ (Kd.b6 (oR aE) hb);have J:=A_ (Kd.b6 (oR a3) hb);have ap:=A_ (bb u hb);have aW:=A_ (aV (oB z) hb);have bz:=fun(D:b 18=true)=>(show Kd.R (Kd.int .i64) 3 eM w.heap.size (fun _=>True) X bs from by first|exact(Kd.b6 (by(with_reducible repeat(first|apply Kd.cC|apply Kd.cM|apply Kd.cq));exact(ao D)) hb)|exact Kd.cm (Kd.b6 (by(with_reducible repeat(first|apply Kd.cC|apply Kd.cM|apply Kd.cq));exact(ao D)) hb) (fun _ h_=>by first|trivial|exact h_|exact h_.1));clear aE a3 u z;have aE:=I;have a3:=J;have u:=ap;have z:=aW;clear I J ap aW
        (try clear hb)
        (try clear hb2)
        (try clear hk)
        (try clear hi)
        refine hK.out _ _ ⟨ak,.slice cK bx.length cY,X,af,au,(by rw[ha.out];exact gi 9 av rfl rfl rfl),(oK u),(oB z),fun _=>(oR aE),fun _=>(oR a3),bz,fun D=>absurd ((hoff 21 (by kernel_rfl)).symm.trans D) (by decide),fun D=>absurd ((hoff 22 (by kernel_rfl)).symm.trans D) (by decide)⟩
       refine gm ?_ ?_
       ·rintro b a w' ⟨ak,ad,X,af,au,ha,U,V,al,am,ao,a5,a_⟩ av G hoff;refine⟨_,rfl,fun K hK=> ?_⟩;have e5:a.tmps[23]? =some (.string a0):=(by rw[ha];exact gh (e:=(14,23,.string a0)) 9 rfl rfl (G 14 (by kernel_rfl)) rfl);replace ha:=A_ ha;have u:=A_ U;have z:=A_ V;have aE:=A_ (al (G 8 (by kernel_rfl)));have a3:=A_ (am (G 13 (by kernel_rfl)));refine lr (w1:=w') (v:= .string ((⟨#[119,97,114,109,116,104,32]⟩:ByteArray)++a0)) (by rfl) rfl ?_ ?_
        ·go_simp
         (try simp only[bJ])
         try rfl
        refine hK.out _ _ ⟨ak,ad,X,af,au,(by rw[ha.out];exact gi 10 av rfl rfl rfl),U,V,al,am,ao,fun D=>absurd ((hoff 21 (by kernel_rfl)).symm.trans D) (by decide),fun D=>absurd ((hoff 22 (by kernel_rfl)).symm.trans D) (by decide)⟩
       refine gm ?_ ?_
       ·rintro b a w' ⟨ak,ad,X,af,au,ha,U,V,al,am,ao,a5,a_⟩ av G hoff;refine⟨_,rfl,fun K hK=> ?_⟩;have e7:a.tmps[25]? =some (.pointer (some ⟨ar,4,none⟩)):=(by rw[ha];exact(mn rfl).trans rfl);replace ha:=A_ ha;have u:=A_ U;have z:=A_ V;have cg:w'.cell? ⟨ar,0,none⟩=some (.slice bj a7.length bk):=cz u 0;have ch:w'.cell? ⟨ar,1,none⟩=some (.int .i64 aQ):=cz u 1;have ci:w'.cell? ⟨ar,2,none⟩=some (.slice a9 aR.length bc):=cz u 2;have cj:w'.cell? ⟨ar,3,none⟩=some (.int .i64 aM):=cz u 3;have ck:w'.cell? ⟨ar,4,none⟩=some (.int .i64 aH):=cz u 4;have cl:w'.cell? ⟨ar,5,none⟩=some (.slice bo F.length bm):=cz u 5;refine lr (w1:=w') (v:= .int .i64 aH) (by rfl) rfl ?_ ?_
        ·go_simp
         (try simp only[bJ])
         try rfl
        refine hK.out _ _ ⟨ak,ad,X,af,au,(by rw[ha.out];exact gi 11 av rfl rfl rfl),U,V,al,am,fun D=>absurd ((hoff 18 (by kernel_rfl)).symm.trans D) (by decide),fun D=>absurd ((hoff 21 (by kernel_rfl)).symm.trans D) (by decide),fun D=>absurd ((hoff 22 (by kernel_rfl)).symm.trans D) (by decide)⟩
       refine gm ?_ ?_
       ·rintro b a w' ⟨ak,ad,X,af,au,ha,U,V,al,am,ao,a5,a_⟩ av G hoff;refine⟨_,rfl,fun K hK=> ?_⟩;have e8:a.tmps[26]? =some (.int .i64 aH):=(by rw[ha];exact gh (e:=(17,26,.int .i64 aH)) 11 rfl rfl (G 17 (by kernel_rfl)) rfl);replace ha:=A_ ha;have u:=A_ U;have z:=A_ V;refine Kd.kI (Kd.int .i64) _ 3 ?hg (N:=27) ?hd (xs:=([aH]:List Int)) (inner:=[.int .i64 aH]) (ok:=fun _=>True) (bD:=fun _=>True) ?hr ?hp (fun _ hk=>hk) trivial (Below.refl _ _) (Nat.le_refl _) (by simp) ?_;(case hd=>rfl);(case hg=>rfl);(case hr=>first|(go_simp;done)|(go_simp;rfl));(case hp=>exact(aI.one (show Kd.M (Kd.int .i64) _ _ _ aH [.int .i64 aH]from rfl) (aI.none _ _)));intro X bq aG hb bv bw;clear bv bw
        (first|rw[←cU.out]at aG|(simp only[Int.reduceToNat]at aG;rw[←cU.out]at aG))
        have I:=A_ (Kd.cD aG (aZ (oB z)));have J:=A_ (bb u hb);have ap:=A_ (aV (oB z) hb);have b3:=fun(D:b 8=true)=>(show Kd.R (Kd.int .i64) 3 bq w.heap.size (fun _=>True) ak bG from by first|exact(Kd.iE (by(with_reducible repeat(first|apply Kd.cC|apply Kd.cM|apply Kd.cq));exact(al D)) (Kd.ik aG) hb)|exact Kd.cm (Kd.iE (by(with_reducible repeat(first|apply Kd.cC|apply Kd.cM|apply Kd.cq));exact(al D)) (Kd.ik aG) hb) (fun _ h_=>by first|trivial|exact h_|exact h_.1));have bK:=fun(D:b 13=true)=>(show Kd.R (Kd.int .i64) 3 bq w.heap.size (fun _=>True) ad bx from by first|exact(Kd.iE (by(with_reducible repeat(first|apply Kd.cC|apply Kd.cM|apply Kd.cq));exact(am D)) (Kd.ik aG) hb)|exact Kd.cm (Kd.iE (by(with_reducible repeat(first|apply Kd.cC|apply Kd.cM|apply Kd.cq));exact(am D)) (Kd.ik aG) hb) (fun _ h_=>by first|trivial|exact h_|exact h_.1));clear u z;have bd:=I;have u:=J;have z:=ap;clear I J ap hb aG;refine hK.out _ _ ⟨ak,ad,X,af,au,(by rw[ha.out];exact gi 12 av rfl rfl rfl),(oK u),(oB z),b3,bK,fun _=>(oR bd),fun D=>absurd ((hoff 21 (by kernel_rfl)).symm.trans D) (by decide),fun D=>absurd ((hoff 22 (by kernel_rfl)).symm.trans D) (by decide)⟩
       refine gm ?_ ?_
       ·rintro b a w' ⟨ak,ad,X,af,au,ha,U,V,al,am,ao,a5,a_⟩ av G hoff;refine⟨_,rfl,fun K hK=> ?_⟩;have c8:a.tmps[27]? =some (X):=(by rw[ha];exact gh (e:=(18,27,X)) 12 rfl rfl (G 18 (by kernel_rfl)) rfl);replace ha:=A_ ha;have u:=A_ U;have z:=A_ V;have aE:=A_ (al (G 8 (by kernel_rfl)));have a3:=A_ (am (G 13 (by kernel_rfl)));have bd:=A_ (ao (G 18 (by kernel_rfl)));obtain⟨cL,cZ,da⟩:=Kd.cJ bd.out
        (first|subst da|(injection da with bA bP bB;have bQ:=bA.symm;have bR:=bB.symm;clear bA bP bB;subst bQ;subst bR))
        refine cG Tryz.func33 (by kernel_rfl) rfl #[.slice cL bs.length cZ] (by rfl) rfl rfl (by first|(simp only[List.map_toArray,List.map_cons,List.map_nil,Act.eval,Array.getD_eq_getD_getElem?,Option.getD_some,c8];done)|(simp only[List.map_toArray,List.map_cons,List.map_nil,Act.eval,Array.getD_eq_getD_getElem?,Option.getD_some,c8];rfl)) ?_
        with_reducible refine(cN.c k _ _ bs aJ _ ?aT ?aU dJ.out ?jO).mono ?_
        (case jO=>exact⟨mE bU.out (oB z)⟩)
        (case aT=>repeat(first|exact(Kd.cr bd.out).2.2|(with_reducible refine Kd.lv ?_ _)|(with_reducible refine Kd.lT ?_ _)|(with_reducible refine Kd.lS ?_)))
        (case aU=>exact(Kd.cr bd.out).2.1)
        rintro e fE ⟨rfl,hb⟩;refine⟨_,rfl,?_⟩;have I:=A_ (Kd.b6 (oR aE) hb);have J:=A_ (Kd.b6 (oR a3) hb);have ap:=A_ (Kd.b6 (oR bd) hb);have aW:=A_ (bb u hb);have be:=A_ (aV (oB z) hb);clear aE a3 bd u z;have aE:=I;have a3:=J;have bd:=ap;have u:=aW;have z:=be;clear I J ap aW be
        (try clear hb)
        (try clear hb2)
        (try clear hk)
        (try clear hi)
        refine hK.out _ _ ⟨ak,ad,.slice cL bs.length cZ,af,au,(by rw[ha.out];exact gi 13 av rfl rfl rfl),(oK u),(oB z),fun _=>(oR aE),fun _=>(oR a3),fun _=>(oR bd),fun D=>absurd ((hoff 21 (by kernel_rfl)).symm.trans D) (by decide),fun D=>absurd ((hoff 22 (by kernel_rfl)).symm.trans D) (by decide)⟩
       refine gm ?_ ?_
       ·rintro b a w' ⟨ak,ad,X,af,au,ha,U,V,al,am,ao,a5,a_⟩ av G hoff;refine⟨_,rfl,fun K hK=> ?_⟩;have e9:a.tmps[28]? =some (.string aJ):=(by rw[ha];exact gh (e:=(19,28,.string aJ)) 13 rfl rfl (G 19 (by kernel_rfl)) rfl);replace ha:=A_ ha;have u:=A_ U;have z:=A_ V;have aE:=A_ (al (G 8 (by kernel_rfl)));have a3:=A_ (am (G 13 (by kernel_rfl)));have bd:=A_ (ao (G 18 (by kernel_rfl)));refine lr (w1:=w') (v:= .string ((⟨#[109,111,109,101,110,116,32]⟩:ByteArray)++aJ)) (by rfl) rfl ?_ ?_
        ·go_simp
         (try simp only[bJ])
         try rfl
        refine hK.out _ _ ⟨ak,ad,X,af,au,(by rw[ha.out];exact gi 14 av rfl rfl rfl),U,V,al,am,ao,fun D=>absurd ((hoff 21 (by kernel_rfl)).symm.trans D) (by decide),fun D=>absurd ((hoff 22 (by kernel_rfl)).symm.trans D) (by decide)⟩
       refine gm ?_ ?_
       ·rintro b a w' ⟨ak,ad,X,af,au,ha,U,V,al,am,ao,a5,a_⟩ av G hoff;refine⟨_,rfl,fun K hK=> ?_⟩;have eY:a.tmps[13]? =some (.string ((⟨#[112,105,116,99,104,101,115,32]⟩:ByteArray)++a4)):=(by rw[ha];exact gh (e:=(4,13,.string ((⟨#[112,105,116,99,104,101,115,32]⟩:ByteArray)++a4))) 2 rfl rfl (G 4 (by kernel_rfl)) rfl);have e2:a.tmps[19]? =some (.string ((⟨#[100,111,110,101,32]⟩:ByteArray)++a1)):=(by rw[ha];exact gh (e:=(10,19,.string ((⟨#[100,111,110,101,32]⟩:ByteArray)++a1))) 6 rfl rfl (G 10 (by kernel_rfl)) rfl);have e6:a.tmps[24]? =some (.string ((⟨#[119,97,114,109,116,104,32]⟩:ByteArray)++a0)):=(by rw[ha];exact gh (e:=(15,24,.string ((⟨#[119,97,114,109,116,104,32]⟩:ByteArray)++a0))) 10 rfl rfl (G 15 (by kernel_rfl)) rfl);have e_:a.tmps[29]? =some (.string ((⟨#[109,111,109,101,110,116,32]⟩:ByteArray)++aJ)):=(by rw[ha];exact gh (e:=(20,29,.string ((⟨#[109,111,109,101,110,116,32]⟩:ByteArray)++aJ))) 14 rfl rfl (G 20 (by kernel_rfl)) rfl);replace ha:=A_ ha;have u:=A_ U;have z:=A_ V;have aE:=A_ (al (G 8 (by kernel_rfl)));have a3:=A_ (am (G 13 (by kernel_rfl)));have bd:=A_ (ao (G 18 (by kernel_rfl)));refine Kd.kI Kd.string _ 9 ?hg (N:=30) ?hd (xs:=([(⟨#[112,105,116,99,104,101,115,32]⟩:ByteArray)++a4,(⟨#[100,111,110,101,32]⟩:ByteArray)++a1,(⟨#[119,97,114,109,116,104,32]⟩:ByteArray)++a0,(⟨#[109,111,109,101,110,116,32]⟩:ByteArray)++aJ]:List ByteArray)) (inner:=[.string ((⟨#[112,105,116,99,104,101,115,32]⟩:ByteArray)++a4),.string ((⟨#[100,111,110,101,32]⟩:ByteArray)++a1),.string ((⟨#[119,97,114,109,116,104,32]⟩:ByteArray)++a0),.string ((⟨#[109,111,109,101,110,116,32]⟩:ByteArray)++aJ)]) (ok:=fun _=>True) (bD:=fun _=>True) ?hr ?hp (fun _ hk=>hk) trivial (Below.refl _ _) (Nat.le_refl _) (by simp) ?_;(case hd=>rfl);(case hg=>rfl);(case hr=>first|(go_simp;done)|(go_simp;rfl));(case hp=>exact(aI.one (show Kd.M Kd.string _ _ _ ((⟨#[112,105,116,99,104,101,115,32]⟩:ByteArray)++a4) [.string ((⟨#[112,105,116,99,104,101,115,32]⟩:ByteArray)++a4)]from rfl) (aI.one (show Kd.M Kd.string _ _ _ ((⟨#[100,111,110,101,32]⟩:ByteArray)++a1) [.string ((⟨#[100,111,110,101,32]⟩:ByteArray)++a1)]from rfl) (aI.one (show Kd.M Kd.string _ _ _ ((⟨#[119,97,114,109,116,104,32]⟩:ByteArray)++a0) [.string ((⟨#[119,97,114,109,116,104,32]⟩:ByteArray)++a0)]from rfl) (aI.one (show Kd.M Kd.string _ _ _ ((⟨#[109,111,109,101,110,116,32]⟩:ByteArray)++aJ) [.string ((⟨#[109,111,109,101,110,116,32]⟩:ByteArray)++aJ)]from rfl) (aI.none _ _))))));intro af fF bS hb bv bw;clear bv bw
        (first|rw[←cV.out]at bS|(simp only[Int.reduceToNat]at bS;rw[←cV.out]at bS))
        have I:=A_ (Kd.b6 (oR aE) hb);have J:=A_ (Kd.b6 (oR a3) hb);have ap:=A_ (Kd.b6 (oR bd) hb);have aW:=A_ (Kd.cD bS (aZ (oB z)));have be:=A_ (bb u hb);have b2:=A_ (aV (oB z) hb);clear aE a3 bd u z;have aE:=I;have a3:=J;have bd:=ap;have b4:=aW;have u:=be;have z:=b2;clear I J ap aW be b2 hb bS;refine hK.out _ _ ⟨ak,ad,X,af,au,(by rw[ha.out];exact gi 15 av rfl rfl rfl),(oK u),(oB z),fun _=>(oR aE),fun _=>(oR a3),fun _=>(oR bd),fun _=>(oR b4),fun D=>absurd ((hoff 22 (by kernel_rfl)).symm.trans D) (by decide)⟩
       refine gm ?_ ?_
       ·rintro b a w' ⟨ak,ad,X,af,au,ha,U,V,al,am,ao,a5,a_⟩ av G hoff;refine⟨_,rfl,fun K hK=> ?_⟩;have e':a.tmps[30]? =some (af):=(by rw[ha];exact gh (e:=(21,30,af)) 15 rfl rfl (G 21 (by kernel_rfl)) rfl);replace ha:=A_ ha;have u:=A_ U;have z:=A_ V;have aE:=A_ (al (G 8 (by kernel_rfl)));have a3:=A_ (am (G 13 (by kernel_rfl)));have bd:=A_ (ao (G 18 (by kernel_rfl)));have b4:=A_ (a5 (G 21 (by kernel_rfl)));refine lr (w1:=w') (v:=af) (by rfl) rfl ?_ ?_
        ·go_simp
         (try simp only[bJ])
         try rfl
        refine hK.out _ _ ⟨ak,ad,X,af,(af),(by rw[ha.out];exact gi 16 av rfl rfl rfl),U,V,al,am,ao,a5,fun _=>rfl⟩
       exact BK
      rintro b a fG hall ⟨ak,ad,X,af,au,ha,U,V,al,am,ao,a5,a_⟩;clear u z;have di:=hall 2 (by kernel_rfl);have dj:=hall 3 (by kernel_rfl);have dk:=hall 4 (by kernel_rfl);have dl:=hall 7 (by kernel_rfl);have cf:=hall 8 (by kernel_rfl);have dn:=hall 9 (by kernel_rfl);have db:=hall 10 (by kernel_rfl);have dc:=hall 12 (by kernel_rfl);have cb:=hall 13 (by kernel_rfl);have dd:=hall 14 (by kernel_rfl);have de:=hall 15 (by kernel_rfl);have df:=hall 17 (by kernel_rfl);have cc:=hall 18 (by kernel_rfl);have dg:=hall 19 (by kernel_rfl);have dh:=hall 20 (by kernel_rfl);have cd:=hall 21 (by kernel_rfl);have ce:=hall 22 (by kernel_rfl);subst ha;obtain rfl:=a_ ce;simp only[fo,di,dj,dk,dl,cf,dn,db,dc,cb,dd,de,df,cc,dg,dh,cd,ce,if_true,Act.put,List.setIfInBounds_toArray,List.set_cons_zero,List.set_cons_succ];have u:=A_ U;clear U;have z:=A_ V;clear V;have aE:=A_ (al cf);clear al;have a3:=A_ (am cb);clear am;have bd:=A_ (ao cc);clear ao;have b4:=A_ (a5 cd);clear a5 hall di dj dk dl cf dn db dc cb dd de df cc dg dh cd ce;have es:=cz u 0;have et:=cz u 1;have eu:=cz u 2;have ev:=cz u 3;have ew:=cz u 4;have ex:=cz u 5;have eF:=aD u.out 0;have eG:=aD u.out 1;have eH:=aD u.out 2;have eI:=aD u.out 3;have eJ:=aD u.out 4;have eK:=aD u.out 5
      try go_wp2
      go_loopg [3,34] k (fun dC v3 v34 w'=>∃(bE:List ByteArray) (O:Int),v34= .int .i64 O∧ae (dm.l0 dC bE F (F.length:Int) O=some r)∧ae (dC≤k)∧ae (Kd.R Kd.string 9 w' w.heap.size (fun _=>True) v3 bE)∧ae (w'.heap[ar]? =some (.cells #[(.slice bj a7.length bk),.int .i64 aQ,(.slice a9 aR.length bc),.int .i64 aM,.int .i64 aH,(.slice bo F.length bm)] 30 (0,0)))∧ae (Below w.heap.size w w'))
      case atStart=>exact⟨(ct),(0),eS,H',⟨Nat.le_refl _⟩,⟨oR b4⟩,⟨oK u⟩,⟨oB z⟩⟩
      case round=>
       clear H'
       try clear c1
       try clear c2
       try clear p2
       try clear c3
       try clear c4
       try clear c5
       try clear d7
       try clear d8
       try clear d9
       try clear c7
       try clear d_
       try clear d'
       try clear ea
       try clear c9
       try clear eb
       try clear ec
       try clear ef
       try clear c11
       try clear d3
       try clear d4
       try clear d5
       try clear c12
       try clear eT
       try clear el
       try clear em
       try clear en
       try clear eo
       try clear ep
       try clear er
       try clear es
       try clear et
       try clear eu
       try clear ev
       try clear ew
       try clear ex
       try clear ey
       try clear ez
       try clear eB
       try clear eC
       try clear eD
       try clear eE
       try clear eF
       try clear eG
       try clear eH
       try clear eI
       try clear eJ
       try clear eK
       obtain⟨bE,O,rfl,b9,cQ,bf,u,z⟩:=hrel;cases gk with
       |zero=>exact absurd b9.out (by simp[dm.l0])
       |succ k1=>
        have H:=b9.out;clear b9;simp only[dm.l0]at H;by_cases bL:O<(F.length:Int)
        ·rw[ai bL]at H;have d6:decide (O<(F.length:Int))=true:=ah bL;clear bL;by_cases b5:0≤O
         ·rw[ai b5]at H;have eU:decide (0≤O)=true:=ah b5;clear b5;by_cases b7:O<(F.length:Int)
          ·rw[ai b7]at H;have eV:decide (O<(F.length:Int))=true:=ah b7;clear b7;obtain⟨cw,b0⟩:∃br:List Int,br=(([(aq F O).f0.f0,(aq F O).f0.f1,(aq F O).f1,(aq F O).f2]:List Int)):=⟨_,rfl⟩;replace H:((cN.f k1 cw).bind fun bN=>(if bE.length<8796093022208 then(dm.l0 k1 (bE++[bN]) F (F.length:Int) (wrap64 (O+1)))else(none)))=some r:=by first|(rw[b0];with_reducible exact H)|(have a2:=(az _ _).symm.trans H;rw[b0];with_reducible exact a2)|(have a2:=(az _ _).symm.trans H;with_reducible exact a2)|with_reducible exact H|(rw[b0];exact H)|exact H
           have cW:=A_ b0;clear b0;replace H:=ay H;obtain⟨bN,cA,H⟩:=H
           (try dsimp only at H)
           have dK:=A_ cA;clear cA;by_cases b8:bE.length<8796093022208
           ·rw[ai b8]at H;have dX:=A_ b8;clear b8;obtain⟨dI,b1⟩:∃br:List ByteArray,br=(bE++[bN]):=⟨_,rfl⟩;replace H:(dm.l0 k1 dI F (F.length:Int) (wrap64 (O+1)))=some r:=by first|(rw[b1];with_reducible exact H)|(have a2:=(az _ _).symm.trans H;rw[b1];with_reducible exact a2)|(have a2:=(az _ _).symm.trans H;with_reducible exact a2)|with_reducible exact H|(rw[b1];exact H)|exact H
            have d0:=A_ b1;clear b1;have H':=A_ H;clear H;have cn:0≤(O:Int):=oD;have co:O<(F.length:Int):=oD;obtain⟨d2,ei,dy,dz,dA,dB⟩:=eA ca.out O cn co;cases ei;replace dy:=hW z dy;replace dz:=hW z dz;replace dA:=hW z dA;replace dB:=hW z dB;replace cn:=aw cn;replace co:=aw co
            go_wp2_with (first|((with_reducible refine aC (N:=5) rfl ?_);refine bX (N:=5) (cs:= #[.int .i64 0,.int .i64 0,.int .i64 0,.int .i64 0]) (t:=64) ?_;intro bI hg fH bC hb;have I:=A_ (Kd.b6 (oR bf) hb);have J:=A_ (bb u hb);have ap:=A_ (aV (oB z) hb);have aW:=A_ (bC);have be:=A_ ((by rw[hg];exact(aZ (oB z)):w.heap.size≤bI));have b2:=A_ ((by rw[hg];exact(aZ (oB z)):w.heap.size≤bI));have dD:=A_ (nL u hg);have dE:=A_ (nG u hg);clear bf u z;have bf:=I;have u:=J;have z:=ap;have a6:=aW;have eQ:=be;have eN:=b2;have bO:=dD;have dY:=dE;clear I J ap aW be b2 dD dE hb bC hg;have fw:=dY.out;have fx:=bO.out;have fa:=cz a6 0;have fb:=cz a6 1;have fc:=cz a6 2;have fd:=cz a6 3;have fk:=aD a6.out 0;have fl:=aD a6.out 1;have fm:=aD a6.out 2;have fp:=aD a6.out 3)|((with_reducible refine aC (N:=49) rfl ?_);refine Kd.dR (Kd.int .i64) _ 3 ?hg (N:=49) ?hd (xs:=([(aq F O).f0.f0,(aq F O).f0.f1,(aq F O).f1,(aq F O).f2]:List Int)) (inner:=[.int .i64 ((aq F O).f0.f0),.int .i64 ((aq F O).f0.f1),.int .i64 ((aq F O).f1),.int .i64 ((aq F O).f2)]) (ok:=fun _=>True) (bD:=fun _=>True) ?hr ?hp (fun _ hk=>hk) trivial (Below.refl _ _) (Nat.le_refl _) (by simp) ?_;(case hd=>rfl);(case hg=>rfl);(case hr=>first|(go_simp;done)|(go_simp;rfl));(case hp=>exact(aI.one (show Kd.M (Kd.int .i64) _ _ _ ((aq F O).f0.f0) [.int .i64 ((aq F O).f0.f0)]from rfl) (aI.one (show Kd.M (Kd.int .i64) _ _ _ ((aq F O).f0.f1) [.int .i64 ((aq F O).f0.f1)]from rfl) (aI.one (show Kd.M (Kd.int .i64) _ _ _ ((aq F O).f1) [.int .i64 ((aq F O).f1)]from rfl) (aI.one (show Kd.M (Kd.int .i64) _ _ _ ((aq F O).f2) [.int .i64 ((aq F O).f2)]from rfl) (aI.none _ _))))));intro fA fJ bT hb bv bw;clear bv bw;(first|rw[←cW.out]at bT|(simp only[Int.reduceToNat]at bT;rw[←cW.out]at bT));have I:=A_ (Kd.b6 (by(with_reducible repeat(first|apply Kd.cC|apply Kd.cM|apply Kd.cq));exact(Kd.cm (Kd.dM (p:=⟨bI,3,none⟩) (Kd.dM (p:=⟨bI,2,none⟩) (Kd.dM (p:=⟨bI,1,none⟩) (Kd.dM (p:=⟨bI,0,none⟩) (Kd.lz bf.out a6.out (by decide)) (fun _ hk=>hk.2) (.int .i64 ((aq F O).f0.f0))) (fun _ hk=>hk.2) (.int .i64 ((aq F O).f0.f1))) (fun _ hk=>hk.2) (.int .i64 ((aq F O).f1))) (fun _ hk=>hk.2) (.int .i64 ((aq F O).f2))) (fun _ h_=>h_.1))) hb);have J:=A_ (Kd.cD bT (aZ (oB z)));have ap:=A_ (iU (g:=ar) (o:= .cells #[.slice bj a7.length bk,.int .i64 aQ,.slice a9 aR.length bc,.int .i64 aM,.int .i64 aH,.slice (some d2) F.length bm] 30 (0,0)) (by(with_reducible repeat(first|refine bt ?_ _|refine bn ?_|refine bl ?_ _));refine eO ?_ bO.out _;(with_reducible repeat(first|refine bt ?_ _|refine bn ?_|refine bl ?_ _));refine eO ?_ bO.out _;(with_reducible repeat(first|refine bt ?_ _|refine bn ?_|refine bl ?_ _));refine eO ?_ bO.out _;(with_reducible repeat(first|refine bt ?_ _|refine bn ?_|refine bl ?_ _));refine eO ?_ bO.out _;(with_reducible repeat(first|refine bt ?_ _|refine bn ?_|refine bl ?_ _));exact u.out) hb);have aW:=A_ (iU (g:=bI) (o:= .cells #[.int .i64 ((aq F O).f0.f0),.int .i64 ((aq F O).f0.f1),.int .i64 ((aq F O).f1),.int .i64 ((aq F O).f2)] 64 (0,0)) (by(with_reducible repeat(first|refine bt ?_ _|refine bn ?_|refine bl ?_ _));refine cE (cs:= #[.int .i64 ((aq F O).f0.f0),.int .i64 ((aq F O).f0.f1),.int .i64 ((aq F O).f1),.int .i64 0]) ?_ 3 _ rfl;(with_reducible repeat(first|refine bt ?_ _|refine bn ?_|refine bl ?_ _));refine cE (cs:= #[.int .i64 ((aq F O).f0.f0),.int .i64 ((aq F O).f0.f1),.int .i64 0,.int .i64 0]) ?_ 2 _ rfl;(with_reducible repeat(first|refine bt ?_ _|refine bn ?_|refine bl ?_ _));refine cE (cs:= #[.int .i64 ((aq F O).f0.f0),.int .i64 0,.int .i64 0,.int .i64 0]) ?_ 1 _ rfl;(with_reducible repeat(first|refine bt ?_ _|refine bn ?_|refine bl ?_ _));refine cE (cs:= #[.int .i64 0,.int .i64 0,.int .i64 0,.int .i64 0]) ?_ 0 _ rfl;(with_reducible repeat(first|refine bt ?_ _|refine bn ?_|refine bl ?_ _));exact a6.out) hb);have be:=A_ (aV (oB z) hb);clear bf u a6 z;have bf:=I;have bu:=J;have u:=ap;have a6:=aW;have z:=be;clear I J ap aW be hb bT;obtain⟨dQ,eg,ej⟩:=Kd.cJ bu.out;subst ej)|((with_reducible refine bp (f:=33) rfl ?_);refine gL (some 50) Tryz.func33 #[.slice dQ cw.length eg] ?_;(with_reducible refine(cN.c k1 _ _ cw bN _ ?aT ?aU dK.out ?jO).mono ?_);(case jO=>exact⟨mE bU.out (oB z)⟩);(case aT=>repeat(first|exact(Kd.cr bu.out).2.2|(with_reducible refine Kd.lv ?_ _)|(with_reducible refine Kd.lT ?_ _)|(with_reducible refine Kd.lS ?_)));(case aU=>exact(Kd.cr bu.out).2.1);rintro e fK ⟨rfl,hb⟩;refine⟨_,rfl,?_⟩;have I:=A_ (Kd.b6 (oR bf) hb);have J:=A_ (Kd.b6 (oR bu) hb);have ap:=A_ (bb u hb);have aW:=A_ (bb a6 hb);have be:=A_ (aV (oB z) hb);clear bf bu u a6 z;have bf:=I;have bu:=J;have u:=ap;have a6:=aW;have z:=be;clear I J ap aW be;(try clear hb);(try clear hb2);(try clear hk);(try clear hi))|((with_reducible refine fI (b:= .append) (xs:= #[.tmp 38,.tmp 51]) rfl ?_);at_builtin;refine Kd.gS Kd.string (w0:=w) w.heap.size rfl (.tmp 38) (.tmp 51) 38 9 (.string ⟨#[]⟩) 16 rfl Tryz.underlying38 rq rfl (by decide) (by omega) u3 bE bN [.string bN] (fun _=>True) (fun _=>False) rfl rfl ?aP (fun _ hk=>hk.elim) ?aF ?aO ?aB ?aS ?aL ?_;(case aP=>exact rfl);(case aB=>exact(oB z));(case aF=>exact(fun _ _=>trivial));(case aO=>exact(oR bf));(case aS=>exact(aZ (oB z)));(case aL=>have:=dX.out;omega);intro fB fL ho hb hg hat;rw[←d0.out]at ho;have I:=A_ (bg u hg (Kd.jY bf.out u.out (by decide)));have J:=A_ (bg a6 hg (Kd.jY bf.out a6.out (by decide)));have ap:=A_ (Kd.mN (oR bu) (Kd.mR (oR bf)) (by decide) hg);have aW:=A_ (hb);have be:=A_ (ho);clear u a6 bu z bf;have u:=I;have a6:=J;have bu:=ap;have z:=aW;have dU:=be;clear I J ap aW be ho hb hg hat))
            go_roundg k1
            case measure=>have:=cQ.out;omega
            case rel=>exact⟨(dI),(wrap64 (O+1)),eS,H',⟨by have:=cQ.out;omega⟩,⟨oR dU⟩,⟨oK u⟩,⟨oB z⟩⟩
           ·rw[aj b8]at H;exact absurd H (by simp)
          ·rw[aj b7]at H;exact absurd H (by simp)
         ·rw[aj b5]at H;exact absurd H (by simp)
        ·rw[aj bL]at H;have d6:decide (O<(F.length:Int))=false:=ax bL;clear bL;obtain rfl:=aA H;go_wp2;go_ret;exact⟨_,eR,oR bf,oB z⟩
     ·rw[aj c11]at H;exact absurd H (by simp)
    ·rw[aj c9]at H;exact absurd H (by simp)
   ·rw[aj c7]at H;exact absurd H (by simp)
  ·rw[aj c5]at H;exact absurd H (by simp)
 ·replace c3:=Bool.eq_false_iff.mpr c3;subst c3;rw[aj (show¬(false=true)by decide)]at H;obtain rfl:=aA H;go_enter Tryz.func12,Tryz.ntmps12
  go_wp2_with (first|((with_reducible refine aC (N:=1) rfl ?_);refine bX (N:=1) (cs:= #[.slice bj a7.length bk,.int .i64 aQ,.slice a9 aR.length bc,.int .i64 aM,.int .i64 aH,.slice bo F.length bm]) (t:=30) ?_;intro ar hg fM bC hb;have I:=A_ (aV (oB z) hb);have J:=A_ (bC);have ap:=A_ ((by rw[hg];exact(aZ (oB z)):w.heap.size≤ar));have aW:=A_ ((by rw[hg];exact(aZ (oB z)):w.heap.size≤ar));clear z;have z:=I;have u:=J;have dT:=ap;have dS:=aW;clear I J ap aW hb bC hg;have fe:=cz u 0;have ff:=cz u 1;have fg:=cz u 2;have fh:=cz u 3;have fi:=cz u 4;have fj:=cz u 5;have fq:=aD u.out 0;have fr:=aD u.out 1;have fs:=aD u.out 2;have ft:=aD u.out 3;have fu:=aD u.out 4;have fv:=aD u.out 5)|((with_reducible refine bp (f:=28) rfl ?_);refine gL (some 7) Tryz.func28 #[.agg #[.slice bj a7.length bk,.int .i64 aQ,.slice a9 aR.length bc,.int .i64 aM,.int .i64 aH,.slice bo F.length bm]] ?_;(with_reducible refine(dV.c k _ _ a7 aQ _ _ aR aM aH _ _ F false _ ?aT ?aU ?dH ?dO ?gj ?ib A2.out).mono ?_);(case aT=>exact bF cR.out);(case aU=>exact cO.out);(case dH=>exact bF b'.out);(case dO=>exact b_.out);(case gj=>exact bF ca.out);(case ib=>exact cP.out);rintro e fN ⟨rfl,hb⟩;refine⟨_,rfl,?_⟩;have I:=A_ (bb u hb);have J:=A_ (aV (oB z) hb);clear u z;have u:=I;have z:=J;clear I J;(try clear hb);(try clear hb2);(try clear hk);(try clear hi)))
  go_ret;exact⟨_,eR,by first|exact Kd.aY _ _ _ _ _|exact Kd.sy _ _ _ _ _|exact Kd.sO _ _ _ _ _|exact Kd.sA _ _ _ _ _|exact Kd.sH _ _ _ _ _,oB z⟩
end P
namespace Q
open Go.RowKit P WW.bc WW.bZ
theorem yO (a:Int):fC.f a=some (decide (-10≤a∧a≤40)):=by unfold fC.f;rw[iQ];rfl
theorem kn (p:List ag) (d:Int) (q:List Int) (a m:Int) (l:List S64) (hl:l.length≤1048577):Ev (fun k=>dV.f k p d q a m l) (dx p d q a m l):=Ev.now _
theorem ko (p:List ag) (d:Int) (q:List Int) (a m:Int) (l:List S64) (hl:l.length≤1048577):Ev (fun k=>a7.f k p d q a m l) (dx p d q a m l):=Ev.bind (oZ p d q) (Ev.now _)
def eV (p:List ag) (d:Int) (q:List Int) (a m:Int) (l:List S64) (x:Int):List ag×Int×List Int×Int×Int×List S64×Bool:=
  if dx p d q a m l=true∧m≠100000∧(-10≤x∧x≤40)then(p,d,q,x,m+1,l,true)else(p,d,q,a,m,l,false)
theorem tS {l:List S64} {m n:Int} (h:ja l m) (hm:m≤n):ja l n:=by
  rcases h with h|h
  · exact .inl h
  · exact .inr (by omega)
theorem BN (p:List ag) (d:Int) (q:List Int) (a m:Int) (l:List S64) (x:Int) (hp:p.length≤4000000) (hq:q.length≤4000000) (hl:l.length≤1048576):Ev (fun k=>mf.f k p d q a m l x) (eV p d q a m l x):=by
  unfold mf.f eV;refine aQ (lA p d q a m l hp hq (by omega)) (Ev.bind (kn p d q a m l (by omega)) ?_);by_cases h:dx p d q a m l=true;rotate_left
  · exact bq (fun h2=>h h2.1)<|aH h (aQ (lA p d q a m l hp hq (by omega)) (Ev.now _))
  obtain⟨h1,h2,h3,h4,h5⟩:=iM.1 h;rw[bU (n:=m+1) (by omega) (by omega)];refine ak h (Ev.bind (kn p d q x (m+1) l (by omega)) ?_);by_cases h6:m≠100000∧(-10≤x∧x≤40)
  · exact bE ⟨h,h6⟩<|ak (iM.2 ⟨h1,h2,h6.2,by omega,tS h5 (by omega)⟩) (Ev.now _)
  · refine bq (fun h7=>h6 h7.2)<|aH (fun h7=> ?_) (aQ (lA p d q a m l hp hq (by omega)) (Ev.now _));obtain⟨g1,g2,g3,g4,g5⟩:=iM.1 h7;exact h6 ⟨by omega,g3⟩
theorem vD (p:List ag) (d:Int) (q:List Int) (a m:Int) (l:List S64) (x:Int) (hp:p.length≤4000000) (hq:q.length≤4000000) (hl:l.length≤1048576):Ev (fun k=>ky.f k p d q a m l x) (eV p d q a m l x):=by
  unfold ky.f eV;refine aQ (kS p d q a m l hp hq (by omega)) (Ev.bind (ko p d q a m l (by omega)) ?_);by_cases h:dx p d q a m l=true;rotate_left
  · exact bq (fun h2=>h h2.1)<|aH h (aQ (kS p d q a m l hp hq (by omega)) (Ev.now _))
  obtain⟨h1,h2,h3,h4,h5⟩:=iM.1 h;refine ak h ?_;by_cases h8:m=100000
  · exact bq (fun h7=>h7.2.1 h8)<|ak h8 (aQ (kS p d q a m l hp hq (by omega)) (Ev.now _))
  refine aH h8 (Ev.bind (ko p d q x m l (by omega)) ?_);by_cases h6: -10≤x∧x≤40
  · rw[bU (n:=m+1) (by omega) (by omega)];exact bE ⟨h,h8,h6⟩<|ak (iM.2 ⟨h1,h2,h6,h4,h5⟩) (Ev.now _)
  · refine bq (fun h7=>h6 h7.2.2)<|aH (fun h7=> ?_) (aQ (kS p d q a m l hp hq (by omega)) (Ev.now _));exact h6 (iM.1 h7).2.2.1
theorem Bp (p:List ag) (d:Int) (q:List Int) (a m:Int) (l:List S64) (x:Int):(eV p d q a m l x).1=p∧(eV p d q a m l x).2.2.1=q∧(eV p d q a m l x).2.2.2.2.2.1=l:=by
  unfold eV;split<;>exact⟨rfl,rfl,rfl⟩
def eQ (p:List ag) (d:Int) (q:List Int) (a m:Int) (l:List S64) (r n f:Int):List ag×Int×List Int×Int×Int×List S64×Bool:=
  if dx p d q a m l=true∧(addEntry l r n f m).2=true then(p,d,q,a,m,(addEntry l r n f m).1,true)else(p,d,q,a,m,l,false)
theorem Bk (p:List ag) (d:Int) (q:List Int) (a m:Int) (l:List S64) (r n f:Int) (hp:p.length≤4000000) (hq:q.length≤4000000) (hl:l.length≤1048576):Ev (fun k=>l_.f k p d q a m l r n f) (eQ p d q a m l r n f):=by
  unfold l_.f eQ;refine aQ (lA p d q a m l hp hq (by omega)) (Ev.bind (kn p d q a m l (by omega)) ?_);by_cases h:dx p d q a m l=true;rotate_left
  · exact bq (fun h2=>h h2.1)<|aH h (Ev.now _)
  refine ak h (Ev.bind (sS l r n f m hl) ?_);by_cases h2:(addEntry l r n f m).2=true
  · exact bE ⟨h,h2⟩<|ak h2 (Ev.now _)
  · exact bq (fun h3=>h2 h3.2)<|aH h2 (Ev.now _)
theorem vq (p:List ag) (d:Int) (q:List Int) (a m:Int) (l:List S64) (r n f:Int) (hp:p.length≤4000000) (hq:q.length≤4000000) (hl:l.length≤1048576):Ev (fun k=>kr.f k p d q a m l r n f) (eQ p d q a m l r n f):=by
  unfold kr.f eQ;refine aQ (kS p d q a m l hp hq (by omega)) (Ev.bind (sT l r n f m hl) (Ev.bind (ko p d q a m l (by omega)) ?_));by_cases h:dx p d q a m l=true;rotate_left
  · exact bq (fun h2=>h h2.1)<|aH h (Ev.now _)
  refine ak h ?_;by_cases h2:(addEntry l r n f m).2=true
  · exact bE ⟨h,h2⟩<|ak h2 (Ev.now _)
  · exact bq (fun h3=>h2 h3.2)<|aH h2 (Ev.now _)
theorem Bl (p:List ag) (d:Int) (q:List Int) (a m:Int) (l:List S64) (r n f:Int):(eQ p d q a m l r n f).1=p∧(eQ p d q a m l r n f).2.2.1=q∧(eQ p d q a m l r n f).2.2.2.2.2.1.length≤l.length+1:=by
  unfold eQ;split
  · exact⟨rfl,rfl,sQ l r n f m⟩
  · exact⟨rfl,rfl,Nat.le_succ _⟩
def eT (p:List ag) (d:Int) (q:List Int) (a m:Int) (l:List S64) (c x:Int):List ag×Int×List Int×Int×Int×List S64×Bool:=
  if dx p d q a m l=true then((fE p d q c x).1,(fE p d q c x).2.1,(fE p d q c x).2.2.1,a,m,l,(fE p d q c x).2.2.2)else(p,d,q,a,m,l,false)
theorem Bv (p:List ag) (d:Int) (q:List Int) (a m:Int) (l:List S64) (c x:Int) (hp:p.length≤4000000) (hq:q.length≤4000000) (hl:l.length≤1048576):Ev (fun k=>ma.f k p d q a m l c x) (eT p d q a m l c x):=by
  unfold ma.f eT;refine aQ (lA p d q a m l hp hq (by omega)) (Ev.bind (kn p d q a m l (by omega)) ?_);by_cases h:dx p d q a m l=true
  · exact bE h<|ak h (Ev.bind (y6 p d q c x hp hq) (Ev.now _))
  · exact bq h<|aH h (Ev.now _)
theorem vt (p:List ag) (d:Int) (q:List Int) (a m:Int) (l:List S64) (c x:Int) (hp:p.length≤4000000) (hq:q.length≤4000000) (hl:l.length≤1048576):Ev (fun k=>ku.f k p d q a m l c x) (eT p d q a m l c x):=by
  unfold ku.f eT;refine aQ (kS p d q a m l hp hq (by omega)) (Ev.bind (ko p d q a m l (by omega)) ?_);by_cases h:dx p d q a m l=true
  · exact bE h<|ak h (Ev.bind (y7 p d q c x hp hq) (Ev.now _))
  · exact bq h<|aH h (Ev.now _)
theorem Bn (p:List ag) (d:Int) (q:List Int) (a m:Int) (l:List S64) (c x:Int):(eT p d q a m l c x).1=p∧(eT p d q a m l c x).2.2.1.length=q.length∧(eT p d q a m l c x).2.2.2.2.2.1=l:=by
  unfold eT;split
  · exact⟨(tQ p d q c x).1,(tQ p d q c x).2,rfl⟩
  · exact⟨rfl,rfl,rfl⟩
theorem zu (p:List ag) (d:Int) (q:List Int) (h:¬(fS p d q).2.2.2=true):fS p d q=(p,d,q,false):=by
  unfold fS at h ⊢
  split
  · rfl
  · split
    · rfl
    · rename_i h2 h3;rw[h2]at h;simp only[aj h3]at h;exact absurd trivial h
theorem Cq (p:List ag) (d:Int) (q:List Int) (h:¬(fO p d q).2.2.2=true):fO p d q=(p,d,q,false):=by
  unfold fO at h ⊢
  split
  · rename_i h1
    rw[ai h1]at h
    split
    · rfl
    · rename_i h2
      rw[aj h2]at h
      split
      · rfl
      · rename_i h3;rw[aj h3]at h;exact absurd rfl h
  · rfl
def iO (p:List ag) (d:Int) (q:List Int):List ag×Int×List Int×Bool:=if(((ig p d q).length:Nat):Int)>0 then fS p d q else fO p d q
def eU (p:List ag) (d:Int) (q:List Int) (a m:Int) (l:List S64):List ag×Int×List Int×Int×Int×List S64×Bool:=
  if dx p d q a m l=true then((iO p d q).1,(iO p d q).2.1,(iO p d q).2.2.1,a,m,l,(iO p d q).2.2.2)else(p,d,q,a,m,l,false)
theorem BL (p:List ag) (d:Int) (q:List Int) (a m:Int) (l:List S64) (hp:p.length≤4000000) (hq:q.length≤4000000) (hl:l.length≤1048576):Ev (fun k=>mb.f k p d q a m l) (eU p d q a m l):=by
  unfold mb.f eU iO;refine aQ (lA p d q a m l hp hq (by omega)) (Ev.bind (kn p d q a m l (by omega)) ?_);by_cases h:dx p d q a m l=true;rotate_left
  · exact bq h<|aH h (Ev.now _)
  refine bE h<|ak h (Ev.bind (BI p d q hp hq) (Ev.bind (si p d q) ?_));by_cases h2:(((ig p d q).length:Nat):Int)>0
  · simp only[ai h2];refine Ev.bind (zx p d q hp hq) ?_;by_cases h3:(fS p d q).2.2.2=true
    · exact ak h3 (evs (by rw[h3]))
    · exact aH h3 (evs (by rw[zu p d q h3]))
  · simp only[aj h2];by_cases h3:(fO p d q).2.2.2=true
    · exact ak h3 (evs (by rw[h3]))
    · exact aH h3 (evs (by rw[Cq p d q h3]))
theorem vA (p:List ag) (d:Int) (q:List Int) (a m:Int) (l:List S64) (hp:p.length≤4000000) (hq:q.length≤4000000) (hl:l.length≤1048576):Ev (fun k=>kv.f k p d q a m l) (eU p d q a m l):=by
  unfold kv.f eU iO;refine aQ (kS p d q a m l hp hq (by omega)) (Ev.bind (ko p d q a m l (by omega)) ?_);by_cases h:dx p d q a m l=true;rotate_left
  · exact bq h<|aH h (Ev.now _)
  refine bE h<|ak h (Ev.bind (sj p d q) ?_);by_cases h2:(((ig p d q).length:Nat):Int)>0
  · simp only[ai h2];exact Ev.bind (zy p d q hp hq) (Ev.now _)
  · simp only[aj h2];exact Ev.bind (BJ p d q hp hq) (Ev.now _)
theorem Bo (p:List ag) (d:Int) (q:List Int) (a m:Int) (l:List S64):(eU p d q a m l).1=p∧(eU p d q a m l).2.2.1.length=q.length∧(eU p d q a m l).2.2.2.2.2.1=l:=by
  unfold eU iO;split
  · split
    · exact⟨(uf p d q).1,(uf p d q).2.2,rfl⟩
    · exact⟨(vS p d q).1,(vS p d q).2,rfl⟩
  · exact⟨rfl,rfl,rfl⟩
structure cX (p:List ag) (d:Int) (q:List Int) (a m:Int) (l:List S64) (c:Nat):Prop where
  plan:eJ p
  work:∃n:Nat,d=(n:Int)∧n≤p.length∧cp p (n:Int) q=true
  lo:200000-1000*(c:Int)≤q.getD 0 0
  hi:q.getD 0 0≤299999+1000*(c:Int)
  log:cO l=true
  last:ja l m
  mI: -10≤a∧a≤40
  lG:0≤m∧m≤(c:Int)
  few:l.length≤c
section
variable {p:List ag} {d:Int} {q:List Int} {a m:Int} {l:List S64} {c:Nat}
theorem cX.ok (h:cX p d q a m l c) (hc:c≤45):dx p d q a m l=true:=by
  obtain⟨n,rfl,hn,hw⟩:=h.work;have:=h.lG;exact iM.2 ⟨hw,h.log,h.mI,by omega,h.last⟩
theorem cX.len (h:cX p d q a m l c):q.length=12:=by
  obtain⟨n,rfl,hn,hw⟩:=h.work;exact((nE h.plan n hn q).1 hw).1
theorem zk {l:List S64} (h:cO l=true):l.length≤30:=by
  unfold cO at h;simp only[Bool.and_eq_true,decide_eq_true_eq]at h;exact h.2
theorem cX.step (h:cX p d q a m l c):cX p d q a m l (c+1):=
  ⟨h.plan,h.work,by have:=h.lo;omega,by have:=h.hi;omega,h.log,h.last,h.mI,by have:=h.lG;omega,by have:=h.few;omega⟩
theorem cX.vR (h:cX p d q a m l c) (x:Int):
    cX (eV p d q a m l x).1 (eV p d q a m l x).2.1 (eV p d q a m l x).2.2.1 (eV p d q a m l x).2.2.2.1 (eV p d q a m l x).2.2.2.2.1 (eV p d q a m l x).2.2.2.2.2.1 (c+1):=by
  unfold eV
  split
  · rename_i hc
    have:=h.lG;exact⟨h.plan,h.work,by have:=h.lo;dsimp only;omega,by have:=h.hi;dsimp only;omega,h.log,tS h.last (by dsimp only;omega),hc.2.2,by dsimp only;omega,by have:=h.few;dsimp only;omega⟩
  · exact h.step
theorem cX.tA (h:cX p d q a m l c) (r n f:Int):
    cX (eQ p d q a m l r n f).1 (eQ p d q a m l r n f).2.1 (eQ p d q a m l r n f).2.2.1 (eQ p d q a m l r n f).2.2.2.1 (eQ p d q a m l r n f).2.2.2.2.1 (eQ p d q a m l r n f).2.2.2.2.2.1 (c+1):=by
  unfold eQ
  split
  · rename_i hc
    refine⟨h.plan,h.work,by have:=h.lo;dsimp only;omega,by have:=h.hi;dsimp only;omega,?_,?_,h.mI,by have:=h.lG;dsimp only;omega,by have:=h.few;dsimp only;unfold addEntry;split<;>simp<;>omega⟩
    · have h2:=hc.2;unfold addEntry at h2 ⊢
      split
      · rename_i h3;exact h3.2
      · rename_i h3;rw[aj h3]at h2;cases h2
    · have h2:=hc.2;unfold addEntry at h2 ⊢
      split
      · exact .inr (by simp[List.getD_eq_getElem?_getD,mX])
      · rename_i h3;rw[aj h3]at h2;cases h2
  · exact h.step
theorem cX.jL (h:cX p d q a m l c) (k x:Int) (hx: -1000≤x∧x≤1000):
    cX (eT p d q a m l k x).1 (eT p d q a m l k x).2.1 (eT p d q a m l k x).2.2.1 (eT p d q a m l k x).2.2.2.1 (eT p d q a m l k x).2.2.2.2.1 (eT p d q a m l k x).2.2.2.2.2.1 (c+1):=by
  obtain⟨n,rfl,hn,hw⟩:=h.work;obtain⟨k1,k2,k3,k4,u⟩:=y5 h.plan hn hw k x hx;unfold eT
  split
  · refine⟨by rw[k1];exact h.plan,⟨n,k2,by rw[k1];exact hn,by rw[k1];exact k3⟩,by have:=h.lo;dsimp only;omega,by have:=h.hi;dsimp only;omega,h.log,h.last,h.mI,by have:=h.lG;dsimp only;omega,by have:=h.few;dsimp only;omega⟩
  · exact h.step
theorem xv (g:eJ p) (q:List Int):∀i:Nat,i≤p.length→(∃j,j<i∧ix p q j∧gX p q j=true)∨ix p q i:=by
  intro i
  induction i with
  |zero=>exact fun _=> .inr (AU p q)
  |succ i ih=>
   intro hi;rcases ih (by omega)with ⟨j,h1,h2,h3⟩|h
   · exact .inl ⟨j,by omega,h2,h3⟩
   · by_cases hb:gX p q i=true
     · exact .inl ⟨i,by omega,h,hb⟩
     · exact .inr (AR g (by omega) h hb)
theorem Cb (g:eJ p) {n:Nat} (hn:n≤p.length) (hw:cp p (n:Int) q=true) (hs:155000≤q.getD 0 0∧q.getD 0 0≤345000):
    (iO p (n:Int) q).1=p∧(∃n':Nat,(iO p (n:Int) q).2.1=(n':Int)∧n'≤p.length∧cp p (n':Int) (iO p (n:Int) q).2.2.1=true)∧(iO p (n:Int) q).2.2.1.getD 0 0=q.getD 0 0:=by
  unfold iO;rcases xv g q n hn with ⟨j,h1,h2,h3⟩|h
  · obtain⟨e,he⟩:∃e,n=j+(e+1):=⟨n-j-1,by omega⟩;obtain⟨r,hr⟩:=vV g (by omega:j+(e+1)≤p.length) h2 h3;have hm:=zv g hn he hw hs h2 h3;obtain⟨m1,m2,m3⟩:=mended g hn h1 hw hs h2;rw[sg hw,ai (by rw[he,hr];simp only[List.length_cons];omega),hm];exact⟨rfl,⟨n,rfl,hn,m1⟩,m2⟩
  · rw[sg hw,CA g hn h,aj (by simp)];have hq:=AV g hn hw h;have e0:∀k,(dK p (q.getD 0 0) k).getD 0 0=q.getD 0 0:=fun k=>by rw[jc _ _ _ _ (by omega),ai (Nat.zero_le _)];rfl
    by_cases hlt:n<p.length
    · have:=Cr g hs hlt;rw[←hq]at this;rw[this];exact⟨rfl,⟨n+1,rfl,hlt,qp g hs (n+1) hlt⟩,e0 _⟩
    · obtain rfl:n=p.length:=(by omega);have:=Cp g hs;rw[←hq]at this;rw[this];exact⟨rfl,⟨p.length,rfl,Nat.le_refl _,hw⟩,rfl⟩
theorem cX.vG (h:cX p d q a m l c) (hc:c≤45):
    cX (eU p d q a m l).1 (eU p d q a m l).2.1 (eU p d q a m l).2.2.1 (eU p d q a m l).2.2.2.1 (eU p d q a m l).2.2.2.2.1 (eU p d q a m l).2.2.2.2.2.1 (c+1):=by
  obtain⟨n,rfl,hn,hw⟩:=h.work;have h1:=h.lo;have h2:=h.hi;obtain⟨t1,⟨n',t2,t3,t4⟩,t5⟩:=Cb h.plan hn hw ⟨by omega,by omega⟩;unfold eU
  split
  · exact⟨by rw[t1];exact h.plan,⟨n',t2,by rw[t1];exact t3,by rw[t1];exact t4⟩,by dsimp only;omega,by dsimp only;omega,h.log,h.last,h.mI,by have:=h.lG;dsimp only;omega,by have:=h.few;dsimp only;omega⟩
  · exact h.step
end
theorem ub (p:List ag) (g:eJ p) (s:Int) (hs:200000≤s∧s≤299999):
    cX (hZ s p).1 (hZ s p).2.1 (hZ s p).2.2.1 (hZ s p).2.2.2.1 (hZ s p).2.2.2.2.1 (hZ s p).2.2.2.2.2.1 0:=by
  have hn:=zB g (s:=s) ⟨by omega,by omega⟩;unfold hZ;rw[ai (by rw[hn]),hn];have e0:(dK p s 0).getD 0 0=s:=by rw[jc _ _ _ _ (by omega),ai (Nat.zero_le _)];rfl
  refine⟨g,⟨0,rfl,Nat.zero_le _,qp g ⟨by omega,by omega⟩ 0 (Nat.zero_le _)⟩,?_,?_,(show cO ([]:List S64)=true from by decide),.inl rfl,(by dsimp only;omega),(by dsimp only;omega),Nat.le_refl _⟩
  · show _≤(dK p s 0).getD 0 0;rw[e0];omega
  · show(dK p s 0).getD 0 0≤_;rw[e0];omega
def o6 (s:List ag×Int×List Int×Int×Int×List S64):Prop:=cX s.1 s.2.1 s.2.2.1 s.2.2.2.1 s.2.2.2.2.1 s.2.2.2.2.2 20
theorem cX.more {p:List ag} {d:Int} {q:List Int} {a m:Int} {l:List S64} {c c':Nat} (h:cX p d q a m l c) (hc:c≤c'):cX p d q a m l c':=
  ⟨h.plan,h.work,by have:=h.lo;omega,by have:=h.hi;omega,h.log,h.last,h.mI,by have:=h.lG;omega,by have:=h.few;omega⟩
section
variable (b:List Int) (hb:b.length≤1048576)
include hb
theorem Bt (N:Nat) (hN:N≤19):∀e:Nat,e≤N→∀(i h:Int) (p:List ag) (d:Int) (q:List Int) (a m:Int) (l:List S64),0≤i→cX p d q a m l (N-e)→
    ∃s i' h',Ev (fun k=>bT.l0 k (N:Int) ((N-e:Nat):Int) b i h p d q a m l) (s.1,s.2.1,s.2.2.1,s.2.2.2.1,s.2.2.2.2.1,s.2.2.2.2.2,i',h')∧o6 s∧0≤i':=by
  intro e
  induction e with
  |zero=>
   intro _ i h p d q a m l hi g;exact⟨(p,d,q,a,m,l),i,h,Ev.step (fun k=>by rw[bT.l0]) (aH (by omega) (Ev.now _)),g.more (by omega),hi⟩
  |succ e ih=>
   intro he i h p d q a m l hi g;have I:=g.len;have H:=g.plan.1;have ll:=zk g.log;obtain⟨x,i1,h1,e1,x0,x1,_,j1⟩:=e6 b hb i h 8 hi;have hs:N-e=N-(e+1)+1:=(by omega);by_cases y0:x=0
   · obtain⟨y,i2,h2,e2,_,_,_,j2⟩:=e6 b hb i1 h1 30 j1;obtain⟨s,i',h',ev,gs,hi'⟩:=ih (by omega) i2 h2 _ _ _ _ _ _ j2 (hs▸g.vR y);refine⟨s,i',h',Ev.step (fun k=>by rw[bT.l0]) (ak (by omega) (aQ e1 (ak y0 (aQ e2 (Ev.bind (vD p d q a m l y (by omega) (by omega) (by omega)) ?_))))),gs,hi'⟩;rw[show wrap64 (((N-(e+1):Nat):Int)+1)=((N-e:Nat):Int)from by rw[bU (by omega) (by omega)];omega];exact ev
   by_cases y1:x=1
   · obtain⟨r,n,i2,h2,e2,G,j2⟩:=Ak b hb i1 h1 j1;obtain⟨f,i3,h3,e3,_,_,_,u⟩:=e6 b hb i2 h2 3 j2;obtain⟨s,i',h',ev,gs,hi'⟩:=ih (by omega) i3 h3 _ _ _ _ _ _ u (hs▸g.tA r n f);refine⟨s,i',h',Ev.step (fun k=>by rw[bT.l0]) (ak (by omega) (aQ e1 (aH y0 (ak y1 (aQ e2 (aQ e3 (Ev.bind (vq p d q a m l r n f (by omega) (by omega) (by omega)) ?_))))))),gs,hi'⟩;rw[show wrap64 (((N-(e+1):Nat):Int)+1)=((N-e:Nat):Int)from by rw[bU (by omega) (by omega)];omega];exact ev
   by_cases D:x=2
   · obtain⟨k0,i2,h2,e2,_,_,_,j2⟩:=e6 b hb i1 h1 12 j1;obtain⟨z,i3,h3,e3,z0,F,_,u⟩:=e6 b hb i2 h2 2001 j2;have z2:=F (by omega);obtain⟨s,i',h',ev,gs,hi'⟩:=ih (by omega) i3 h3 _ _ _ _ _ _ u (hs▸g.jL k0 (z-1000) (by omega));refine⟨s,i',h',Ev.step (fun k=>by rw[bT.l0]) (ak (by omega) (aQ e1 (aH y0 (aH y1 (ak D (aQ e2 (aQ e3 ?_))))))),gs,hi'⟩;dsimp only;rw[show wrap64 (z-1000)=z-1000 from bU (by omega) (by omega)];refine Ev.bind (vt p d q a m l k0 (z-1000) (by omega) (by omega) (by omega)) ?_;rw[show wrap64 (((N-(e+1):Nat):Int)+1)=((N-e:Nat):Int)from by rw[bU (by omega) (by omega)];omega];exact ev
   · obtain⟨s,i',h',ev,gs,hi'⟩:=ih (by omega) i1 h1 _ _ _ _ _ _ j1 (hs▸g.vG (by omega));refine⟨s,i',h',Ev.step (fun k=>by rw[bT.l0]) (ak (by omega) (aQ e1 (aH y0 (aH y1 (aH D (Ev.bind (vA p d q a m l (by omega) (by omega) (by omega)) ?_)))))),gs,hi'⟩;rw[show wrap64 (((N-(e+1):Nat):Int)+1)=((N-e:Nat):Int)from by rw[bU (by omega) (by omega)];omega];exact ev
theorem Bq (i h:Int) (hi:0≤i):∃s i' h',Ev (fun k=>bT.f k b i h) (s.1,s.2.1,s.2.2.1,s.2.2.2.1,s.2.2.2.2.1,s.2.2.2.2.2,i',h')∧o6 s∧0≤i':=by
  obtain⟨x,i1,h1,e1,x0,x1,_,j1⟩:=e6 b hb i h 100000 hi;have x2:=x1 (by omega);obtain⟨p,i2,h2,e2,g,j2⟩:=Ar b hb i1 h1 j1;obtain⟨y,i3,h3,e3,y0,y1,_,u⟩:=e6 b hb i2 h2 20 j2;have z:=y1 (by omega);obtain⟨N,rfl⟩:=Int.eq_ofNat_of_zero_le y0;obtain⟨s,i',h',ev,gs,hi'⟩:=Bt b hb N (by omega) N (Nat.le_refl _) i3 h3 _ _ _ _ _ _ u ((ub p g (200000+x) (by omega)).more (Nat.zero_le _));refine⟨s,i',h',?_,gs,hi'⟩;unfold bT.f;refine aQ e1 (Ev.bind e2 ?_);dsimp only;rw[show wrap64 (200000+x)=200000+x from bU (by omega) (by omega)];refine Ev.bind (um (200000+x) p) (aQ e3 ?_);rw[show N-N=0 by omega]at ev;exact ev
theorem xt (i h:Int) (hi:0≤i):∃s i' h',Ev (fun k=>mC.f k b i h) (s.1,s.2.1,s.2.2.1,s.2.2.2.1,s.2.2.2.2.1,s.2.2.2.2.2,i',h')∧o6 s∧0≤i':=by
  obtain⟨v,i1,h1,e1,j1⟩:=uq b hb i h 2 hi;unfold mC.f;by_cases hv:v=true
  · refine⟨vk,i1,h1,aQ e1 (ak hv (Ev.bind Bh (Ev.now _))),?_,j1⟩;have:=(ub (iP 700) (tE 700 (by omega)).1 264000 (by omega)).more (Nat.zero_le 20);exact this
  · obtain⟨s,i',h',ev,gs,hi'⟩:=Bq b hb i1 h1 j1;exact⟨s,i',h',aQ e1 (aH hv (Ev.bind ev (Ev.now _))),gs,hi'⟩
end
structure kE (x:cd):Prop where
  ok:fA x.f0 x.f1 x.f2 x.f3=true
  small:(-1000≤x.f1∧x.f1≤1000)∧(-1000≤x.f2∧x.f2≤1000)∧(-1000≤x.f3∧x.f3≤1000)
section
variable (b:List Int) (hb:b.length≤1048576)
include hb
theorem xp (i h:Int) (hi:0≤i):∃n x y z i' h',mB.f b i h=some (n,x,y,z,i',h')∧kE ⟨n,x,y,z⟩∧0≤i':=by
  obtain⟨v,i1,h1,e1,v0,v1,_,j1⟩:=e6 b hb i h 12 hi;have v2:=v1 (by omega);unfold mB.f;rw[e1,az];dsimp only;by_cases c0:v=0
  · obtain⟨x,i2,h2,e2,x0,x1,_,j2⟩:=e6 b hb i1 h1 40 j1;have x2:=x1 (by omega);rw[ai c0,e2,az];dsimp only;rw[show wrap64 (x-5)=x-5 from bU (by omega) (by omega)];exact⟨_,_,_,_,_,_,rfl,⟨by unfold fA;dsimp only;rw[aj (by omega),ai rfl,decide_eq_true_eq];omega,by dsimp only;omega⟩,j2⟩
  rw[aj c0];by_cases c1:v=1
  · obtain⟨x,i2,h2,e2,x0,j2⟩:=uz b hb i1 h1 [0,0,1] j1 (by decide);obtain⟨y,i3,h3,e3,y0,y1,_,u⟩:=e6 b hb i2 h2 6 j2;obtain⟨z,i4,h4,e4,z0,G,_,D⟩:=e6 b hb i3 h3 3 u;have F:=y1 (by omega);have z2:=G (by omega);have x2:x=0∨x=1:=(by simp at x0;omega);rw[ai c1,e2,az];dsimp only;rw[e3,az];dsimp only;rw[e4,az];exact⟨_,_,_,_,_,_,rfl,⟨by unfold fA;dsimp only;rw[aj (by omega),aj (by omega),ai rfl,decide_eq_true_eq];omega,by dsimp only;omega⟩,D⟩
  rw[aj c1];by_cases c2:v=2
  · obtain⟨x,i2,h2,e2,x0,x1,_,j2⟩:=e6 b hb i1 h1 12 j1;obtain⟨y,i3,h3,e3,y0,y1,_,u⟩:=e6 b hb i2 h2 2001 j2;have x2:=x1 (by omega);have F:=y1 (by omega);rw[ai c2,e2,az];dsimp only;rw[e3,az];dsimp only;rw[show wrap64 (y-1000)=y-1000 from bU (by omega) (by omega)];exact⟨_,_,_,_,_,_,rfl,⟨by unfold fA;dsimp only;rw[aj (by omega),aj (by omega),aj (by omega),ai rfl,decide_eq_true_eq];omega,by dsimp only;omega⟩,u⟩
  rw[aj c2];by_cases c3:v=3
  · rw[ai c3];exact⟨_,_,_,_,_,_,rfl,⟨by decide,by dsimp only;omega⟩,j1⟩
  rw[aj c3];by_cases c4:v=4
  · rw[ai c4];exact⟨_,_,_,_,_,_,rfl,⟨by decide,by dsimp only;omega⟩,j1⟩
  rw[aj c4];by_cases c5:v=5
  · obtain⟨x,i2,h2,e2,x0,x1,_,j2⟩:=e6 b hb i1 h1 12 j1;have x2:=x1 (by omega);rw[ai c5,e2,az];exact⟨_,_,_,_,_,_,rfl,⟨by unfold fA;dsimp only;rw[aj (by omega),aj (by omega),aj (by omega),aj (by omega),ai rfl,decide_eq_true_eq];omega,by dsimp only;omega⟩,j2⟩
  rw[aj c5];exact⟨_,_,_,_,_,_,rfl,⟨by decide,by dsimp only;omega⟩,j1⟩
theorem xr (i h:Int) (hi:0≤i):∃l i' h',Ev (fun k=>fW.f k b i h) (l,i',h')∧l.length≤25∧(∀x∈l,kE x)∧0≤i':=by
  obtain⟨n,i1,h1,e1,n0,n1,_,j1⟩:=e6 b hb i h 26 hi;have n2:=n1 (by omega);obtain⟨N,rfl⟩:=Int.eq_ofNat_of_zero_le n0
  have key:∀m:Nat,m≤N→∀(acc:List cd) (i h:Int),0≤i→acc.length=N-m→(∀x∈acc,kE x)→
      ∃l i' h',Ev (fun k=>fW.l0 k acc (N:Int) ((N-m:Nat):Int) b i h) (l,i',h')∧l.length≤25∧(∀x∈l,kE x)∧0≤i':=by
    intro m
    induction m with
    |zero=>
     intro _ acc i h hi hl hx;exact⟨acc,i,h,Ev.step (fun k=>by rw[fW.l0]) (aH (by omega) (Ev.now _)),by omega,hx,hi⟩
    |succ m ih=>
     intro hm acc i h hi hl hx;obtain⟨a,x,y,z,i2,h2,e2,g,j2⟩:=xp b hb i h hi
     obtain⟨l,i',h',ev,l1,l2,j⟩:=ih (by omega) (acc++[⟨a,x,y,z⟩]) i2 h2 j2 (by simp;omega) (by
       intro w hw;rcases List.mem_append.1 hw with hw|hw
       · exact hx w hw
       · simp at hw;subst hw;exact g)
     refine⟨l,i',h',Ev.step (fun k=>by rw[fW.l0]) (ak (by omega) (aQ e2 ?_)),l1,l2,j⟩;refine ak (show acc.length<4398046511104 by omega) ?_;rw[show wrap64 (((N-(m+1):Nat):Int)+1)=((N-m:Nat):Int)from by rw[bU (by omega) (by omega)];omega];exact ev
  obtain⟨l,i',h',ev,l1,l2,j⟩:=key N (Nat.le_refl _) [] i1 h1 j1 (by simp) (by simp);refine⟨l,i',h',?_,l1,l2,j⟩;unfold fW.f;refine aQ e1 ?_;rw[show N-N=0 by omega]at ev;exact ev
theorem yb:∃s l,Ev (fun k=>my.f k b) (s.1,s.2.1,s.2.2.1,s.2.2.2.1,s.2.2.2.2.1,s.2.2.2.2.2,l)∧o6 s∧l.length≤25∧∀x∈l,kE x:=by
  obtain⟨h0,e0⟩:=uo b;obtain⟨s,i1,h1,e1,g,j1⟩:=xt b hb 0 h0 (by omega);obtain⟨l,i2,h2,e2,l1,l2,j2⟩:=xr b hb i1 h1 j1;refine⟨s,l,?_,g,l1,l2⟩;unfold my.f;exact Ev.bind e0 (Ev.bind e1 (Ev.bind e2 (Ev.now _)))
end
def nB (p:List ag) (d:Int) (q:List Int) (a m:Int) (l:List S64):Int:=
  if dx p d q a m l=true then wrap64 ((wrap64 ((p.length:Int)-d))+((ig p d q).length:Int))else 0
theorem zb (p:List ag) (d:Int) (q:List Int) (a m:Int) (l:List S64) (hl:l.length≤1048577):Ev (fun k=>gV.f k p d q a m l) (nB p d q a m l):=by
  unfold gV.f nB;refine Ev.bind (kn p d q a m l hl) ?_;by_cases h:dx p d q a m l=true
  · exact bE h<|ak h (Ev.bind (si p d q) (Ev.now _))
  · exact bq h<|aH h (Ev.now _)
theorem ze (p:List ag) (d:Int) (q:List Int) (a m:Int) (l:List S64) (hl:l.length≤1048577):Ev (fun k=>ic.f k p d q a m l) (nB p d q a m l):=by
  unfold ic.f nB;refine Ev.bind (ko p d q a m l hl) ?_;by_cases h:dx p d q a m l=true
  · exact bE h<|ak h (Ev.bind (sj p d q) (Ev.now _))
  · exact bq h<|aH h (Ev.now _)
def lQ (p t:Int):Int:=if fine p=true then(if-10≤t∧t≤40 then wrap64 (Int.tdiv (wrap64 (p*(wrap64 (1000+(wrap64 (2*(wrap64 (t-15)))))))) 1000)else 0)else 0
theorem Cl (p t:Int):mZ.f p t=some (lQ p t):=by
  unfold mZ.f lQ;rw[mg,yO];cases fine p<;>by_cases h: -10≤t∧t≤40<;>simp[h]
theorem Cm (p t:Int):nz.f p t=some (lQ p t):=by
  unfold nz.f lQ;rw[kZ,gI];cases fine p<;>by_cases h: -10≤t∧t≤40<;>simp[h]
theorem Cn (t:Int):lQ 0 t=0:=by
  have:fine 0=false:=by decide
  unfold lQ;rw[this];rfl
def iI (p:List ag) (d:Int) (q:List Int) (a m:Int) (l:List S64) (c:Int):Int:=
  if dx p d q a m l=true then(if 0≤c∧c≤11 then(if iG l ⟨0,c⟩=1 then 0 else lQ (rd q c) a)else 0)else 0
theorem yC (p:List ag) (d:Int) (q:List Int) (a m:Int) (l:List S64) (c:Int) (hl:l.length≤1048577):Ev (fun k=>gN.f k p d q a m l c) (iI p d q a m l c):=by
  unfold gN.f;refine Ev.bind (ko p d q a m l hl) ?_;by_cases h0:dx p d q a m l=true;rotate_left
  · exact aH h0 (evs (by simp[iI,h0]))
  refine ak h0 (aQ (gI _ _ _) ?_);obtain⟨hw,hlo,_⟩:=iM.mp h0
  have hq:q.length=12:=by
    unfold cp at hw;simp only[Bool.and_eq_true,decide_eq_true_eq]at hw;exact hw.2.2.1
  by_cases hc:0≤c∧c≤11;rotate_left
  · exact aH (by simpa using hc) (evs (by simp[iI,hc]))
  have F:=yl l 0 c hl;rw[ai hlo]at F;refine ak (by simpa using hc) (Ev.bind F ?_);by_cases hf:iG l ⟨0,c⟩=1
  · exact ak hf (evs (by simp[iI,hf]))
  exact aH hf (ak hc.1 (ak (by omega) (aQ (Cm _ _) (evs (by simp[iI,h0,hc,hf])))))
theorem yB (p:List ag) (d:Int) (q:List Int) (a m:Int) (l:List S64) (c:Int) (hl:l.length≤1048577):Ev (fun k=>gH.f k p d q a m l c) (iI p d q a m l c):=by
  unfold gH.f;refine Ev.bind (kn p d q a m l hl) ?_;by_cases h0:dx p d q a m l=true;rotate_left
  · exact aH h0 (evs (by simp[iI,h0]))
  refine ak h0 (aQ (iQ _ _ _) ?_);obtain⟨hw,hlo,_⟩:=iM.mp h0
  have hq:q.length=12:=by
    unfold cp at hw;simp only[Bool.and_eq_true,decide_eq_true_eq]at hw;exact hw.2.2.1
  by_cases hc:0≤c∧c≤11;rotate_left
  · exact aH (by simpa using hc) (evs (by simp[iI,hc]))
  refine ak (by simpa using hc) (ak hc.1 (ak (by omega) ?_));by_cases hz:rd q c=0
  · exact ak hz (evs (by simp[iI,hz,Cn]))
  refine aH hz ?_
  have F:l7.f l 0 c=some (iG l ⟨0,c⟩):=by
    unfold l7.f;rw[ai ⟨nD (by omega) (by omega),nD (by omega) (by omega),hl⟩,ai hlo]
  refine aQ F ?_;by_cases hf:iG l ⟨0,c⟩=1
  · exact ak hf (evs (by simp[iI,hf]))
  exact aH hf (aQ (Cl _ _) (evs (by simp[iI,h0,hc,hf])))
def b_ (n:Int):Prop:= -9223372036854775808≤n∧n≤9223372036854775807
theorem BW (l:List Int) (x:Int):ln (l++[x])=ln l++(32::num x):=by simp[ln]
theorem zg (l:List Int) (x:Int) (h:l≠[]):line (l++[x])=line l++(32::num x):=by
  cases l with
  |nil=>exact absurd rfl h
  |cons a r=>rw[List.cons_append,pP,pP,BW,List.append_assoc]
theorem tW (x:Int):line [x]=num x:=by rw[pP];simp[ln]
theorem vF (l:List Int) (h:∀n∈l,b_ n) (hl:l.length≤1048576):Ev (fun k=>fq.f k l) (txt (line l)):=by
  have key:∀i,i≤l.length→Ev (fun k=>fq.l0 k l (txt (line (l.take i))) (i:Int)) (txt (line l)):=by
    refine down (n:=l.length) ?_ ?_
    · exact Ev.step (fun k=>by rw[fq.l0]) (aH (by omega) (evs (by rw[List.take_length])))
    · intro i hi ih;have hq:=h l[i] (List.getElem_mem hi);have hn:=kW _ hq.1 hq.2;have ht:=pQ (l.take i) (fun n hn=>h n (List.mem_of_mem_take hn));have u:(l.take i).length=i:=(by rw[List.length_take];omega);refine Ev.step (fun k=>by rw[fq.l0]) (ak (by omega) ?_);rw[oC l i hi,bU (by omega) (by omega)];by_cases hz:i=0
      · subst hz;refine aH (by omega) (ak (by omega) (Ev.bind (od _ hq.1 hq.2) (ak (by rw[gP,gP];omega) ?_)));rw[mF];rw[show line (List.take (0+1) l)=line (List.take 0 l)++num l[0]from by rw[List.take_succ_eq_append_getElem hi];exact tW _]at ih;exact ih
      · refine ak (by omega) (ak (by rw[gP];omega) (ak (by omega) (Ev.bind (od _ hq.1 hq.2) (ak ?_ ?_))))
        · rw[show(⟨#[32]⟩:ByteArray)=txt [32]from rfl,mF,gP,gP];simp only[List.length_append,List.length_singleton];omega
        · rw[show(⟨#[32]⟩:ByteArray)=txt [32]from rfl,mF,mF];rw[show line (List.take (i+1) l)=line (List.take i l)++(32::num l[i])from by rw[List.take_succ_eq_append_getElem hi];exact zg _ _ (by intro h0;rw[h0]at u;simp at u;omega)]at ih;rw[show line (List.take i l)++[32]++num l[i]=line (List.take i l)++(32::num l[i])from by simp];exact ih
  unfold fq.f;exact key 0 (Nat.zero_le _)
def n9 (e:S64):ByteArray:=txt (line [e.f0.f0,e.f0.f1,e.f1,e.f2])
def kQ (e:S64):Prop:=b_ e.f0.f0∧b_ e.f0.f1∧b_ e.f1∧b_ e.f2
def headText (d:Int) (q:List Int) (a m:Int):List ByteArray:=[txt ([112,105,116,99,104,101,115,32]++line q),txt ([100,111,110,101,32]++num d),txt ([119,97,114,109,116,104,32]++num a),txt ([109,111,109,101,110,116,32]++num m)]
def mv (p:List ag) (d:Int) (q:List Int) (a m:Int) (l:List S64):List ByteArray:=if dx p d q a m l=true then headText d q a m++l.map n9 else[]
theorem tk {e:S64} (h:kQ e):∀n∈[e.f0.f0,e.f0.f1,e.f1,e.f2],b_ n:=by
  obtain⟨h1,h2,h3,h4⟩:=h;intro n hn;simp at hn;rcases hn with rfl|rfl|rfl|rfl<;>assumption
theorem uS (l:List S64) (i:Nat) (h:i<l.length):aq l (i:Int)=l[i]:=by
  unfold aq;simp[List.getD_eq_getElem?_getD,h]
theorem yu (p:List ag) (d:Int) (q:List Int) (a m:Int) (l:List S64) (hd:b_ d) (hq:∀n∈q,b_ n) (ha:b_ a) (hm:b_ m) (hl:∀e∈l,kQ e) (u:q.length≤1048576) (ll:l.length≤1048576):
    Ev (fun k=>dT.f k p d q a m l) (mv p d q a m l):=by
  have key:∀i,i≤l.length→Ev (fun k=>dT.l0 k (headText d q a m++(l.take i).map n9) (i:Int) p d q a m l) (headText d q a m++l.map n9):=by
    refine down (n:=l.length) ?_ ?_
    · exact Ev.step (fun k=>by rw[dT.l0]) (aH (by omega) (evs (by rw[List.take_length])))
    · intro i hi ih;refine Ev.step (fun k=>by rw[dT.l0]) (ak (by omega) (ak (by omega) ?_));rw[uS l i hi,bU (by omega) (by omega)];refine Ev.bind (vF _ (tk (hl l[i] (List.getElem_mem hi))) (by simp)) (ak (by simp[headText];omega) ?_);rw[List.take_succ_eq_append_getElem hi,List.map_append,←List.append_assoc]at ih;exact ih
  unfold dT.f mv;refine Ev.bind (ko p d q a m l (by omega)) ?_;by_cases hok:dx p d q a m l=true
  · rw[ai hok];have h1:=pQ q hq;have h2:=kW d hd.1 hd.2;have h3:=kW a ha.1 ha.2;have h4:=kW m hm.1 hm.2;refine ak hok (Ev.bind (vF q hq u) (ak (by rw[gP];omega) (Ev.bind (od _ hd.1 hd.2) (ak (by rw[gP];omega) (Ev.bind (od _ ha.1 ha.2) (ak (by rw[gP];omega) (Ev.bind (od _ hm.1 hm.2) (ak (by rw[gP];omega) ?_))))))));exact key 0 (Nat.zero_le _)
  · rw[aj hok];exact aH hok (Ev.now _)
theorem yt (p:List ag) (d:Int) (q:List Int) (a m:Int) (l:List S64) (hd:b_ d) (hq:∀n∈q,b_ n) (ha:b_ a) (hm:b_ m) (hl:∀e∈l,kQ e) (u:q.length≤1048576) (ll:l.length≤1048576):
    Ev (fun k=>dm.f k p d q a m l) (mv p d q a m l):=by
  have key:∀i,i≤l.length→Ev (fun k=>dm.l0 k (headText d q a m++(l.take i).map n9) l (l.length:Int) (i:Int)) (headText d q a m++l.map n9):=by
    refine down (n:=l.length) ?_ ?_
    · exact Ev.step (fun k=>by rw[dm.l0]) (aH (by omega) (evs (by rw[List.take_length])))
    · intro i hi ih;refine Ev.step (fun k=>by rw[dm.l0]) (ak (by omega) (ak (by omega) (ak (by omega) ?_)));rw[uS l i hi,bU (by omega) (by omega)];refine Ev.bind (sf _ (tk (hl l[i] (List.getElem_mem hi))) (by simp)) (ak (by simp[headText];omega) ?_);rw[List.take_succ_eq_append_getElem hi,List.map_append,←List.append_assoc]at ih;exact ih
  have one:∀x,b_ x→Ev (fun k=>cN.f k [x]) (txt (num x)):=fun x hx=>by
    have:=sf [x] (by intro n hn;simp at hn;subst hn;exact hx) (by simp)
    rwa [tW]at this
  unfold dm.f mv;refine Ev.bind (kn p d q a m l (by omega)) ?_;by_cases hok:dx p d q a m l=true
  · rw[ai hok];have h1:=pQ q hq;have h2:=kW d hd.1 hd.2;have h3:=kW a ha.1 ha.2;have h4:=kW m hm.1 hm.2;refine ak hok (Ev.bind (sf q hq u) (ak (by rw[gP];omega) (Ev.bind (one _ hd) (ak (by rw[gP];omega) (Ev.bind (one _ ha) (ak (by rw[gP];omega) (Ev.bind (one _ hm) (ak (by rw[gP];omega) ?_))))))));exact key 0 (Nat.zero_le _)
  · rw[aj hok];exact aH hok (Ev.now _)
end Q
namespace S
open Go.RowKit Go.Sort P Q V WW.bc
attribute [local go_sem] dB dC
abbrev E:=S64
instance:Inhabited E:=⟨z64⟩
def d_ (x:E):List Value:=[.int .i64 x.f0.f0,.int .i64 x.f0.f1,.int .i64 x.f1,.int .i64 x.f2]
abbrev vQ (x:E):Value:= .agg #[.int .i64 x.f0.f0,.int .i64 x.f0.f1,.int .i64 x.f1,.int .i64 x.f2]
class fw (W:World) (a:Addr) (v:outParam Value):Prop where out:W.cell? a=some v
section
variable {w w0 W:World} {a:Addr} {v:Value} {o:Obj} {n:Nat}
theorem ra (h:fw W a v):a.block<W.heap.size:=World.block_lt_of_cell? W a h.out
instance [h:fw W a v]:fw (W.alloc o) a v:=⟨((bM (RowKit.Below.refl W.heap.size W) o).cell (ra h)).trans h.out⟩
instance [h:fw W a v]:fw W.drew a v:=⟨h.out⟩
instance [h:fw W a v]:fw (W.drewN n) a v:=⟨h.out⟩
instance [b:au w W] [h:fw w a v]:fw W a v:=⟨(b.out.cell (ra h)).trans h.out⟩
instance [b:fz w0 W] [h:fw w0 a v]:fw W a v:=⟨(b.out.cell (ra h)).trans h.out⟩
theorem xM (W:World) (a:Addr) {v:Value} [h:fw W a v]:W.cell? a=some v:=h.out
end
def lx (x:E):Prop:=x.f1=1∨x.f1=2
theorem q9 {a b:Int} (h:a≠b):(a != b)=true:=bne_iff_ne.mpr h
theorem qZ {a b:Int} (h:a=b):(a != b)=false:=bne_eq_false_iff_eq.mpr h
set_option maxHeartbeats 8000000 in
set_option maxRecDepth 100000 in
set_option synthInstance.maxHeartbeats 400000 in
set_option synthInstance.maxSize 100000 in
theorem Bx (a b:E) (w:World) (ha:lx a) (hb:lx b):
    Calls Tryz.prog 154 #[vQ a,vQ b] w fun e w'=>e= .returned (.bool (aG a b))∧Below w.heap.size w w':=by
  obtain⟨⟨a0,a1⟩,a2,a3⟩:=a;obtain⟨⟨b0,b1⟩,b2,b3⟩:=b;obtain⟨r,hr⟩:∃r,aG ⟨⟨a0,a1⟩,a2,a3⟩ ⟨⟨b0,b1⟩,b2,b3⟩=r:=⟨_,rfl⟩;rw[hr];unfold lx at ha hb;simp only at ha hb;unfold aG at hr;simp only at hr;have hu:=Tryz.underlying64;have u:=Tryz.underlying62;have fH:∀{p q s:Prop} [Decidable p] [Decidable q] [Decidable s],True:=fun{_ _ _} _ _ _=>trivial;clear fH;by_cases h1:a2=b2
  · rw[ai h1]at hr;have h1:=qZ h1;by_cases h2:a3=b3
    · rw[ai h2]at hr;have h2:=qZ h2;by_cases h3:a0=b0
      · rw[ai h3]at hr;have h3:=qZ h3;clear ha hb;go_enter Tryz.func154,Tryz.ntmps154;go_wp2;go_ret;exact⟨rfl,From.out⟩
      · rw[aj h3]at hr;have h3:=q9 h3;clear ha hb;go_enter Tryz.func154,Tryz.ntmps154;go_wp2;go_ret;exact⟨rfl,From.out⟩
    · rw[aj h2]at hr;have h2:=q9 h2;clear ha hb;go_enter Tryz.func154,Tryz.ntmps154;go_wp2;go_ret;exact⟨rfl,From.out⟩
  · rw[aj h1]at hr;have h4:(a2==2)=r:=(by rw[←hr,Bool.eq_iff_iff,beq_iff_eq,decide_eq_true_eq];omega);have h1:=q9 h1;clear ha hb hr;go_enter Tryz.func154,Tryz.ntmps154;go_wp2;go_ret;exact⟨rfl,From.out⟩
structure cZ where
  g:Nat
  bs:Nat
  n:Nat
  c:Nat
  lb:Array Value
  sb:Array Value
class dA (C:outParam cZ):Prop where
  swap:SwapSwapsK Tryz.prog 189 C.sb d_ 4 C.g 0 C.n
  small:C.n<50
  lb:C.lb= #[.pointer (some ⟨C.bs,0,none⟩)]
  ne:C.bs≠C.g
structure cf (C:cZ) (W:World) (D:Array E):Prop where
  hold:HoldsK d_ 4 W C.g 0 D
  size:D.size=C.n
  box:W.heap[C.bs]? =some (.cells #[.slice (some ⟨C.g,0,none⟩) C.n C.c] 28 (0,0))
  lt:C.g<W.heap.size
  shape:∃cur:Array Value,W.heap[C.g]? =some (.cells cur 64 (0,0))∧cur.size=C.c*4
  pE:∀x∈D,lx x
class So (C:outParam cZ) (W:World) (D:outParam (Array E)):Prop where out:cf C W D
theorem cf.at_ {C:cZ} {W:World} {D:Array E} (h:cf C W D) (i:Nat) (hi:i<C.n):
    W.cell? ⟨C.g,i*4,none⟩=some (.int .i64 D[i]!.f0.f0)∧W.cell? ⟨C.g,i*4+1,none⟩=some (.int .i64 D[i]!.f0.f1)∧W.cell? ⟨C.g,i*4+2,none⟩=some (.int .i64 D[i]!.f1)∧W.cell? ⟨C.g,i*4+3,none⟩=some (.int .i64 D[i]!.f2):=by
  have hi':i<D.size:=by rw[h.size];exact hi
  have c0:=(h.hold.cell (i:=i) (c:=0) hi' (by omega)).1;have c1:=(h.hold.cell (i:=i) (c:=1) hi' (by omega)).1;have c2:=(h.hold.cell (i:=i) (c:=2) hi' (by omega)).1;have c3:=(h.hold.cell (i:=i) (c:=3) hi' (by omega)).1;simp only[Nat.zero_add,Nat.add_zero]at c0 c1 c2 c3;exact⟨c0,c1,c2,c3⟩
theorem cf.tD {C:cZ} {W:World} {D:Array E} (h:cf C W D) (i:Nat) (hi:i<C.n):lx D[i]! :=by
  have hi':i<D.size:=by rw[h.size];exact hi
  rw[getElem!_pos D i hi'];exact h.pE _ (Array.getElem_mem hi')
attribute [local go_sem] xM
set_option maxHeartbeats 8000000 in
set_option maxRecDepth 100000 in
set_option synthInstance.maxHeartbeats 400000 in
set_option synthInstance.maxSize 100000 in
theorem tV (C:cZ) (w:World) (D:Array E) (h:cf C w D) (hlb:C.lb= #[.pointer (some ⟨C.bs,0,none⟩)]) (hn:C.n<50) (i j:Nat) (hi:i<C.n) (hj:j<C.n):
    Calls Tryz.prog 153 (#[.int .i64 i,.int .i64 j]++C.lb) w fun e w'=>e= .returned (.bool (aG D[i]! D[j]!))∧Below w.heap.size w w':=by
  obtain⟨i0,i1,i2,i3⟩:=h.at_ i hi;obtain⟨j0,j1,j2,z⟩:=h.at_ j hj;have fi:=h.tD i hi;have fj:=h.tD j hj;generalize D[i]! =x at*;generalize D[j]! =y at*;have u:=h.box;rw[hlb];obtain⟨g,bs,n,c,lb,sb⟩:=C;simp only at*;have F:aJ w bs #[.slice (some ⟨g,0,none⟩) n c] 28:=⟨u⟩;have hs:=fun W=>Bx x y W fi fj;have HS:=ae.mk hs;have k0:=fw.mk i0;have k1:=fw.mk i1;have k2:=fw.mk i2;have k3:=fw.mk i3;have k4:=fw.mk j0;have I:=fw.mk j1;have J:=fw.mk j2;have K:=fw.mk z;clear i0 i1 i2 i3 j0 j1 j2 z;have hi1:(0:Int)≤(i:Int):=by omega
  have hi2:(i:Int)<(n:Int):=by omega
  have hj1:(0:Int)≤(j:Int):=by omega
  have hj2:(j:Int)<(n:Int):=by omega
  clear h hlb u hs fi fj hn hi hj;have hu:=Tryz.underlying64;go_enter Tryz.func153,Tryz.ntmps153;go_wp2;refine oF ?_;intro w3 H
  go_region_held3 (fun w'=>fz w3 w') (first|exact⟨From.out⟩|skip) (first|(go_at_call 154;refine(HS.out _).mono ?_;rintro e w2 ⟨rfl,hb⟩;have G:=au.mk hb;clear hb))
  all_goals go_wp2
  all_goals go_ret
  all_goals exact⟨rfl,From.out⟩
end S
namespace S
open Go.RowKit Go.Sort P Q V WW.bc
class Ix (i:Int) (n:Nat):Prop where
  lo:0≤i
  hi:i<(n:Int)
theorem pB (x:E):(d_ x).length=4:=rfl
def jQ (C:cZ) (D:Array E) (W:World) (i j:Int):World:=(W.setCells C.g (0+i.toNat*4) (d_ D[j.toNat]!)).setCells C.g (0+j.toNat*4) (d_ D[i.toNat]!)
theorem rS {C:cZ} {W:World} {D:Array E} (h:cf C W D) (i j:Int) (hi:i.toNat<C.n) (hj:j.toNat<C.n):jQ C D W i j=putRowK d_ 4 W C.g 0 (swp D i.toNat j.toNat):=by
  have:=swap_worldK d_ 4 pB W 0 0 C.g 0 D i.toNat j.toNat (by rw[h.size];exact hi) (by rw[h.size];exact hj)
  rw[show((putRowK d_ 4 (Sort.ahead W 0) C.g 0 D).drewN 0)=W by
    rw[show∀X:World,X.drewN 0=X from fun _=>rfl];exact putRowK_self d_ 4 W C.g 0 D h.hold]at this
  exact this
theorem zt {D:Array E} {i j:Nat} {x:E} (h:x∈swp D i j) (hi:i<D.size) (hj:j<D.size):x∈D:=by
  obtain⟨k,hk,rfl⟩:=Array.mem_iff_getElem.mp h;have hk':k<D.size:=by simpa[size_swp]using hk
  rw[←getElem!_pos (swp D i j) k hk];by_cases e1:k=j
  · subst e1;rw[swp_right D i k hk',getElem!_pos D i hi];exact Array.getElem_mem hi
  · by_cases e2:k=i
    · subst e2;rw[swp_left D k j hk' e1,getElem!_pos D j hj];exact Array.getElem_mem hj
    · rw[swp_other D i j k e2 e1,getElem!_pos D k hk'];exact Array.getElem_mem hk'
theorem uO {W:World} {g:Nat} {D:Array E} {c:Nat} (h:∃cur:Array Value,W.heap[g]? =some (.cells cur 64 (0,0))∧cur.size=c):∃cur:Array Value,(putRowK d_ 4 W g 0 D).heap[g]? =some (.cells cur 64 (0,0))∧cur.size=c:=by
  obtain⟨cur,hc,hs⟩:=h;refine⟨putCells id 0 (flatK d_ 4 D) cur,?_,by simpa[putCells]using hs⟩;unfold putRowK putRow;rw[rE,ai rfl,hc];rfl
class Fr (C:outParam cZ) (w0 W:World):Prop where out:w0.grownBy W (some C.g)
section
variable {C:cZ} {w w0 W:World} {D:Array E} {o:Obj} {n x i:Nat} {v:Value} {cs:Array Value} {t:TypeId}
theorem cf.move (h:cf C w D) (hs:w.heap.size≤W.heap.size) (h1:W.heap[C.g]? =w.heap[C.g]?) (h2:W.heap[C.bs]? =w.heap[C.bs]?):cf C W D:=
  ⟨fun j hj=>by
    obtain⟨a,b⟩:=h.hold j hj;exact⟨(World.cell?_of_block (a:=⟨C.g,0+j,none⟩) h1).trans a,(World.frozen?_of_block (a:=⟨C.g,0+j,none⟩) h1).trans b⟩,h.size,h2.trans h.box,Nat.lt_of_lt_of_le h.lt hs,by rw[h1];exact h.shape,h.pE⟩
theorem cf.nV (h:cf C W D):C.bs<W.heap.size:=dU h.box
theorem cf.below (h:cf C w D) (hb:RowKit.Below w.heap.size w W):cf C W D:=h.move hb.size (hb.block _ h.lt) (hb.block _ h.nV)
instance [h:So C W D]:So C (W.alloc o) D:=⟨h.out.below (bM (RowKit.Below.refl _ _) o)⟩
instance [h:So C W D]:So C W.drew D:=⟨h.out.below (cv (RowKit.Below.refl _ _))⟩
instance [h:So C W D]:So C (W.drewN n) D:=⟨h.out.below (dp (RowKit.Below.refl _ _) n)⟩
instance [b:au w W] [h:So C w D]:So C W D:=⟨h.out.below b.out⟩
instance [h:So C W D] [k:fY W x]:dQ x C.g:=⟨by rw[k.out];exact Nat.ne_of_gt h.out.lt⟩
instance [h:So C W D] [k:fY W x]:dQ x C.bs:=⟨by rw[k.out];exact Nat.ne_of_gt h.out.nV⟩
instance [h:So C W D] [k:dQ x C.g] [l:dQ x C.bs]:So C (W.setCell ⟨x,i,none⟩ v) D:=
  ⟨h.out.move (by simp) (Below.heap_setCell W ⟨x,i,none⟩ v _ (Ne.symm k.out)) (Below.heap_setCell W ⟨x,i,none⟩ v _ (Ne.symm l.out))⟩
theorem rT (h:cf C W D) (i j:Int) (hi:i.toNat<C.n) (hj:j.toNat<C.n):W.grownBy (jQ C D W i j) (some C.g):=by
  rw[rS h i j hi hj];refine⟨rfl,rfl,rfl,by simp[putRowK],fun k hk hne=> ?_⟩;unfold putRowK putRow;rw[rE,aj (fun hh=>hne (by rw[hh]))]
theorem kd {i:Int} {n:Nat} (h:Ix i n):i.toNat<n:=by have:=h.lo;have:=h.hi;omega
theorem Bw [g:dA C] (h:cf C W D) (i j:Int) (hi:i.toNat<C.n) (hj:j.toNat<C.n):cf C (jQ C D W i j) (swp D i.toNat j.toNat):=by
  have hg:=rT h i j hi hj;refine⟨?_,by rw[size_swp];exact h.size,(hg.block _ h.nV (fun e=>g.ne (aA e))).trans h.box,Nat.lt_of_lt_of_le h.lt hg.size,by rw[rS h i j hi hj];exact uO h.shape,fun x hx=>h.pE x (zt hx (by rw[h.size];exact hi) (by rw[h.size];exact hj))⟩;rw[rS h i j hi hj];exact holdsK_putRowK d_ 4 W C.g 0 D _ h.hold (size_swp _ _ _)
instance {i j:Int} [g:dA C] [h:So C W D] [a:Ix i C.n] [b:Ix j C.n]:So C (jQ C D W i j) (swp D i.toNat j.toNat):=⟨Bw h.out i j (kd a) (kd b)⟩
instance {i j:Int} [h:So C W D] [k:aJ W x cs t] [l:dQ x C.g] [a:Ix i C.n] [b:Ix j C.n]:aJ (jQ C D W i j) x cs t:=⟨((rT h.out i j (kd a) (kd b)).block x (dU k.out) (fun e=>l.out (aA e))).trans k.out⟩
theorem vC (W:World) (i j:Int) [g:dA C] [h:So C W D] [a:Ix i C.n] [b:Ix j C.n]:(callFunc 189 (#[.int .i64 i,.int .i64 j]++C.sb)).run Tryz.prog W= .ok (.value (.tuple #[])) (jQ C D W i j):=by
  have:=g.swap W D h.out.hold h.out.size i.toNat j.toNat (kd a) (kd b);rw[show((i.toNat:Nat):Int)=i from Int.toNat_of_nonneg a.lo,show((j.toNat:Nat):Int)=j from Int.toNat_of_nonneg b.lo]at this;exact this
theorem rA [g:dA C] [h:So C W D] (i j:Int) [a:Ix i C.n] [b:Ix j C.n]:
    Calls Tryz.prog 153 (#[.int .i64 i,.int .i64 j]++C.lb) W fun e w'=>e= .returned (.bool (aG D[i.toNat]! D[j.toNat]!))∧RowKit.Below W.heap.size W w':=by
  have:=tV C W D h.out g.lb g.small i.toNat j.toNat (kd a) (kd b);rw[show((i.toNat:Nat):Int)=i from Int.toNat_of_nonneg a.lo,show((j.toNat:Nat):Int)=j from Int.toNat_of_nonneg b.lo]at this;exact this
class cj (D:Array E) (i j:Int) (b:outParam Bool):Prop where out:aG D[i.toNat]! D[j.toNat]! =b
theorem cj.of {D:Array E} {i j:Int} {b:Bool} {i' j':Nat} (h:aG D[i']! D[j']! =b) (hi:i=i') (hj:j=j'):cj D i j b:=⟨by rw[hi,hj,Int.toNat_natCast,Int.toNat_natCast];exact h⟩
theorem fe {b:Bool} [g:dA C] [h:So C W D] (i j:Int) [a:Ix i C.n] [k:Ix j C.n] [l:cj D i j b]:
    Calls Tryz.prog 153 (#[.int .i64 i,.int .i64 j]++C.lb) W fun e w'=>e= .returned (.bool b)∧RowKit.Below W.heap.size W w':=
  (rA i j).mono fun e w' h=>⟨by rw[h.1,l.out],h.2⟩
theorem iH {w0 w W:World} {r:Option Nat} (h:w0.grownBy w r) (k:w.grownBy W r):w0.grownBy W r:=
  ⟨k.os.trans h.os,k.tape.trans h.tape,k.output.trans h.output,Nat.le_trans h.size k.size,fun j hj hne=>(k.block j (Nat.lt_of_lt_of_le hj h.size) hne).trans (h.block j hj hne)⟩
theorem iZ {w W:World} {r:Option Nat} (h:RowKit.Below w.heap.size w W):w.grownBy W r:=⟨h.os,h.tape,h.output,h.size,fun j hj _=>h.block j hj⟩
instance [h:So C w D]:Fr C w w:=⟨iZ (RowKit.Below.refl _ _)⟩
instance [h:Fr C w W]:Fr C w (W.alloc o):=⟨iH h.out (iZ (bM (RowKit.Below.refl _ _) o))⟩
instance [h:Fr C w W]:Fr C w W.drew:=⟨iH h.out (iZ (cv (RowKit.Below.refl _ _)))⟩
instance [h:Fr C w W]:Fr C w (W.drewN n):=⟨iH h.out (iZ (dp (RowKit.Below.refl _ _) n))⟩
instance [b:au w W] [h:Fr C w0 w]:Fr C w0 W:=⟨iH h.out (iZ b.out)⟩
instance {i j:Int} [h:Fr C w0 W] [k:So C W D] [a:Ix i C.n] [b:Ix j C.n]:Fr C w0 (jQ C D W i j):=⟨iH h.out (rT k.out i j (kd a) (kd b))⟩
class Gb (C:outParam cZ) (w:outParam World) (W:World):Prop where out:w.grownBy W (some C.g)
instance [b:Gb C w W] [h:Fr C w0 w]:Fr C w0 W:=⟨iH h.out b.out⟩
instance [b:Gb C w W] [h:aJ w x cs t] [l:dQ x C.g]:aJ W x cs t:=⟨(b.out.block x (dU h.out) (fun e=>l.out (aA e))).trans h.out⟩
end
end S
namespace S
open Go.RowKit Go.Sort P Q V WW.bc
attribute [local go_sem] dB dC vC
abbrev gU (C:cZ):Value:= .agg #[.func (.func 153) #[] C.lb,.func (.func 189) #[] C.sb]
set_option maxHeartbeats 8000000 in
set_option maxRecDepth 100000 in
set_option synthInstance.maxHeartbeats 400000 in
set_option synthInstance.maxSize 100000 in
theorem yI (C:cZ) [dA C] (w:World) (D:Array E) (h:cf C w D) (a b:Nat) (hab:a≤b) (hb:b≤C.n):
    Calls Tryz.prog 191 #[gU C,.int .i64 a,.int .i64 b] w fun e w'=>e= .returned (.tuple #[])∧cf C w' (insertionSort aG D a b)∧w.grownBy w' (some C.g):=by
  have j0:=So.mk h;have hsm:=dA.small (C:=C);have U:dQ w.heap.size C.g:=⟨Nat.ne_of_gt h.lt⟩;clear h;have hu:=Tryz.underlying184;go_enter Tryz.func191,Tryz.ntmps191;go_wp2
  go_loopw [6] (fun vi wr=>∃(i:Nat) (dk:Array E),vi= .int .i64 i∧ae (a<i)∧ae (i≤b+1)∧So C wr dk∧Fr C w wr∧aJ wr w.heap.size #[.func (.func 153) #[] C.lb,.func (.func 189) #[] C.sb] 184∧ae (insOuter aG a b i dk=insOuter aG a b (a+1) D)) (fun vi _=>b+1-(intOf vi).toNat)
  case atStart=>exact⟨a+1,D,by go_num,⟨by omega⟩,⟨by omega⟩,inferInstance,inferInstance,⟨f_ w _⟩,⟨rfl⟩⟩
  case round=>
    clear j0;obtain⟨i,dk,rfl,u,O,j1,j2,F,HO⟩:=hrel;by_cases hib:i<b
    · have I:decide ((i:Int)<(b:Int))=true:=ah (by omega);go_wp2
      go_loopw [7] (fun vj wr2=>∃(j:Nat) (dj:Array E),vj= .int .i64 j∧ae (a≤j)∧ae (j≤i)∧So C wr2 dj∧Fr C w wr2∧aJ wr2 w.heap.size #[.func (.func 153) #[] C.lb,.func (.func 189) #[] C.sb] 184∧ae (insInner aG a j dj=insInner aG a i dk)) (fun vj _=>(intOf vj).toNat)
      case atStart=>exact⟨i,dk,rfl,⟨by have:=u.out;omega⟩,⟨Nat.le_refl _⟩,j1,j2,F,⟨rfl⟩⟩
      case round=>
        clear j1 j2 F;obtain⟨j,dj,rfl,G,H,j1,j2,F,z⟩:=hrel;have hjb:=H.out;have haj:=G.out;by_cases hja:a<j
        · have J:decide ((a:Int)<(j:Int))=true:=ah (by omega);have x1:Ix (j:Int) C.n:=⟨by omega,by omega⟩;have x2:Ix ((j:Int)-1) C.n:=⟨by omega,by omega⟩;have e1:((j:Int)-1).toNat=j-1:=(by omega);cases hl:aG dj[j]! dj[j-1]! with
          |true=>
           go_wp2_with (first|(go_at_call 153;refine(rA _ _).mono ?_;rintro e w2 ⟨he,hb⟩;rw[Int.toNat_natCast,e1,hl]at he;subst he;have K:=au.mk hb;clear hb))
           refine⟨⟨j-1,swp dj j (j-1),by congr 1;omega,⟨by omega⟩,⟨by omega⟩,?_,inferInstance,inferInstance,⟨?_⟩⟩,by simp[intOf];omega⟩
           · have k:So C (jQ C dj w2 (j:Int) ((j:Int)-1)) (swp dj (j:Int).toNat ((j:Int)-1).toNat):=inferInstance;rw[Int.toNat_natCast,e1]at k;exact k
           · rw[←z.out,insInner_go aG a j dj hja hl]
          |false=>
           go_wp2_with (first|(go_at_call 153;refine(rA _ _).mono ?_;rintro e w2 ⟨he,hb⟩;rw[Int.toNat_natCast,e1,hl]at he;subst he;have K:=au.mk hb;clear hb))
           refine⟨⟨i+1,dj,by go_num,⟨by have:=u.out;omega⟩,⟨by omega⟩,inferInstance,inferInstance,inferInstance,⟨?_⟩⟩,by simp[intOf];omega⟩;rw[←HO.out,insOuter_go aG a b i dk hib,←z.out,insInner_stop aG a j dj (.inr hl)]
        · have J:decide ((a:Int)<(j:Int))=false:=ax (by omega);go_wp2;refine⟨⟨i+1,dj,by go_num,⟨by have:=u.out;omega⟩,⟨by omega⟩,inferInstance,inferInstance,inferInstance,⟨?_⟩⟩,by simp[intOf];omega⟩;rw[←HO.out,insOuter_go aG a b i dk hib,←z.out,insInner_stop aG a j dj (.inl (by omega))]
    · have I:decide ((i:Int)<(b:Int))=false:=ax (by omega);go_wp2
      go_end0
      refine⟨rfl,?_,Fr.out⟩;have:=HO.out;rw[insOuter_stop aG a b i dk hib]at this;unfold insertionSort;rw[←this];exact So.out
abbrev dv (C:cZ):Array Value:= #[.func (.func 153) #[] C.lb,.func (.func 189) #[] C.sb]
theorem er {C:cZ} {W:World} {D D':Array E} (h:So C W D) (e:D=D'):cf C W D':=e▸h.out
set_option maxHeartbeats 8000000 in
set_option maxRecDepth 100000 in
set_option synthInstance.maxHeartbeats 400000 in
set_option synthInstance.maxSize 100000 in
theorem Bu (C:cZ) [dA C] (w:World) (D:Array E) (h:cf C w D) (lo hi first:Nat) (hf:first+hi≤C.n) (hlo:lo≤C.n):
    Calls Tryz.prog 199 #[gU C,.int .i64 lo,.int .i64 hi,.int .i64 first] w fun e w'=>e= .returned (.tuple #[])∧cf C w' (siftDown aG hi first lo D)∧w.grownBy w' (some C.g):=by
  have j0:=So.mk h;have hsm:=dA.small (C:=C);have J:dQ w.heap.size C.g:=⟨Nat.ne_of_gt h.lt⟩;clear h;have hu:=Tryz.underlying184;go_enter Tryz.func199,Tryz.ntmps199;go_wp2
  go_loopw [8] (fun v wr=>∃(r:Nat) (dk:Array E),v= .int .i64 r∧ae (r≤C.n)∧So C wr dk∧Fr C w wr∧aJ wr w.heap.size (dv C) 184∧ae (siftDown aG hi first r dk=siftDown aG hi first lo D)) (fun v _=>hi-(intOf v).toNat)
  case atStart=>exact⟨lo,D,rfl,⟨hlo⟩,inferInstance,inferInstance,⟨f_ w _⟩,⟨rfl⟩⟩
  case round=>
    clear j0;obtain⟨r,dk,rfl,G,j1,j2,I,HO⟩:=hrel;have H:=G.out;have u:=HO.out;rw[siftDown]at u;by_cases c1:2*r+1≥hi
    · rw[dif_pos c1]at u;have u:=ae.mk u;have d1:decide ((hi:Int)≤2*(r:Int)+1)=true:=ah (by omega);go_wp2
      go_end0
      exact⟨rfl,er j1 u.out,Fr.out⟩
    rw[dif_neg c1]at u;have d1:decide ((hi:Int)≤2*(r:Int)+1)=false:=ax (by omega);have x1:Ix ((first:Int)+(2*(r:Int)+1)) C.n:=⟨by omega,by omega⟩;have x0:Ix ((first:Int)+(r:Int)) C.n:=⟨by omega,by omega⟩;by_cases c2:2*r+1+1<hi
    · have d2:decide (2*(r:Int)+1+1<(hi:Int))=true:=ah (by omega);have x2:Ix ((first:Int)+(2*(r:Int)+1)+1) C.n:=⟨by omega,by omega⟩;have x3:Ix ((first:Int)+(2*(r:Int)+1+1)) C.n:=⟨by omega,by omega⟩;cases l1:aG dk[first+(2*r+1)]! dk[first+(2*r+1)+1]! with
      |true=>
       have y1:cj dk ((first:Int)+(2*(r:Int)+1)) ((first:Int)+(2*(r:Int)+1)+1) true:=cj.of l1 (by omega) (by omega);rw[l1,ah c2,Bool.and_self,ai rfl]at u;clear l1;cases l2:aG dk[first+r]! dk[first+(2*r+2)]! with
       |true=>
        have F:cj dk ((first:Int)+(r:Int)) ((first:Int)+(2*(r:Int)+1+1)) true:=cj.of l2 (by omega) (by omega);rw[l2,aj (by decide),dif_pos c2]at u;have u:=ae.mk u;clear l2
        go_wp2_with (first|(go_at_call 153;refine(fe _ _).mono ?_;rintro e w2 ⟨rfl,hb⟩;have z:=au.mk hb;clear hb))
        refine⟨⟨2*r+2,swp dk (first+r) (first+(2*r+2)),by first|rfl|(congr 1;omega),⟨by omega⟩,⟨er (D':=swp dk (first+r) (first+(2*r+2))) inferInstance (by first|rfl|(congr 1<;>omega))⟩,inferInstance,inferInstance,u⟩,by simp[intOf];omega⟩
       |false=>
        have F:cj dk ((first:Int)+(r:Int)) ((first:Int)+(2*(r:Int)+1+1)) false:=cj.of l2 (by omega) (by omega);rw[l2,ai (by decide)]at u;have u:=ae.mk u;clear l2
        go_wp2_with (first|(go_at_call 153;refine(fe _ _).mono ?_;rintro e w2 ⟨rfl,hb⟩;have z:=au.mk hb;clear hb))
        ((try simp only[Exit.inBlock,Exit.then]);refine bodyPost_ret (results_none rfl _ _ _) rfl ?_)
        exact⟨rfl,er inferInstance u.out,Fr.out⟩
      |false=>
       have y1:cj dk ((first:Int)+(2*(r:Int)+1)) ((first:Int)+(2*(r:Int)+1)+1) false:=cj.of l1 (by omega) (by omega);rw[l1,Bool.and_false,aj (by decide)]at u;clear l1;cases l2:aG dk[first+r]! dk[first+(2*r+1)]! with
       |true=>
        have F:cj dk ((first:Int)+(r:Int)) ((first:Int)+(2*(r:Int)+1)) true:=cj.of l2 (by omega) (by omega);rw[l2,aj (by decide)]at u;have u:=ae.mk u;clear l2
        go_wp2_with (first|(go_at_call 153;refine(fe _ _).mono ?_;rintro e w2 ⟨rfl,hb⟩;have z:=au.mk hb;clear hb))
        refine⟨⟨2*r+1,swp dk (first+r) (first+(2*r+1)),by first|rfl|(congr 1;omega),⟨by omega⟩,⟨er (D':=swp dk (first+r) (first+(2*r+1))) inferInstance (by first|rfl|(congr 1<;>omega))⟩,inferInstance,inferInstance,u⟩,by simp[intOf];omega⟩
       |false=>
        have F:cj dk ((first:Int)+(r:Int)) ((first:Int)+(2*(r:Int)+1)) false:=cj.of l2 (by omega) (by omega);rw[l2,ai (by decide)]at u;have u:=ae.mk u;clear l2
        go_wp2_with (first|(go_at_call 153;refine(fe _ _).mono ?_;rintro e w2 ⟨rfl,hb⟩;have z:=au.mk hb;clear hb))
        ((try simp only[Exit.inBlock,Exit.then]);refine bodyPost_ret (results_none rfl _ _ _) rfl ?_)
        exact⟨rfl,er inferInstance u.out,Fr.out⟩
    · have d2:decide (2*(r:Int)+1+1<(hi:Int))=false:=ax (by omega);rw[ax c2,Bool.false_and,aj (by decide)]at u;cases l2:aG dk[first+r]! dk[first+(2*r+1)]! with
      |true=>
       have F:cj dk ((first:Int)+(r:Int)) ((first:Int)+(2*(r:Int)+1)) true:=cj.of l2 (by omega) (by omega);rw[l2,aj (by decide)]at u;have u:=ae.mk u;clear l2
       go_wp2_with (first|(go_at_call 153;refine(fe _ _).mono ?_;rintro e w2 ⟨rfl,hb⟩;have z:=au.mk hb;clear hb))
       refine⟨⟨2*r+1,swp dk (first+r) (first+(2*r+1)),by first|rfl|(congr 1;omega),⟨by omega⟩,⟨er (D':=swp dk (first+r) (first+(2*r+1))) inferInstance (by first|rfl|(congr 1<;>omega))⟩,inferInstance,inferInstance,u⟩,by simp[intOf];omega⟩
      |false=>
       have F:cj dk ((first:Int)+(r:Int)) ((first:Int)+(2*(r:Int)+1)) false:=cj.of l2 (by omega) (by omega);rw[l2,ai (by decide)]at u;have u:=ae.mk u;clear l2
       go_wp2_with (first|(go_at_call 153;refine(fe _ _).mono ?_;rintro e w2 ⟨rfl,hb⟩;have z:=au.mk hb;clear hb))
       ((try simp only[Exit.inBlock,Exit.then]);refine bodyPost_ret (results_none rfl _ _ _) rfl ?_)
       exact⟨rfl,er inferInstance u.out,Fr.out⟩
theorem vr {C:cZ} {W:World} {D:Array E} [dA C] [h:So C W D] (lo' hi' first':Int) (lo hi first:Nat) (e1:lo'=lo) (e2:hi'=hi) (e3:first'=first) (hf:first+hi≤C.n) (hlo:lo≤C.n):
    Calls Tryz.prog 199 #[gU C,.int .i64 lo',.int .i64 hi',.int .i64 first'] W fun e w'=>e= .returned (.tuple #[])∧cf C w' (siftDown aG hi first lo D)∧W.grownBy w' (some C.g):=by
  subst e1 e2 e3;exact Bu C W D h.out lo hi first hf hlo
set_option maxHeartbeats 8000000 in
set_option maxRecDepth 100000 in
set_option synthInstance.maxHeartbeats 400000 in
set_option synthInstance.maxSize 100000 in
theorem yz (C:cZ) [dA C] (w:World) (D:Array E) (h:cf C w D) (a b:Nat) (hab:a≤b) (hb:b≤C.n):
    Calls Tryz.prog 192 #[gU C,.int .i64 a,.int .i64 b] w fun e w'=>e= .returned (.tuple #[])∧cf C w' (heapSort aG D a b)∧w.grownBy w' (some C.g):=by
  have j0:=So.mk h;have hsm:=dA.small (C:=C);have G:dQ w.heap.size C.g:=⟨Nat.ne_of_gt h.lt⟩;clear h;have hu:=Tryz.underlying184
  have hq:Int.tdiv ((b:Int)-(a:Int)-1) 2=(((b-a-1)/2:Nat):Int):=by
    by_cases h0:b-a=0
    · rw[h0,show(b:Int)-(a:Int)-1= -1 by omega];decide
    · rw[show(b:Int)-(a:Int)-1=((b-a-1:Nat):Int)by omega];rfl
  go_enter Tryz.func192,Tryz.ntmps192;go_wp2
  go_loopw [9] (fun v wr=>∃(k:Nat) (z:Int) (dk:Array E),v= .int .i64 z∧ae (z=(k:Int)-1)∧ae (k≤(b-a-1)/2+1)∧So C wr dk∧Fr C w wr∧aJ wr w.heap.size (dv C) 184∧ae (heapBuild aG (b-a) a k dk=heapBuild aG (b-a) a ((b-a-1)/2+1) D)) (fun v _=>(intOf v+1).toNat)
  case atStart=>
    refine⟨(b-a-1)/2+1,_,D,rfl,⟨?_⟩,⟨Nat.le_refl _⟩,inferInstance,inferInstance,⟨f_ w _⟩,⟨rfl⟩⟩;omega
  case round=>
    clear j0;obtain⟨k,z,dk,rfl,u,HK,j1,j2,F,HO⟩:=hrel;have hz:=u.out;have hk:=HK.out;cases k with
    |succ m=>
     obtain rfl:z=(m:Int):=(by omega);have d1:decide (0≤(m:Int))=true:=ah (by omega);clear hq hz
     go_wp2_with (first|(go_at_call 199;refine(vr _ _ _ m (b-a) a rfl (by omega) rfl (by omega) (by omega)).mono ?_;rintro e w2 ⟨rfl,hs,hg⟩;have k1:=So.mk hs;have k2:=Gb.mk hg;clear hs hg))
     exact⟨⟨m,_,_,rfl,⟨rfl⟩,⟨by omega⟩,k1,inferInstance,inferInstance,⟨HO.out⟩⟩,by simp[intOf]⟩
    |zero=>
     obtain rfl:z= -1:=(by omega);have ho:dk=heapBuild aG (b-a) a ((b-a-1)/2+1) D:=HO.out;clear hq hz HO;go_wp2
     go_loopw [10] (fun v wr=>∃(k:Nat) (z:Int) (dj:Array E),v= .int .i64 z∧ae (z=(k:Int)-1)∧ae (k≤b-a)∧So C wr dj∧Fr C w wr∧aJ wr w.heap.size (dv C) 184∧ae (heapPop aG a k dj=heapSort aG D a b)) (fun v _=>(intOf v+1).toNat)
     case atStart=>exact⟨b-a,_,dk,rfl,⟨by omega⟩,⟨Nat.le_refl _⟩,j1,j2,F,⟨by rw[ho];rfl⟩⟩
     case round=>
       clear j1 j2 F u HK ho hk;obtain⟨k,z,dj,rfl,u,HK,j1,j2,F,HO⟩:=hrel;have hz:=u.out;have hk:=HK.out;cases k with
       |succ m=>
        obtain rfl:z=(m:Int):=(by omega);have d1:decide (0≤(m:Int))=true:=ah (by omega);have x1:Ix (a:Int) C.n:=⟨by omega,by omega⟩;have x2:Ix ((a:Int)+(m:Int)) C.n:=⟨by omega,by omega⟩;clear hz
        go_wp2_with (first|(go_at_call 199;refine(vr _ _ _ 0 m a rfl rfl rfl (by omega) (by omega)).mono ?_;rintro e w2 ⟨rfl,hs,hg⟩;have k1:=So.mk hs;have k2:=Gb.mk hg;clear hs hg))
        refine⟨⟨m,_,_,rfl,⟨rfl⟩,⟨by omega⟩,⟨er (D':=siftDown aG m a 0 (swp dj a (a+m))) k1 (by first|rfl|(congr 2<;>omega))⟩,inferInstance,inferInstance,⟨HO.out⟩⟩,by simp[intOf]⟩
       |zero=>
        obtain rfl:z= -1:=(by omega);have ho:dj=heapSort aG D a b:=HO.out;clear hz;go_wp2
        go_end0
        exact⟨rfl,er j1 ho,Fr.out⟩
class Fx (x:outParam Nat) (w0 W:World):Prop where out:w0.grownBy W (some x)
class Gx (x:outParam Nat) (w:outParam World) (W:World):Prop where out:w.grownBy W (some x)
section
variable {C:cZ} {w w0 W:World} {D:Array E} {o:Obj} {n x y i:Nat} {v:Value} {cs:Array Value} {t:TypeId}
instance [h:Fx x w W]:Fx x w (W.alloc o):=⟨iH h.out (iZ (bM (RowKit.Below.refl _ _) o))⟩
instance [h:Fx x w W]:Fx x w W.drew:=⟨iH h.out (iZ (cv (RowKit.Below.refl _ _)))⟩
instance [h:Fx x w W]:Fx x w (W.drewN n):=⟨iH h.out (iZ (dp (RowKit.Below.refl _ _) n))⟩
instance [b:au w W] [h:Fx x w0 w]:Fx x w0 W:=⟨iH h.out (iZ b.out)⟩
instance [b:Gx x w W] [h:Fx x w0 w]:Fx x w0 W:=⟨iH h.out b.out⟩
instance [h:Fx x w W]:Fx x w (W.setCell ⟨x,i,none⟩ v):=⟨iH h.out ⟨rfl,rfl,rfl,by simp,fun k _ hk=>Below.heap_setCell W ⟨x,i,none⟩ v k (fun e=>hk (by rw[e]))⟩⟩
instance [b:Gx x w W] [h:aJ w y cs t] [l:dQ y x]:aJ W y cs t:=⟨(b.out.block y (dU h.out) (fun e=>l.out (aA e))).trans h.out⟩
instance [b:Gx x w W] [h:From w0 w] [l:Nw w0 x]:From w0 W:=⟨h.out.grown b.out h.out.size (fun k hk=>by cases hk;exact l.out)⟩
end
set_option maxHeartbeats 8000000 in
set_option maxRecDepth 100000 in
set_option synthInstance.maxHeartbeats 400000 in
set_option synthInstance.maxSize 100000 in
theorem zQ (C:cZ) [dA C] (w:World) (D:Array E) (h:cf C w D) (a b:Int) (ha:Ix a C.n) (hb:Ix b C.n) (x:Nat) (s:Int) (hs:0≤s) (hs2:s≤100) (hx:w.heap[x]? =some (.cells #[.int .i64 s] 3 (0,0))) (hg:x≠C.g) (u:x≠C.bs):
    Calls Tryz.prog 204 #[gU C,.int .i64 a,.int .i64 b,.pointer (some ⟨x,0,none⟩)] w fun e w'=>∃r1 r2 s':Int,e= .returned (.tuple #[.int .i64 r1,.int .i64 r2])∧((r1=a∧r2=b)∨(r1=b∧r2=a))∧0≤s'∧s'≤s+1∧cf C w' D∧w'.heap[x]? =some (.cells #[.int .i64 s'] 3 (0,0))∧w.grownBy w' (some x):=by
  have j0:=So.mk h;have hxl:x<w.heap.size:=dU hx;have jn:dQ w.heap.size x:=⟨by omega⟩;have H:dQ x w.heap.size:=⟨by omega⟩;have G:dQ x C.g:=⟨hg⟩;have z:dQ x C.bs:=⟨u⟩;have I:=aJ.mk hx;have F:Fx x w w:=⟨iZ (RowKit.Below.refl _ _)⟩;have J:=fun o:Obj=>f_ w o;clear h hx hg u hxl;have hu:=Tryz.underlying184;cases l:aG D[b.toNat]! D[a.toNat]! with
  |true=>
   have y1:cj D b a true:=⟨l⟩;clear l;go_enter Tryz.func204,Tryz.ntmps204
   go_wp2_with (first|(go_at_call 153;refine(fe _ _).mono ?_;rintro e w2 ⟨rfl,hb⟩;have z:=au.mk hb;clear hb))
   go_ret2;exact⟨b,a,s+1,rfl,.inr ⟨rfl,rfl⟩,by omega,by omega,So.out,aJ.out,Fx.out⟩
  |false=>
   have y1:cj D b a false:=⟨l⟩;clear l;go_enter Tryz.func204,Tryz.ntmps204
   go_wp2_with (first|(go_at_call 153;refine(fe _ _).mono ?_;rintro e w2 ⟨rfl,hb⟩;have z:=au.mk hb;clear hb))
   go_ret2;exact⟨a,b,s,rfl,.inl ⟨rfl,rfl⟩,by omega,by omega,So.out,aJ.out,Fx.out⟩
theorem yP {r1 r2 a b:Int} {n:Nat} (h:(r1=a∧r2=b)∨(r1=b∧r2=a)) (ha:Ix a n) (hb:Ix b n):Ix r1 n∧Ix r2 n:=by
  rcases h with ⟨rfl,rfl⟩|⟨rfl,rfl⟩
  · exact⟨ha,hb⟩
  · exact⟨hb,ha⟩
set_option maxHeartbeats 8000000 in
set_option maxRecDepth 100000 in
set_option synthInstance.maxHeartbeats 400000 in
set_option synthInstance.maxSize 100000 in
theorem zq (C:cZ) [dA C] (w:World) (D:Array E) (h:cf C w D) (a b c:Int) (ha:Ix a C.n) (hb:Ix b C.n) (hc:Ix c C.n) (x:Nat) (s:Int) (hs:0≤s) (hs2:s≤90) (hx:w.heap[x]? =some (.cells #[.int .i64 s] 3 (0,0))) (hg:x≠C.g) (u:x≠C.bs):
    Calls Tryz.prog 203 #[gU C,.int .i64 a,.int .i64 b,.int .i64 c,.pointer (some ⟨x,0,none⟩)] w fun e w'=>∃r s':Int,e= .returned (.int .i64 r)∧(r=a∨r=b∨r=c)∧cf C w' D∧w'.heap[x]? =some (.cells #[.int .i64 s'] 3 (0,0))∧w.grownBy w' (some x):=by
  have j0:=So.mk h;have hxl:x<w.heap.size:=dU hx;have F:dQ w.heap.size x:=⟨by omega⟩;have G:=aJ.mk hx;have z:Fx x w w:=⟨iZ (RowKit.Below.refl _ _)⟩;have I:=aJ.mk (f_ w (.cells (dv C) 184));have H:aJ (w.alloc (.cells (dv C) 184)) x #[.int .i64 s] 3:=⟨bl hx _⟩;clear h hx hxl;have hu:=Tryz.underlying184;go_enter Tryz.func203,Tryz.ntmps203
  go_wp2_with (first|(go_at_call 204;refine(zQ C _ _ So.out _ _ inferInstance inferInstance x _ (by omega) (by omega) aJ.out hg u).mono ?_;rintro e w2 ⟨r1,r2,s2,rfl,hr,h1,h2,h3,h4,h5⟩;obtain⟨i1,i2⟩:=yP (n:=C.n) hr inferInstance inferInstance;have k1:=So.mk h3;have k2:=aJ.mk h4;have k3:=Gx.mk h5;clear h3 h4 h5))
  go_ret;refine⟨_,_,rfl,?_,So.out,aJ.out,Fx.out⟩;omega
set_option maxHeartbeats 8000000 in
set_option maxRecDepth 100000 in
set_option synthInstance.maxHeartbeats 400000 in
set_option synthInstance.maxSize 100000 in
theorem xO (C:cZ) [dA C] (w:World) (D:Array E) (h:cf C w D) (a b:Nat) (hab:a<b) (hb:b≤C.n):
    Calls Tryz.prog 194 #[gU C,.int .i64 a,.int .i64 b] w fun e w'=>∃p k:Int,e= .returned (.tuple #[.int .i64 p,.int .i64 k])∧a≤p∧p<b∧(k=0∨k=1∨k=2)∧RowKit.Below w.heap.size w w':=by
  have j0:=So.mk h;have u:=h.lt;have hbl:=h.nV;have hsm:=dA.small (C:=C);obtain⟨q,hq⟩:∃q:Int,Int.tdiv ((b:Int)-(a:Int)) 4=q:=⟨_,rfl⟩
  have hq1:0≤q∧4*q≤(b:Int)-a:=by
    rw[←hq,show(b:Int)-(a:Int)=((b-a:Nat):Int)by omega];have:Int.tdiv (((b-a:Nat)):Int) 4=(((b-a)/4:Nat):Int):=rfl;rw[this];omega
  have F:=aJ.mk (f_ w (.cells (dv C) 184));have z:aJ ((w.alloc (.cells (dv C) 184)).alloc (.cells #[.int .i64 0] 3)) (w.heap.size+1) #[.int .i64 0] 3:=⟨by have:=f_ (w.alloc (.cells (dv C) 184)) (.cells #[.int .i64 0] 3);simpa using this⟩;have jn:Nw w (w.heap.size+1):=⟨by omega⟩;have hu:=Tryz.underlying184;have d2:decide (50≤(b:Int)-(a:Int))=false:=ax (by omega);by_cases h8:8≤(b:Int)-(a:Int)
  · have d1:decide (8≤(b:Int)-(a:Int))=true:=ah h8;have x1:Ix ((a:Int)+q) C.n:=⟨by omega,by omega⟩;have x2:Ix ((a:Int)+q*2) C.n:=⟨by omega,by omega⟩;have x3:Ix ((a:Int)+q*3) C.n:=⟨by omega,by omega⟩;go_enter Tryz.func194,Tryz.ntmps194
    go_wp2_with (first|(go_at_call 203;refine(zq C _ _ So.out _ _ _ inferInstance inferInstance inferInstance (w.heap.size+1) _ (by omega) (by omega) aJ.out (by omega) (by omega)).mono ?_;rintro e w2 ⟨r,s2,rfl,hr,h3,h4,h5⟩;have k1:=So.mk h3;have k2:=aJ.mk h4;have k3:=Gx.mk h5;clear h3 h4 h5))
    all_goals go_ret2
    all_goals exact⟨_,_,rfl,by omega,by omega,by omega,From.out⟩
  · have d1:decide (8≤(b:Int)-(a:Int))=false:=ax h8;go_enter Tryz.func194,Tryz.ntmps194;go_wp2
    all_goals go_ret2
    all_goals exact⟨_,_,rfl,by omega,by omega,by omega,From.out⟩
theorem Ac {lt:E→E→Bool} {a b:Nat} {D:Array E} (h:b-a<50):partialInsertionSort lt D a b=(D,decide (scanSorted lt D b (a+1)=b)):=by
  unfold partialInsertionSort;rw[partialIns];by_cases hb:scanSorted lt D b (a+1)=b
  · simp[hb]
  · simp[hb,h]
set_option maxHeartbeats 8000000 in
set_option maxRecDepth 100000 in
set_option synthInstance.maxHeartbeats 400000 in
set_option synthInstance.maxSize 100000 in
theorem Ab (C:cZ) [dA C] (w:World) (D:Array E) (h:cf C w D) (a b:Nat) (hab:a<b) (hb:b≤C.n):
    Calls Tryz.prog 196 #[gU C,.int .i64 a,.int .i64 b] w fun e w'=>∃r:Bool,e= .returned (.bool r)∧partialInsertionSort aG D a b=(D,r)∧RowKit.Below w.heap.size w w':=by
  have j0:=So.mk h;have hsm:=dA.small (C:=C);have z:=ae.mk (Ac (lt:=aG) (D:=D) (show b-a<50 by omega));have F:=f_ w (.cells (dv C) 184);have d50:decide ((b:Int)-(a:Int)<50)=true:=ah (by omega);clear h;have hu:=Tryz.underlying184;go_enter Tryz.func196,Tryz.ntmps196;go_wp2
  go_loopw [7,8] (fun v7 v8 wr=>v7= .int .i64 ((a:Int)+1)∧v8= .int .i64 0∧So C wr D∧From w wr∧aJ wr w.heap.size (dv C) 184) (fun _ _ _=>0)
  case atStart=>exact⟨rfl,rfl,inferInstance,inferInstance,⟨F⟩⟩
  case round=>
    clear j0 F;obtain⟨rfl,rfl,j1,j2,u⟩:=hrel;go_wp2
    go_loopw [7] (fun v7 wr=>∃i:Nat,v7= .int .i64 i∧ae (a<i)∧ae (i≤b)∧So C wr D∧From w wr∧aJ wr w.heap.size (dv C) 184∧ae (scanSorted aG D b i=scanSorted aG D b (a+1))) (fun v _=>b-(intOf v).toNat)
    case atStart=>exact⟨a+1,by go_num,⟨by omega⟩,⟨by omega⟩,j1,j2,u,⟨rfl⟩⟩
    case round=>
      clear j1 j2 u;obtain⟨i,rfl,G,H,j1,j2,u,HO⟩:=hrel;have J:=G.out;have hib:=H.out;by_cases c1:i<b
      · have d1:decide ((i:Int)<(b:Int))=true:=ah (by omega);have d3:((i:Int)==(b:Int))=false:=beq_eq_false_iff_ne.mpr (by omega);have x1:Ix (i:Int) C.n:=⟨by omega,by omega⟩;have x2:Ix ((i:Int)-1) C.n:=⟨by omega,by omega⟩;cases l:aG D[i]! D[i-1]! with
        |true=>
         have y1:cj D (i:Int) ((i:Int)-1) true:=cj.of l rfl (by omega);have hs:=ae.mk (scanSorted_stop (lt:=aG) D b i (.inr l));clear l
         go_wp2_with (first|(go_at_call 153;refine(fe _ _).mono ?_;rintro e w2 ⟨rfl,hb⟩;have I:=au.mk hb;clear hb))
         go_ret;refine⟨false,rfl,?_,From.out⟩;rw[z.out,←HO.out,hs.out,ax (by omega)]
        |false=>
         have y1:cj D (i:Int) ((i:Int)-1) false:=cj.of l rfl (by omega);have hs:=ae.mk (scanSorted_go (lt:=aG) D b i c1 l);clear l
         go_wp2_with (first|(go_at_call 153;refine(fe _ _).mono ?_;rintro e w2 ⟨rfl,hb⟩;have I:=au.mk hb;clear hb))
         exact⟨⟨i+1,by go_num,⟨by omega⟩,⟨by omega⟩,inferInstance,inferInstance,inferInstance,⟨by rw[←HO.out,hs.out]⟩⟩,by simp[intOf];omega⟩
      · have d1:decide ((i:Int)<(b:Int))=false:=ax (by omega);obtain rfl:i=b:=(by omega);have hs:=ae.mk (scanSorted_stop (lt:=aG) D i i (.inl (by omega)));go_wp2;go_ret;refine⟨true,rfl,?_,From.out⟩;rw[z.out,←HO.out,hs.out,ah rfl]
theorem ux (D:Array E) (a b p i j:Nat) (hi:scanUp (fun x=>aG x (swp D a p)[a]!) (swp D a p) (b-1) (a+1)=i) (hj:scanDown (fun x=> !aG x (swp D a p)[a]!) (swp D a p) i (b-1)=j) (h:i>j):
    partition aG D a b p=(j,true,swp (swp D a p) j a):=by
  unfold partition;simp only[hi,hj,ai h]
theorem Ah (D:Array E) (a b p i j:Nat) (hi:scanUp (fun x=>aG x (swp D a p)[a]!) (swp D a p) (b-1) (a+1)=i) (hj:scanDown (fun x=> !aG x (swp D a p)[a]!) (swp D a p) i (b-1)=j) (h:¬i>j):
    partition aG D a b p=((partLoop aG a (i+1) (j-1) (swp (swp D a p) i j)).1,false,swp (partLoop aG a (i+1) (j-1) (swp (swp D a p) i j)).2 (partLoop aG a (i+1) (j-1) (swp (swp D a p) i j)).1 a):=by
  unfold partition;simp only[hi,hj,aj h]
set_option maxHeartbeats 16000000 in
set_option maxRecDepth 100000 in
set_option synthInstance.maxHeartbeats 400000 in
set_option synthInstance.maxSize 100000 in
theorem Ag (C:cZ) [dA C] (w:World) (D:Array E) (h:cf C w D) (a b p:Nat) (hap:a≤p) (hpb:p<b) (hb:b≤C.n):
    Calls Tryz.prog 198 #[gU C,.int .i64 a,.int .i64 b,.int .i64 p] w fun e w'=>e= .returned (.tuple #[.int .i64 (partition aG D a b p).1,.bool (partition aG D a b p).2.1])∧cf C w' (partition aG D a b p).2.2∧w.grownBy w' (some C.g):=by
  have j0:=So.mk h;have hsm:=dA.small (C:=C);have aO:dQ w.heap.size C.g:=⟨Nat.ne_of_gt h.lt⟩;have aN:=aJ.mk (f_ w (.cells (dv C) 184));have aP:Ix (a:Int) C.n:=⟨by omega,by omega⟩;have aQ:Ix (p:Int) C.n:=⟨by omega,by omega⟩;obtain⟨R,G⟩:∃R,partition aG D a b p=R:=⟨_,rfl⟩;rw[G];have G:=ae.mk G.symm;clear h;have hu:=Tryz.underlying184;go_enter Tryz.func198,Tryz.ntmps198;go_wp2;have aL:So C (jQ C D (w.alloc (.cells (dv C) 184)) (a:Int) (p:Int)) (swp D a p):=⟨er (D':=swp D a p) inferInstance rfl⟩;have aK:Fr C w (jQ C D (w.alloc (.cells (dv C) 184)) (a:Int) (p:Int)):=inferInstance;have aM:aJ (jQ C D (w.alloc (.cells (dv C) 184)) (a:Int) (p:Int)) w.heap.size (dv C) 184:=inferInstance;clear j0 aN
  go_loopw [10] (fun v wr=>∃i1:Nat,v= .int .i64 i1∧ae (a<i1)∧ae (i1≤b-1+1)∧So C wr (swp D a p)∧Fr C w wr∧aJ wr w.heap.size (dv C) 184∧ae (scanUp (fun x=>aG x (swp D a p)[a]!) (swp D a p) (b-1) i1=scanUp (fun x=>aG x (swp D a p)[a]!) (swp D a p) (b-1) (a+1))) (fun v _=>b-1+1-(intOf v).toNat)
  case atStart=>exact⟨a+1,by first|rfl|go_num,⟨by omega⟩,⟨by omega⟩,inferInstance,inferInstance,inferInstance,⟨rfl⟩⟩
  case round=>
    clear aL aM aK;obtain⟨i1,rfl,ap,ar,m1,m2,m3,z⟩:=hrel;have ha1:=ap.out;have hb1:=ar.out;have x2:Ix (a:Int) C.n:=⟨by omega,by omega⟩;by_cases c1:i1≤b-1∧aG (swp D a p)[i1]! (swp D a p)[a]! =true
    · obtain⟨c1,l⟩:=c1;have d1:decide ((i1:Int)≤(b:Int)-1)=true:=ah (by omega);have x1:Ix (i1:Int) C.n:=⟨by omega,by omega⟩;have y1:cj (swp D a p) (i1:Int) (a:Int) true:=cj.of l rfl rfl;have hs:=ae.mk (scanUp_go (fun x=>aG x (swp D a p)[a]!) (swp D a p) (b-1) i1 c1 l);clear l
      go_wp2_with (first|(go_at_call 153;refine(fe _ _).mono ?_;rintro e w2 ⟨rfl,hb⟩;have J:=au.mk hb;clear hb))
      first
        |exact⟨⟨i1+1,by first|rfl|go_num,⟨by omega⟩,⟨by omega⟩,inferInstance,inferInstance,inferInstance,⟨by rw[←z.out,hs.out]⟩⟩,by simp[intOf];omega⟩
        |(go_roundw;(case rel=>((repeat apply Exists.intro);exact⟨⟨i1+1,by first|rfl|go_num,⟨by omega⟩,⟨by omega⟩,inferInstance,inferInstance,inferInstance,⟨by rw[←z.out,hs.out]⟩⟩,(by first|rfl|(simp only[Int.natCast_add,Int.natCast_one];rfl)|(simp only[Int.natCast_add,Int.natCast_one,I];rfl))⟩));(case measure=>first|(simp[intOf];omega)|(simp[intOf];done)))
    · have X:ae (scanUp (fun x=>aG x (swp D a p)[a]!) (swp D a p) (b-1) (a+1)=i1):=⟨by
        rw[←z.out];refine scanUp_end (fun x=>aG x (swp D a p)[a]!) (swp D a p) (b-1) i1 ?_;by_cases c:i1≤b-1
        · refine .inr ?_
          have:aG (swp D a p)[i1]! (swp D a p)[a]! =false:=by
            cases h:aG (swp D a p)[i1]! (swp D a p)[a]! with
            |true=>exact absurd ⟨c,h⟩ c1
            |false=>rfl
          simp[this]
        · exact .inl c⟩
      have step:(i1≤b-1∧aG (swp D a p)[i1]! (swp D a p)[a]! =false)∨¬i1≤b-1:=by
        by_cases c:i1≤b-1
        · refine .inl ⟨c,?_⟩;cases h:aG (swp D a p)[i1]! (swp D a p)[a]! with
          |true=>exact absurd ⟨c,h⟩ c1
          |false=>rfl
        · exact .inr c
      clear c1 z;rcases step with ⟨c1,l⟩|c1
      · have d1:decide ((i1:Int)≤(b:Int)-1)=true:=ah (by omega);have x1:Ix (i1:Int) C.n:=⟨by omega,by omega⟩;have y1:cj (swp D a p) (i1:Int) (a:Int) false:=cj.of l rfl rfl;have ag:=ae.mk l;clear l
        go_wp2_with (first|(go_at_call 153;refine(fe _ _).mono ?_;rintro e w2 ⟨rfl,hb⟩;have J:=au.mk hb;clear hb))
        clear d1
        go_loopw [11] (fun v wr=>∃j1:Nat,v= .int .i64 j1∧ae (i1≤j1+1)∧ae (j1≤b-1)∧So C wr (swp D a p)∧Fr C w wr∧aJ wr w.heap.size (dv C) 184∧ae (scanDown (fun x=> !aG x (swp D a p)[a]!) (swp D a p) i1 j1=scanDown (fun x=> !aG x (swp D a p)[a]!) (swp D a p) i1 (b-1))) (fun v _=>(intOf v).toNat)
        case atStart=>exact⟨b-1,by first|rfl|(congr 1;omega),⟨by omega⟩,⟨by omega⟩,inferInstance,inferInstance,inferInstance,⟨rfl⟩⟩
        case round=>
          clear m1 m2 m3;obtain⟨j1,rfl,ak,am,n1,n2,n3,z⟩:=hrel;have hc1:=ak.out;have aE:=am.out;by_cases c2:i1≤j1∧aG (swp D a p)[j1]! (swp D a p)[a]! =false
          · obtain⟨c2,l⟩:=c2;have d2:decide ((i1:Int)≤(j1:Int))=true:=ah (by omega);have H:decide (i1≤j1)=true:=ah (by omega);have x3:Ix (j1:Int) C.n:=⟨by omega,by omega⟩;have af:cj (swp D a p) (j1:Int) (a:Int) false:=cj.of l rfl rfl;have hs:=ae.mk (scanDown_go (fun x=> !aG x (swp D a p)[a]!) (swp D a p) i1 j1 c2 (by omega) (by simp[l]));clear l
            go_wp2_with (first|(go_at_call 153;refine(fe _ _).mono ?_;rintro e w2 ⟨rfl,hb⟩;have J:=au.mk hb;clear hb))
            have I:((j1-1:Nat):Int)=(j1:Int)-1:=by omega
            first
              |exact⟨⟨j1-1,by first|rfl|(congr 1;omega),⟨by omega⟩,⟨by omega⟩,inferInstance,inferInstance,inferInstance,⟨by rw[←z.out,hs.out]⟩⟩,by simp[intOf];omega⟩
              |(go_roundw;(case rel=>((repeat apply Exists.intro);exact⟨⟨j1-1,by first|rfl|(congr 1;omega),⟨by omega⟩,⟨by omega⟩,inferInstance,inferInstance,inferInstance,⟨by rw[←z.out,hs.out]⟩⟩,(by first|rfl|(simp only[Int.natCast_add,Int.natCast_one];rfl)|(simp only[Int.natCast_add,Int.natCast_one,I];rfl))⟩));(case measure=>first|(simp[intOf];omega)|(simp[intOf];done)))
          · have ad:ae (scanDown (fun x=> !aG x (swp D a p)[a]!) (swp D a p) i1 (b-1)=j1):=⟨by
              rw[←z.out];refine scanDown_end (fun x=> !aG x (swp D a p)[a]!) (swp D a p) i1 j1 ?_;by_cases c:i1≤j1
              · refine .inr ?_
                have:aG (swp D a p)[j1]! (swp D a p)[a]! =true:=by
                  cases h:aG (swp D a p)[j1]! (swp D a p)[a]! with
                  |false=>exact absurd ⟨c,h⟩ c2
                  |true=>rfl
                simp[this]
              · exact .inl c⟩
            have step:(i1≤j1∧aG (swp D a p)[j1]! (swp D a p)[a]! =true)∨¬i1≤j1:=by
              by_cases c:i1≤j1
              · refine .inl ⟨c,?_⟩;cases h:aG (swp D a p)[j1]! (swp D a p)[a]! with
                |false=>exact absurd ⟨c,h⟩ c2
                |true=>rfl
              · exact .inr c
            clear c2 z;rcases step with ⟨c2,l⟩|c2
            · have d2:decide ((i1:Int)≤(j1:Int))=true:=ah (by omega);have H:decide (i1≤j1)=true:=ah (by omega);have d3:decide ((j1:Int)<(i1:Int))=false:=ax (by omega);have K:decide (j1<i1)=false:=ax (by omega);have x3:Ix (j1:Int) C.n:=⟨by omega,by omega⟩;have x1:Ix (i1:Int) C.n:=⟨by omega,by omega⟩;have af:cj (swp D a p) (j1:Int) (a:Int) true:=cj.of l rfl rfl
              have hge:a+1≤i1:=by
                have:=scanUp_ge (fun x=>aG x (swp D a p)[a]!) (swp D a p) (b-1) (a+1);rw[X.out]at this;exact this
              have hne:i1≠j1:=by
                rintro rfl;have:=ag.out;rw[l]at this;cases this
              clear l
              go_wp2_with (first|(go_at_call 153;refine(fe _ _).mono ?_;rintro e w2 ⟨rfl,hb⟩;have J:=au.mk hb;clear hb))
              have V:=ae.mk (Ah D a b p i1 j1 X.out ad.out (by omega))
              go_loopw [10,11] (fun v u wr=>∃(i j:Nat) (dk:Array E),v= .int .i64 i∧u= .int .i64 j∧ae (a<i)∧ae (i≤j+1)∧ae (j<b)∧So C wr dk∧Fr C w wr∧aJ wr w.heap.size (dv C) 184∧ae (partLoop aG a i j dk=partLoop aG a (i1+1) (j1-1) (swp (swp D a p) i1 j1))) (fun v u _=>(intOf u).toNat+1-(intOf v).toNat)
              case atStart=>exact⟨i1+1,j1-1,swp (swp D a p) i1 j1,by go_num,by congr 1;omega,⟨by omega⟩,⟨by omega⟩,⟨by omega⟩,⟨er (D':=swp (swp D a p) i1 j1) inferInstance rfl⟩,inferInstance,inferInstance,⟨rfl⟩⟩
              case round=>
                clear n1 n2 n3 d2 d3 H K af x1 x3;obtain⟨i,j,dk,rfl,rfl,aB,aC,aD,aF,aH,aI,HO⟩:=hrel;have hp:=aB.out;have hq:=aC.out;have hr:=aD.out;go_wp2
                go_loopw [10] (fun v wr=>∃i2:Nat,v= .int .i64 i2∧ae (a<i2)∧ae (i2≤j+1)∧So C wr dk∧Fr C w wr∧aJ wr w.heap.size (dv C) 184∧ae (scanUp (fun x=>aG x dk[a]!) dk (j) i2=scanUp (fun x=>aG x dk[a]!) dk (j) (i))) (fun v _=>j+1-(intOf v).toNat)
                case atStart=>exact⟨i,by first|rfl|go_num,⟨by omega⟩,⟨by omega⟩,inferInstance,inferInstance,inferInstance,⟨rfl⟩⟩
                case round=>
                  clear aF aH aI;obtain⟨i2,rfl,aq,av,m1,m2,m3,F⟩:=hrel;have ha2:=aq.out;have hb2:=av.out;have x2:Ix (a:Int) C.n:=⟨by omega,by omega⟩;by_cases c1:i2≤j∧aG dk[i2]! dk[a]! =true
                  · obtain⟨c1,l⟩:=c1;have d1:decide ((i2:Int)≤(j:Int))=true:=ah (by omega);have x1:Ix (i2:Int) C.n:=⟨by omega,by omega⟩;have y1:cj dk (i2:Int) (a:Int) true:=cj.of l rfl rfl;have hs:=ae.mk (scanUp_go (fun x=>aG x dk[a]!) dk (j) i2 c1 l);clear l
                    go_wp2_with (first|(go_at_call 153;refine(fe _ _).mono ?_;rintro e w2 ⟨rfl,hb⟩;have J:=au.mk hb;clear hb))
                    first
                      |exact⟨⟨i2+1,by first|rfl|go_num,⟨by omega⟩,⟨by omega⟩,inferInstance,inferInstance,inferInstance,⟨by rw[←F.out,hs.out]⟩⟩,by simp[intOf];omega⟩
                      |(go_roundw;(case rel=>((repeat apply Exists.intro);exact⟨⟨i2+1,by first|rfl|go_num,⟨by omega⟩,⟨by omega⟩,inferInstance,inferInstance,inferInstance,⟨by rw[←F.out,hs.out]⟩⟩,(by first|rfl|(simp only[Int.natCast_add,Int.natCast_one];rfl)|(simp only[Int.natCast_add,Int.natCast_one,I];rfl))⟩));(case measure=>first|(simp[intOf];omega)|(simp[intOf];done)))
                  · have O:ae (scanUp (fun x=>aG x dk[a]!) dk (j) (i)=i2):=⟨by
                      rw[←F.out];refine scanUp_end (fun x=>aG x dk[a]!) dk (j) i2 ?_;by_cases c:i2≤j
                      · refine .inr ?_
                        have:aG dk[i2]! dk[a]! =false:=by
                          cases h:aG dk[i2]! dk[a]! with
                          |true=>exact absurd ⟨c,h⟩ c1
                          |false=>rfl
                        simp[this]
                      · exact .inl c⟩
                    have step:(i2≤j∧aG dk[i2]! dk[a]! =false)∨¬i2≤j:=by
                      by_cases c:i2≤j
                      · refine .inl ⟨c,?_⟩;cases h:aG dk[i2]! dk[a]! with
                        |true=>exact absurd ⟨c,h⟩ c1
                        |false=>rfl
                      · exact .inr c
                    clear c1 F;rcases step with ⟨c1,l⟩|c1
                    · have d1:decide ((i2:Int)≤(j:Int))=true:=ah (by omega);have x1:Ix (i2:Int) C.n:=⟨by omega,by omega⟩;have y1:cj dk (i2:Int) (a:Int) false:=cj.of l rfl rfl;have ag:=ae.mk l;clear l
                      go_wp2_with (first|(go_at_call 153;refine(fe _ _).mono ?_;rintro e w2 ⟨rfl,hb⟩;have J:=au.mk hb;clear hb))
                      clear d1
                      go_loopw [11] (fun v wr=>∃j2:Nat,v= .int .i64 j2∧ae (i2≤j2+1)∧ae (j2≤j)∧So C wr dk∧Fr C w wr∧aJ wr w.heap.size (dv C) 184∧ae (scanDown (fun x=> !aG x dk[a]!) dk i2 j2=scanDown (fun x=> !aG x dk[a]!) dk i2 (j))) (fun v _=>(intOf v).toNat)
                      case atStart=>exact⟨j,by first|rfl|(congr 1;omega),⟨by omega⟩,⟨by omega⟩,inferInstance,inferInstance,inferInstance,⟨rfl⟩⟩
                      case round=>
                        clear m1 m2 m3;obtain⟨j2,rfl,al,ao,n1,n2,n3,F⟩:=hrel;have hc2:=al.out;have hd2:=ao.out;by_cases c2:i2≤j2∧aG dk[j2]! dk[a]! =false
                        · obtain⟨c2,l⟩:=c2;have d2:decide ((i2:Int)≤(j2:Int))=true:=ah (by omega);have H:decide (i2≤j2)=true:=ah (by omega);have x3:Ix (j2:Int) C.n:=⟨by omega,by omega⟩;have af:cj dk (j2:Int) (a:Int) false:=cj.of l rfl rfl;have hs:=ae.mk (scanDown_go (fun x=> !aG x dk[a]!) dk i2 j2 c2 (by omega) (by simp[l]));clear l
                          go_wp2_with (first|(go_at_call 153;refine(fe _ _).mono ?_;rintro e w2 ⟨rfl,hb⟩;have J:=au.mk hb;clear hb))
                          have I:((j2-1:Nat):Int)=(j2:Int)-1:=by omega
                          first
                            |exact⟨⟨j2-1,by first|rfl|(congr 1;omega),⟨by omega⟩,⟨by omega⟩,inferInstance,inferInstance,inferInstance,⟨by rw[←F.out,hs.out]⟩⟩,by simp[intOf];omega⟩
                            |(go_roundw;(case rel=>((repeat apply Exists.intro);exact⟨⟨j2-1,by first|rfl|(congr 1;omega),⟨by omega⟩,⟨by omega⟩,inferInstance,inferInstance,inferInstance,⟨by rw[←F.out,hs.out]⟩⟩,(by first|rfl|(simp only[Int.natCast_add,Int.natCast_one];rfl)|(simp only[Int.natCast_add,Int.natCast_one,I];rfl))⟩));(case measure=>first|(simp[intOf];omega)|(simp[intOf];done)))
                        · have U:ae (scanDown (fun x=> !aG x dk[a]!) dk i2 (j)=j2):=⟨by
                            rw[←F.out];refine scanDown_end (fun x=> !aG x dk[a]!) dk i2 j2 ?_;by_cases c:i2≤j2
                            · refine .inr ?_
                              have:aG dk[j2]! dk[a]! =true:=by
                                cases h:aG dk[j2]! dk[a]! with
                                |false=>exact absurd ⟨c,h⟩ c2
                                |true=>rfl
                              simp[this]
                            · exact .inl c⟩
                          have step:(i2≤j2∧aG dk[j2]! dk[a]! =true)∨¬i2≤j2:=by
                            by_cases c:i2≤j2
                            · refine .inl ⟨c,?_⟩;cases h:aG dk[j2]! dk[a]! with
                              |false=>exact absurd ⟨c,h⟩ c2
                              |true=>rfl
                            · exact .inr c
                          clear c2 F;rcases step with ⟨c2,l⟩|c2
                          · have d2:decide ((i2:Int)≤(j2:Int))=true:=ah (by omega);have H:decide (i2≤j2)=true:=ah (by omega);have d3:decide ((j2:Int)<(i2:Int))=false:=ax (by omega);have K:decide (j2<i2)=false:=ax (by omega);have x3:Ix (j2:Int) C.n:=⟨by omega,by omega⟩;have x1:Ix (i2:Int) C.n:=⟨by omega,by omega⟩;have af:cj dk (j2:Int) (a:Int) true:=cj.of l rfl rfl
                            have hge:i≤i2:=by
                              have:=scanUp_ge (fun x=>aG x dk[a]!) dk (j) (i);rw[O.out]at this;exact this
                            have hne:i2≠j2:=by
                              rintro rfl;have:=ag.out;rw[l]at this;cases this
                            clear l
                            go_wp2_with (first|(go_at_call 153;refine(fe _ _).mono ?_;rintro e w2 ⟨rfl,hb⟩;have J:=au.mk hb;clear hb))
                            have I:((j2-1:Nat):Int)=(j2:Int)-1:=by omega
                            first
                              |exact⟨⟨i2+1,j2-1,swp dk i2 j2,by first|rfl|go_num,by first|rfl|(congr 1;omega),⟨by omega⟩,⟨by omega⟩,⟨by omega⟩,⟨er (D':=swp dk i2 j2) inferInstance rfl⟩,inferInstance,inferInstance,⟨by
                              rw[←HO.out,partLoop_eq aG a i j dk,O.out,U.out,aj (by omega)]⟩⟩,by simp[intOf];omega⟩
                              |(go_roundw;(case rel=>((repeat apply Exists.intro);exact⟨⟨i2+1,j2-1,swp dk i2 j2,by first|rfl|go_num,by first|rfl|(congr 1;omega),⟨by omega⟩,⟨by omega⟩,⟨by omega⟩,⟨er (D':=swp dk i2 j2) inferInstance rfl⟩,inferInstance,inferInstance,⟨by
                              rw[←HO.out,partLoop_eq aG a i j dk,O.out,U.out,aj (by omega)]⟩⟩,(by first|rfl|(simp only[Int.natCast_add,Int.natCast_one];rfl)|(simp only[Int.natCast_add,Int.natCast_one,I];rfl))⟩));(case measure=>first|(simp[intOf];omega)|(simp[intOf];done)))
                          · have d2:decide ((i2:Int)≤(j2:Int))=false:=ax (by omega);have H:decide (i2≤j2)=false:=ax (by omega);have d3:decide ((j2:Int)<(i2:Int))=true:=ah (by omega);have K:decide (j2<i2)=true:=ah (by omega);have x3:Ix (j2:Int) C.n:=⟨by omega,by omega⟩;go_wp2;go_ret2;have hz:=HO.out;rw[partLoop_eq aG a i j dk,O.out,U.out,ai (by omega)]at hz;refine⟨by rw[G.out,V.out,←hz];rfl,er (D':=R.2.2) (D:=swp dk j2 a) ⟨er (D':=swp dk j2 a) inferInstance rfl⟩ (by rw[G.out,V.out,←hz]),Fr.out⟩
                    · have d1:decide ((i2:Int)≤(j:Int))=false:=ax (by omega);go_wp2
                      go_loopw [11] (fun v wr=>∃j2:Nat,v= .int .i64 j2∧ae (i2≤j2+1)∧ae (j2≤j)∧So C wr dk∧Fr C w wr∧aJ wr w.heap.size (dv C) 184∧ae (scanDown (fun x=> !aG x dk[a]!) dk i2 j2=scanDown (fun x=> !aG x dk[a]!) dk i2 (j))) (fun v _=>(intOf v).toNat)
                      case atStart=>exact⟨j,by first|rfl|(congr 1;omega),⟨by omega⟩,⟨by omega⟩,inferInstance,inferInstance,inferInstance,⟨rfl⟩⟩
                      case round=>
                        clear m1 m2 m3;obtain⟨j2,rfl,al,ao,n1,n2,n3,F⟩:=hrel;have hc2:=al.out;have hd2:=ao.out;have c2:¬i2≤j2:=by omega
                        have U:ae (scanDown (fun x=> !aG x dk[a]!) dk i2 (j)=j2):=⟨by
                          rw[←F.out];exact scanDown_end (fun x=> !aG x dk[a]!) dk i2 j2 (.inl c2)⟩
                        clear F;have d2:decide ((i2:Int)≤(j2:Int))=false:=ax (by omega);have H:decide (i2≤j2)=false:=ax (by omega);have d3:decide ((j2:Int)<(i2:Int))=true:=ah (by omega);have K:decide (j2<i2)=true:=ah (by omega);have x3:Ix (j2:Int) C.n:=⟨by omega,by omega⟩;go_wp2;go_ret2;have hz:=HO.out;rw[partLoop_eq aG a i j dk,O.out,U.out,ai (by omega)]at hz;refine⟨by rw[G.out,V.out,←hz];rfl,er (D':=R.2.2) (D:=swp dk j2 a) ⟨er (D':=swp dk j2 a) inferInstance rfl⟩ (by rw[G.out,V.out,←hz]),Fr.out⟩
            · have d2:decide ((i1:Int)≤(j1:Int))=false:=ax (by omega);have H:decide (i1≤j1)=false:=ax (by omega);have d3:decide ((j1:Int)<(i1:Int))=true:=ah (by omega);have K:decide (j1<i1)=true:=ah (by omega);have x3:Ix (j1:Int) C.n:=⟨by omega,by omega⟩;go_wp2;go_ret2;have hz:=ux D a b p i1 j1 X.out ad.out (by omega);refine⟨by rw[G.out,hz];rfl,er (D':=R.2.2) (D:=swp (swp D a p) j1 a) ⟨er (D':=swp (swp D a p) j1 a) inferInstance rfl⟩ (by rw[G.out,hz]),Fr.out⟩
      · have d1:decide ((i1:Int)≤(b:Int)-1)=false:=ax (by omega);go_wp2
        go_loopw [11] (fun v wr=>∃j1:Nat,v= .int .i64 j1∧ae (i1≤j1+1)∧ae (j1≤b-1)∧So C wr (swp D a p)∧Fr C w wr∧aJ wr w.heap.size (dv C) 184∧ae (scanDown (fun x=> !aG x (swp D a p)[a]!) (swp D a p) i1 j1=scanDown (fun x=> !aG x (swp D a p)[a]!) (swp D a p) i1 (b-1))) (fun v _=>(intOf v).toNat)
        case atStart=>exact⟨b-1,by first|rfl|(congr 1;omega),⟨by omega⟩,⟨by omega⟩,inferInstance,inferInstance,inferInstance,⟨rfl⟩⟩
        case round=>
          clear m1 m2 m3;obtain⟨j1,rfl,ak,am,n1,n2,n3,z⟩:=hrel;have hc1:=ak.out;have aE:=am.out;have c2:¬i1≤j1:=by omega
          have ad:ae (scanDown (fun x=> !aG x (swp D a p)[a]!) (swp D a p) i1 (b-1)=j1):=⟨by
            rw[←z.out];exact scanDown_end (fun x=> !aG x (swp D a p)[a]!) (swp D a p) i1 j1 (.inl c2)⟩
          clear z;have d2:decide ((i1:Int)≤(j1:Int))=false:=ax (by omega);have H:decide (i1≤j1)=false:=ax (by omega);have d3:decide ((j1:Int)<(i1:Int))=true:=ah (by omega);have K:decide (j1<i1)=true:=ah (by omega);have x3:Ix (j1:Int) C.n:=⟨by omega,by omega⟩;go_wp2;go_ret2;have hz:=ux D a b p i1 j1 X.out ad.out (by omega);refine⟨by rw[G.out,hz];rfl,er (D':=R.2.2) (D:=swp (swp D a p) j1 a) ⟨er (D':=swp (swp D a p) j1 a) inferInstance rfl⟩ (by rw[G.out,hz]),Fr.out⟩
set_option maxHeartbeats 16000000 in
set_option maxRecDepth 100000 in
set_option synthInstance.maxHeartbeats 400000 in
set_option synthInstance.maxSize 100000 in
theorem Ae (C:cZ) [dA C] (w:World) (D:Array E) (h:cf C w D) (a b p:Nat) (hap:a≤p) (hpb:p<b) (hb:b≤C.n):
    Calls Tryz.prog 197 #[gU C,.int .i64 a,.int .i64 b,.int .i64 p] w fun e w'=>e= .returned (.int .i64 (partitionEqual aG D a b p).1)∧cf C w' (partitionEqual aG D a b p).2∧w.grownBy w' (some C.g):=by
  have j0:=So.mk h;have hsm:=dA.small (C:=C);have aq:dQ w.heap.size C.g:=⟨Nat.ne_of_gt h.lt⟩;have ao:=aJ.mk (f_ w (.cells (dv C) 184));have ar:Ix (a:Int) C.n:=⟨by omega,by omega⟩;have av:Ix (p:Int) C.n:=⟨by omega,by omega⟩;have hR:partitionEqual aG D a b p=partEqLoop aG a (a+1) (b-1) (swp D a p):=rfl;obtain⟨R,V⟩:∃R,partitionEqual aG D a b p=R:=⟨_,rfl⟩;rw[V]at hR ⊢;have hR:=ae.mk hR;clear h V;have hu:=Tryz.underlying184;go_enter Tryz.func197,Tryz.ntmps197;go_wp2
  go_loopw [9,10] (fun v u wr=>∃(i j:Nat) (dk:Array E),v= .int .i64 i∧u= .int .i64 j∧ae (a<i)∧ae (i≤j+1)∧ae (j<b)∧So C wr dk∧Fr C w wr∧aJ wr w.heap.size (dv C) 184∧ae (partEqLoop aG a i j dk=R)) (fun v u _=>(intOf u).toNat+1-(intOf v).toNat)
  case atStart=>exact⟨a+1,b-1,swp D a p,by go_num,by congr 1;omega,⟨by omega⟩,⟨by omega⟩,⟨by omega⟩,⟨er (D':=swp D a p) inferInstance rfl⟩,inferInstance,inferInstance,⟨hR.out.symm⟩⟩
  case round=>
    clear j0 ao;obtain⟨i,j,dk,rfl,rfl,ag,ak,al,j1,j2,am,HO⟩:=hrel;have hp:=ag.out;have hq:=ak.out;have hr:=al.out;go_wp2
    go_loopw [9] (fun v wr=>∃i2:Nat,v= .int .i64 i2∧ae (a<i2)∧ae (i2≤j+1)∧So C wr dk∧Fr C w wr∧aJ wr w.heap.size (dv C) 184∧ae (scanUp (fun x=> !aG dk[a]! x) dk (j) i2=scanUp (fun x=> !aG dk[a]! x) dk (j) (i))) (fun v _=>j+1-(intOf v).toNat)
    case atStart=>exact⟨i,by first|rfl|go_num,⟨by omega⟩,⟨by omega⟩,inferInstance,inferInstance,inferInstance,⟨rfl⟩⟩
    case round=>
      clear j1 j2 am;obtain⟨i2,rfl,ad,af,m1,m2,m3,z⟩:=hrel;have ha2:=ad.out;have hb2:=af.out;have x2:Ix (a:Int) C.n:=⟨by omega,by omega⟩;by_cases c1:i2≤j∧aG dk[a]! dk[i2]! =false
      · obtain⟨c1,l⟩:=c1;have d1:decide ((i2:Int)≤(j:Int))=true:=ah (by omega);have x1:Ix (i2:Int) C.n:=⟨by omega,by omega⟩;have y1:cj dk (a:Int) (i2:Int) false:=cj.of l rfl rfl;have hs:=ae.mk (scanUp_go (fun x=> !aG dk[a]! x) dk (j) i2 c1 (by simp[l]));clear l
        go_wp2_with (first|(go_at_call 153;refine(fe _ _).mono ?_;rintro e w2 ⟨rfl,hb⟩;have O:=au.mk hb;clear hb))
        first
          |exact⟨⟨i2+1,by first|rfl|go_num,⟨by omega⟩,⟨by omega⟩,inferInstance,inferInstance,inferInstance,⟨by rw[←z.out,hs.out]⟩⟩,by simp[intOf];omega⟩
          |(go_roundw;(case rel=>((repeat apply Exists.intro);exact⟨⟨i2+1,by first|rfl|go_num,⟨by omega⟩,⟨by omega⟩,inferInstance,inferInstance,inferInstance,⟨by rw[←z.out,hs.out]⟩⟩,(by first|rfl|(simp only[Int.natCast_add,Int.natCast_one];rfl)|(simp only[Int.natCast_add,Int.natCast_one,H];rfl))⟩));(case measure=>first|(simp[intOf];omega)|(simp[intOf];done)))
      · have F:ae (scanUp (fun x=> !aG dk[a]! x) dk (j) (i)=i2):=⟨by
          rw[←z.out];refine scanUp_end (fun x=> !aG dk[a]! x) dk (j) i2 ?_;by_cases c:i2≤j
          · refine .inr ?_
            have:aG dk[a]! dk[i2]! =true:=by
              cases h:aG dk[a]! dk[i2]! with
              |false=>exact absurd ⟨c,h⟩ c1
              |true=>rfl
            simp[this]
          · exact .inl c⟩
        have step:(i2≤j∧aG dk[a]! dk[i2]! =true)∨¬i2≤j:=by
          by_cases c:i2≤j
          · refine .inl ⟨c,?_⟩;cases h:aG dk[a]! dk[i2]! with
            |false=>exact absurd ⟨c,h⟩ c1
            |true=>rfl
          · exact .inr c
        clear c1 z;rcases step with ⟨c1,l⟩|c1
        · have d1:decide ((i2:Int)≤(j:Int))=true:=ah (by omega);have x1:Ix (i2:Int) C.n:=⟨by omega,by omega⟩;have y1:cj dk (a:Int) (i2:Int) true:=cj.of l rfl rfl;have X:=ae.mk l;clear l
          go_wp2_with (first|(go_at_call 153;refine(fe _ _).mono ?_;rintro e w2 ⟨rfl,hb⟩;have O:=au.mk hb;clear hb))
          clear d1
          go_loopw [10] (fun v wr=>∃j2:Nat,v= .int .i64 j2∧ae (i2≤j2+1)∧ae (j2≤j)∧So C wr dk∧Fr C w wr∧aJ wr w.heap.size (dv C) 184∧ae (scanDown (fun x=>aG dk[a]! x) dk i2 j2=scanDown (fun x=>aG dk[a]! x) dk i2 (j))) (fun v _=>(intOf v).toNat)
          case atStart=>exact⟨j,by first|rfl|(congr 1;omega),⟨by omega⟩,⟨by omega⟩,inferInstance,inferInstance,inferInstance,⟨rfl⟩⟩
          case round=>
            clear m1 m2 m3;obtain⟨j2,rfl,I,J,n1,n2,n3,z⟩:=hrel;have hc2:=I.out;have hd2:=J.out;by_cases c2:i2≤j2∧aG dk[a]! dk[j2]! =true
            · obtain⟨c2,l⟩:=c2;have d2:decide ((i2:Int)≤(j2:Int))=true:=ah (by omega);have K:decide (i2≤j2)=true:=ah (by omega);have x3:Ix (j2:Int) C.n:=⟨by omega,by omega⟩;have ap:cj dk (a:Int) (j2:Int) true:=cj.of l rfl rfl;have hs:=ae.mk (scanDown_go (fun x=>aG dk[a]! x) dk i2 j2 c2 (by omega) l);clear l
              go_wp2_with (first|(go_at_call 153;refine(fe _ _).mono ?_;rintro e w2 ⟨rfl,hb⟩;have O:=au.mk hb;clear hb))
              have H:((j2-1:Nat):Int)=(j2:Int)-1:=by omega
              first
                |exact⟨⟨j2-1,by first|rfl|(congr 1;omega),⟨by omega⟩,⟨by omega⟩,inferInstance,inferInstance,inferInstance,⟨by rw[←z.out,hs.out]⟩⟩,by simp[intOf];omega⟩
                |(go_roundw;(case rel=>((repeat apply Exists.intro);exact⟨⟨j2-1,by first|rfl|(congr 1;omega),⟨by omega⟩,⟨by omega⟩,inferInstance,inferInstance,inferInstance,⟨by rw[←z.out,hs.out]⟩⟩,(by first|rfl|(simp only[Int.natCast_add,Int.natCast_one];rfl)|(simp only[Int.natCast_add,Int.natCast_one,H];rfl))⟩));(case measure=>first|(simp[intOf];omega)|(simp[intOf];done)))
            · have G:ae (scanDown (fun x=>aG dk[a]! x) dk i2 (j)=j2):=⟨by
                rw[←z.out];refine scanDown_end (fun x=>aG dk[a]! x) dk i2 j2 ?_;by_cases c:i2≤j2
                · refine .inr ?_
                  have:aG dk[a]! dk[j2]! =false:=by
                    cases h:aG dk[a]! dk[j2]! with
                    |true=>exact absurd ⟨c,h⟩ c2
                    |false=>rfl
                  simp[this]
                · exact .inl c⟩
              have step:(i2≤j2∧aG dk[a]! dk[j2]! =false)∨¬i2≤j2:=by
                by_cases c:i2≤j2
                · refine .inl ⟨c,?_⟩;cases h:aG dk[a]! dk[j2]! with
                  |true=>exact absurd ⟨c,h⟩ c2
                  |false=>rfl
                · exact .inr c
              clear c2 z;rcases step with ⟨c2,l⟩|c2
              · have d2:decide ((i2:Int)≤(j2:Int))=true:=ah (by omega);have K:decide (i2≤j2)=true:=ah (by omega);have d3:decide ((j2:Int)<(i2:Int))=false:=ax (by omega);have U:decide (j2<i2)=false:=ax (by omega);have x3:Ix (j2:Int) C.n:=⟨by omega,by omega⟩;have x1:Ix (i2:Int) C.n:=⟨by omega,by omega⟩;have ap:cj dk (a:Int) (j2:Int) false:=cj.of l rfl rfl
                have hge:i≤i2:=by
                  have:=scanUp_ge (fun x=> !aG dk[a]! x) dk (j) (i);rw[F.out]at this;exact this
                have hne:i2≠j2:=by
                  rintro rfl;have:=X.out;rw[l]at this;cases this
                clear l
                go_wp2_with (first|(go_at_call 153;refine(fe _ _).mono ?_;rintro e w2 ⟨rfl,hb⟩;have O:=au.mk hb;clear hb))
                have H:((j2-1:Nat):Int)=(j2:Int)-1:=by omega
                first
                  |exact⟨⟨i2+1,j2-1,swp dk i2 j2,by first|rfl|go_num,by first|rfl|(congr 1;omega),⟨by omega⟩,⟨by omega⟩,⟨by omega⟩,⟨er (D':=swp dk i2 j2) inferInstance rfl⟩,inferInstance,inferInstance,⟨by
                  rw[←HO.out,partEqLoop_eq aG a i j dk,F.out,G.out,aj (by omega)]⟩⟩,by simp[intOf];omega⟩
                  |(go_roundw;(case rel=>((repeat apply Exists.intro);exact⟨⟨i2+1,j2-1,swp dk i2 j2,by first|rfl|go_num,by first|rfl|(congr 1;omega),⟨by omega⟩,⟨by omega⟩,⟨by omega⟩,⟨er (D':=swp dk i2 j2) inferInstance rfl⟩,inferInstance,inferInstance,⟨by
                  rw[←HO.out,partEqLoop_eq aG a i j dk,F.out,G.out,aj (by omega)]⟩⟩,(by first|rfl|(simp only[Int.natCast_add,Int.natCast_one];rfl)|(simp only[Int.natCast_add,Int.natCast_one,H];rfl))⟩));(case measure=>first|(simp[intOf];omega)|(simp[intOf];done)))
              · have d2:decide ((i2:Int)≤(j2:Int))=false:=ax (by omega);have K:decide (i2≤j2)=false:=ax (by omega);have d3:decide ((j2:Int)<(i2:Int))=true:=ah (by omega);have U:decide (j2<i2)=true:=ah (by omega);have x3:Ix (j2:Int) C.n:=⟨by omega,by omega⟩;go_wp2;go_ret;have hz:=HO.out;rw[partEqLoop_eq aG a i j dk,F.out,G.out,ai (by omega)]at hz;exact⟨by rw[←hz];rfl,er (D:=dk) inferInstance (by rw[←hz]),Fr.out⟩
        · have d1:decide ((i2:Int)≤(j:Int))=false:=ax (by omega);go_wp2
          go_loopw [10] (fun v wr=>∃j2:Nat,v= .int .i64 j2∧ae (i2≤j2+1)∧ae (j2≤j)∧So C wr dk∧Fr C w wr∧aJ wr w.heap.size (dv C) 184∧ae (scanDown (fun x=>aG dk[a]! x) dk i2 j2=scanDown (fun x=>aG dk[a]! x) dk i2 (j))) (fun v _=>(intOf v).toNat)
          case atStart=>exact⟨j,by first|rfl|(congr 1;omega),⟨by omega⟩,⟨by omega⟩,inferInstance,inferInstance,inferInstance,⟨rfl⟩⟩
          case round=>
            clear m1 m2 m3;obtain⟨j2,rfl,I,J,n1,n2,n3,z⟩:=hrel;have hc2:=I.out;have hd2:=J.out;have c2:¬i2≤j2:=by omega
            have G:ae (scanDown (fun x=>aG dk[a]! x) dk i2 (j)=j2):=⟨by
              rw[←z.out];exact scanDown_end (fun x=>aG dk[a]! x) dk i2 j2 (.inl c2)⟩
            clear z;have d2:decide ((i2:Int)≤(j2:Int))=false:=ax (by omega);have K:decide (i2≤j2)=false:=ax (by omega);have d3:decide ((j2:Int)<(i2:Int))=true:=ah (by omega);have U:decide (j2<i2)=true:=ah (by omega);have x3:Ix (j2:Int) C.n:=⟨by omega,by omega⟩;go_wp2;go_ret;have hz:=HO.out;rw[partEqLoop_eq aG a i j dk,F.out,G.out,ai (by omega)]at hz;exact⟨by rw[←hz];rfl,er (D:=dk) inferInstance (by rw[←hz]),Fr.out⟩
end S
namespace S
open Go.RowKit Go.Sort P Q V WW.bc
theorem oJ:SWO aG where
  irrefl:=before_irrefl
  trans:=fun x y z h k=>before_trans h k
  ntrans:=fun x y z h k=>by
    rw[Bool.eq_false_iff,ne_eq,sV]at h k ⊢;omega
theorem zr {a b:Nat} {D D':Array E} (hb:b≤D.size) (h:PermIn a b D D'):∀x∈D',x∈D:=by
  intro x hx;obtain⟨k,hk,rfl⟩:=Array.mem_iff_getElem.mp hx;have hk':k<D.size:=by rw[←h.1];exact hk
  by_cases hin:a≤k∧k<b
  · have hall:=permIn_all D D' a b (fun y=>y∈D) hb h (fun i hi hi'=>by
      rw[getElem!_pos D i (by omega)];exact Array.getElem_mem _) k hin.1 hin.2
    rw[getElem!_pos D' k hk]at hall;exact hall
  · have:=h.2.1 k (by omega);rw[getElem!_pos D' k hk,getElem!_pos D k hk']at this;rw[this];exact Array.getElem_mem _
theorem vu {C:cZ} [g:dA C] {w:World} {D D':Array E} {a b:Nat} (h:cf C w D) (hb:b≤C.n) (hp:PermIn a b D D') (n:Nat) (os:Array Obj):
    cf C (sortWorldK d_ 4 w C.g 0 n D' os) D'∧w.grownBy (sortWorldK d_ 4 w C.g 0 n D' os) (some C.g):=by
  have hs:D'.size=D.size:=hp.1
  have hg:w.grownBy (sortWorldK d_ 4 w C.g 0 n D' os) (some C.g):=by
    unfold sortWorldK;refine⟨rfl,rfl,rfl,by rw[size_grow,size_putRowK];show w.heap.size≤w.heap.size+os.size;omega,fun k u hk2=> ?_⟩;rw[heap_grow_old _ _ (by rw[size_putRowK];exact u)];unfold putRowK putRow;rw[rE,aj (fun hh=>hk2 (by rw[hh]))];rfl
  exact⟨⟨holdsK_sortWorldK d_ 4 w C.g 0 n D D' os h.lt h.hold hs,by rw[hs];exact h.size,(hg.block _ h.nV (fun e=>g.ne (aA e))).trans h.box,Nat.lt_of_lt_of_le h.lt hg.size,by
    unfold sortWorldK;rw[heap_grow_old _ _ (by rw[size_putRowK];exact h.lt)];exact uO (W:=Sort.ahead w n) h.shape,fun x hx=>h.pE x (zr (by rw[h.size];exact hb) hp x hx)⟩,hg⟩
theorem xI (C:cZ) [g:dA C] (w:World) (D:Array E) (h:cf C w D) (a b:Nat) (hab:a≤b) (hb:b≤C.n):
    Calls Tryz.prog 193 #[gU C,.int .i64 a,.int .i64 b] w fun e w'=>e= .returned (.tuple #[])∧∃D',cf C w' D'∧PermIn a b D D'∧w.grownBy w' (some C.g):=by
  have hsw:SwapSwapsK Tryz.prog 189 C.sb d_ 4 C.g 0 D.size:=by rw[h.size];exact g.swap
  have:=Any.breakPatterns_func_cells_w (P:=Tryz.prog) (ρ:=qf) {p_ with} d_ 4 pB (.func 153) #[] C.lb 189 C.sb C.g 0 a b D w hsw h.hold h.lt hab (by rw[h.size];exact hb) (by have:=g.small;rw[h.size];omega);refine this.mono ?_;rintro e w' ⟨he,n,os,rfl⟩;have hp:=breakPatterns_holds D a b hab (by rw[h.size];exact hb);obtain⟨h1,h2⟩:=vu h hb hp n os;exact⟨he,_,h1,hp,h2⟩
theorem AP (C:cZ) [g:dA C] (w:World) (D:Array E) (h:cf C w D) (a b:Nat) (hab:a≤b) (hb:b≤C.n):
    Calls Tryz.prog 195 #[gU C,.int .i64 a,.int .i64 b] w fun e w'=>e= .returned (.tuple #[])∧∃D',cf C w' D'∧PermIn a b D D'∧w.grownBy w' (some C.g):=by
  have hsw:SwapSwapsK Tryz.prog 189 C.sb d_ 4 C.g 0 D.size:=by rw[h.size];exact g.swap
  have:=Any.reverseRange_func_cells_w (P:=Tryz.prog) (ρ:=qf) {p_ with} d_ 4 pB (.func 153) #[] C.lb 189 C.sb C.g 0 a b D w hsw h.hold h.lt hab (by rw[h.size];exact hb) (by have:=g.small;rw[h.size];omega);refine this.mono ?_;rintro e w' ⟨he,n,os,rfl⟩;have hp:=reverseRange_holds D a b hab (by rw[h.size];exact hb);obtain⟨h1,h2⟩:=vu h hb hp n os;exact⟨he,_,h1,hp,h2⟩
theorem zf {C:cZ} {W:World} {D:Array E} [g:dA C] (h:cf C W D) (i j:Int) (i' j':Nat) (u:i=i') (z:j=j') (hi:i'<C.n) (hj:j'<C.n):
    Calls Tryz.prog 153 (#[.int .i64 i,.int .i64 j]++C.lb) W fun e w'=>∃lb,e= .returned (.bool lb)∧aG D[i']! D[j']! =lb∧RowKit.Below W.heap.size W w':=by
  subst u z;exact(tV C W D h g.lb g.small i' j' hi hj).mono fun e w' hh=>⟨_,hh.1,rfl,hh.2⟩
theorem Ad {C:cZ} {W:World} {D:Array E} [dA C] (h:cf C W D) (a b p:Nat) (p':Int) (e:p'=p) (hap:a≤p) (hpb:p<b) (hb:b≤C.n):
    Calls Tryz.prog 197 #[gU C,.int .i64 a,.int .i64 b,.int .i64 p'] W fun e w'=>∃mid D',partitionEqual aG D a b p=(mid,D')∧e= .returned (.int .i64 (mid:Nat))∧cf C w' D'∧W.grownBy w' (some C.g):=by
  subst e;exact(Ae C W D h a b p hap hpb hb).mono fun e w' hh=>⟨_,_,rfl,hh⟩
theorem Af {C:cZ} {W:World} {D:Array E} [dA C] (h:cf C W D) (a b p:Nat) (p':Int) (e:p'=p) (hap:a≤p) (hpb:p<b) (hb:b≤C.n):
    Calls Tryz.prog 198 #[gU C,.int .i64 a,.int .i64 b,.int .i64 p'] W fun e w'=>∃mid ap D',partition aG D a b p=(mid,ap,D')∧e= .returned (.tuple #[.int .i64 (mid:Nat),.bool ap])∧cf C w' D'∧W.grownBy w' (some C.g):=by
  subst e;exact(Ag C W D h a b p hap hpb hb).mono fun e w' hh=>⟨_,_,_,rfl,hh⟩
end S
namespace S
open Go.RowKit Go.Sort P Q V WW.bc
attribute [local go_sem] dB dC vC
def qJ (C:cZ) (N:Nat):Prop:=∀(w:World) (D:Array E),cf C w D→∀a b limit:Nat,b-a<N→a≤b→b≤C.n→limit≤100→Sort.Below aG a b D→∀a' b' l':Int,a'=a→b'=b→l'=limit→
    Calls Tryz.prog 174 #[gU C,.int .i64 a',.int .i64 b',.int .i64 l'] w fun e w'=>e= .returned (.tuple #[])∧∃D',cf C w' D'∧PermIn a b D D'∧SortedIn aG a b D'∧w.grownBy w' (some C.g)
set_option maxHeartbeats 16000000 in
set_option maxRecDepth 100000 in
set_option synthInstance.maxHeartbeats 400000 in
set_option synthInstance.maxSize 100000 in
theorem Ai (C:cZ) [dA C] (N:Nat) (ih:qJ C N):qJ C (N+1):=by
  intro w D h a b limit hN hab hb hlim hB a' b' l' ea eb el;subst ea eb el;have j0:=So.mk h;have hsm:=dA.small (C:=C);have hsz:=h.size;have aS:dQ w.heap.size C.g:=⟨Nat.ne_of_gt h.lt⟩;have aN:=aJ.mk (f_ w (.cells (dv C) 184));have aM:=ae.mk hB;have IH:=ae.mk ih;clear h hB ih;have hu:=Tryz.underlying184;go_enter Tryz.func174,Tryz.ntmps174;go_wp2
  go_loopg [1,2,3,8,9] (b-a) (fun kx v1 v2 v3 v8 v9 wr=>∃(a1 b1 l1:Nat) (wb wp:Bool) (dk:Array E),v1= .int .i64 a1∧v2= .int .i64 b1∧v3= .int .i64 l1∧v8= .bool wb∧v9= .bool wp∧ae (a1≤b1∧b1≤C.n∧b1-a1≤kx∧kx≤b-a∧l1≤100)∧ae (Sort.Below aG a1 b1 dk)∧ae (∀R,PermIn a1 b1 dk R→SortedIn aG a1 b1 R→PermIn a b D R∧SortedIn aG a b R)∧So C wr dk∧Fr C w wr∧aJ wr w.heap.size (dv C) 184)
  case atStart=>exact⟨a,b,limit,true,true,D,rfl,rfl,rfl,rfl,rfl,⟨⟨by omega,by omega,by omega,by omega,by omega⟩⟩,aM,⟨fun R h1 h2=>⟨h1,h2⟩⟩,inferInstance,inferInstance,inferInstance⟩
  case round=>
    clear j0 aN;obtain⟨a1,b1,l1,wb,wp,dk,rfl,rfl,rfl,rfl,rfl,aC,af,G,j1,j2,u⟩:=hrel;obtain⟨ak,hb1,aR,hn2,hl1⟩:=aC.out;have hds:dk.size=C.n:=j1.out.size;by_cases c12:b1-a1≤12
    · have d1:decide ((b1:Int)-(a1:Int)≤12)=true:=ah (by omega)
      go_wp2_with (first|(go_at_call 191;refine(yI C _ _ So.out a1 b1 (by omega) (by omega)).mono ?_;rintro e w2 ⟨rfl,hs,hg⟩;have k1:=So.mk hs;have k2:=Gb.mk hg;clear hs hg))
      ((try simp only[Exit.inBlock,Exit.then]);refine bodyPost_ret (results_none rfl _ _ _) rfl ?_)
      obtain⟨h1,h2⟩:=insertionSort_holds oJ dk a1 b1 ak (by omega);obtain⟨h3,h4⟩:=G.out _ h1 h2;exact⟨rfl,_,So.out,h3,h4,Fr.out⟩
    have d1:decide ((b1:Int)-(a1:Int)≤12)=false:=ax (by omega);by_cases c0:l1=0
    · subst c0
      go_wp2_with (first|(go_at_call 192;refine(yz C _ _ So.out a1 b1 (by omega) (by omega)).mono ?_;rintro e w2 ⟨rfl,hs,hg⟩;have k1:=So.mk hs;have k2:=Gb.mk hg;clear hs hg))
      ((try simp only[Exit.inBlock,Exit.then]);refine bodyPost_ret (results_none rfl _ _ _) rfl ?_)
      obtain⟨h1,h2⟩:=heapSort_holds oJ dk a1 b1 ak (by omega);obtain⟨h3,h4⟩:=G.out _ h1 h2;exact⟨rfl,_,So.out,h3,h4,Fr.out⟩
    have d0:((l1:Int)==0)=false:=beq_eq_false_iff_ne.mpr (by omega)
    go_upto_if 35 with fail
    go_cut [3]from 19 (fun s3 wc=>∃(l2:Nat) (dj:Array E),s3= .int .i64 l2∧ae (l2≤100)∧ae (PermIn a1 b1 dk dj)∧So C wc dj∧Fr C w wc∧aJ wc w.heap.size (dv C) 184)
    case first=>
      cases wb
      · go_wp2_with (first|(go_at_call 193;refine(xI C _ _ So.out a1 b1 (by omega) (by omega)).mono ?_;rintro e w2 ⟨rfl,F,hs,hp,hg⟩;have k1:=So.mk hs;have k2:=Gb.mk hg;have K:=ae.mk hp;clear hs hg hp))
        go_meet
        case rel=>exact⟨l1-1,F,by congr 1;omega,⟨by omega⟩,K,inferInstance,inferInstance,inferInstance⟩
      · go_wp2_with fail
        go_meet
        case rel=>exact⟨l1,dk,rfl,⟨by omega⟩,⟨permIn_refl dk a1 b1⟩,j1,j2,u⟩
    case rest=>
      clear j1 j2 u d0 d1;obtain⟨l2,dj,rfl,aB,HS,j1,j2,u⟩:=hcut;have hl2:=aB.out
      go_upto_if 50 with (go_at_call 194;refine(xO C _ _ So.out a1 b1 (by omega) (by omega)).mono ?_;rintro e w2 ⟨p,k,rfl,hp1,hp2,hk,hb⟩;have ad:=au.mk hb;clear hb)
      obtain⟨p,rfl⟩:∃p':Nat,p=p':=⟨p.toNat,by omega⟩
      go_cut [11,12]from 19 (fun aO s12 wc=>∃(q:Nat) (k:Int) (z:Array E),aO= .int .i64 q∧s12= .int .i64 k∧ae (a1≤q∧q<b1)∧ae (PermIn a1 b1 dk z)∧So C wc z∧Fr C w wc∧aJ wc w.heap.size (dv C) 184)
      case first=>
        by_cases h2:k=2
        · have aL:(k==2)=true:=beq_iff_eq.mpr h2
          go_wp2_with (first|(go_at_call 195;refine(AP C _ _ So.out a1 b1 (by omega) (by omega)).mono ?_;rintro e w3 ⟨rfl,F,hs,hp,hg⟩;have k1:=So.mk hs;have k2:=Gb.mk hg;have K:=ae.mk (permIn_trans _ _ _ _ _ HS.out hp);clear hs hg hp))
          go_meet
          case rel=>exact⟨b1-1-(p-a1),1,F,by congr 1;omega,rfl,⟨⟨by omega,by omega⟩⟩,K,inferInstance,inferInstance,inferInstance⟩
        · have aL:(k==2)=false:=beq_eq_false_iff_ne.mpr h2
          go_wp2_with fail
          go_meet
          case rel=>exact⟨p,k,dj,rfl,rfl,⟨⟨by omega,by omega⟩⟩,HS,inferInstance,inferInstance,inferInstance⟩
      case rest=>
        clear j1 j2 u ad hk hp1 hp2 HS;obtain⟨q,k,z,rfl,rfl,aF,HS,j1,j2,u⟩:=hcut;obtain⟨hq1,am⟩:=aF.out
        go_upto_region 16 with fail
        go_cut [68]from 19 (fun aP wx=>∃t:Bool,aP= .bool t∧wx=wc)
        case first=>
          cases wb<;>cases wp<;>by_cases al:k=1<;>
            (first|have hkb:(k==1)=true:=beq_iff_eq.mpr al|have hkb:(k==1)=false:=beq_eq_false_iff_ne.mpr al)<;>
            (go_wp2_with fail
             go_meet
             exact⟨_,rfl,rfl⟩)
        case rest=>
          obtain⟨t,rfl,rfl⟩:=hcut
          go_upto_if 68 with fail
          go_cut []from 19 (fun wx=>So C wx z∧Fr C w wx∧aJ wx w.heap.size (dv C) 184)
          case first=>
            cases t
            · go_wp2_with fail
              go_meet
              case rel=>exact⟨j1,j2,u⟩
            · go_wp2_with (first|(go_at_call 196;refine(Ab C _ _ So.out a1 b1 (by omega) (by omega)).mono ?_;rintro e w3 ⟨r,rfl,hpi,hb⟩;have ad:=au.mk hb;have aE:=ae.mk hpi;clear hb hpi;cases r))
              · go_meet
                exact⟨inferInstance,inferInstance,inferInstance⟩
              · ((try simp only[Exit.inBlock,Exit.then]);refine bodyPost_ret (results_none rfl _ _ _) rfl ?_)
                obtain⟨h1,h2⟩:=partialInsertionSort_holds oJ z a1 b1 (by omega) (by rw[HS.out.1,hds];omega) (Below.perm af.out (by rw[hds];omega) HS.out);rw[aE.out]at h1 h2;obtain⟨h3,h4⟩:=G.out _ (permIn_trans _ _ _ _ _ HS.out h1) (h2 rfl);exact⟨rfl,_,So.out,h3,h4,Fr.out⟩
          case rest=>
            clear j1 j2 u;obtain⟨j1,j2,u⟩:=hcut
            go_upto_region 18 with fail
            go_cut [83]from 19 (fun aQ wx=>∃t:Bool,aQ= .bool t∧ae (t=true→0<a1∧aG z[a1-1]! z[q]! =false)∧So C wx z∧Fr C w wx∧aJ wx w.heap.size (dv C) 184)
            case first=>
              by_cases ha0:a1=0
              · have ha1:decide (0<(a1:Int))=false:=ax (by omega);have ha2:decide (0<a1)=false:=ax (by omega)
                go_wp2_with fail
                go_meet
                case rel=>exact⟨false,rfl,⟨fun h=>by cases h⟩,j1,j2,u⟩
              · have ha1:decide (0<(a1:Int))=true:=ah (by omega);have ha2:decide (0<a1)=true:=ah (by omega)
                go_wp2_with (first|(go_at_call 153;refine(zf So.out _ _ (a1-1) q (by omega) rfl (by omega) (by omega)).mono ?_;rintro e w3 ⟨lb,rfl,hlb,hb⟩;have ad:=au.mk hb;have av:=ae.mk hlb;clear hb hlb;cases lb))
                · go_meet
                  exact⟨true,rfl,⟨fun _=>⟨by omega,av.out⟩⟩,inferInstance,inferInstance,inferInstance⟩
                · go_meet
                  exact⟨false,rfl,⟨fun h=>by cases h⟩,inferInstance,inferInstance,inferInstance⟩
            case rest=>
              clear j1 j2 u;obtain⟨t,rfl,aH,j1,j2,u⟩:=hcut;have ao:b1≤z.size:=(by rw[HS.out.1,hds];omega);have ag:=ae.mk (Below.perm af.out (by rw[hds];omega) HS.out);cases t
              · go_upto_if 109 with (go_at_call 198;refine(Af So.out a1 b1 q _ rfl (by omega) (by omega) (by omega)).mono ?_;rintro e w3 ⟨mid,ap,F,hx,rfl,hs,hg⟩;have k1:=So.mk hs;have k2:=Gb.mk hg;obtain⟨r1,r2,r3,I,J,aq,ar⟩:=round_part oJ (partition_holds aG) hq1 am ao ag.out hx;have O:=ae.mk I;have U:=ae.mk J;have aI:=ae.mk aq;have aK:=ae.mk ar;clear hs hg hx r3 I J aq ar)
                by_cases h4:mid-a1<b1-mid
                · have h4z:decide ((mid:Int)-(a1:Int)<(b1:Int)-(mid:Int))=true:=ah (by omega)
                  go_wp2_with (first|(go_at_call 174;refine(IH.out _ _ So.out a1 mid l2 (by omega) (by omega) (by omega) (by omega) O.out _ _ _ rfl rfl rfl).mono ?_;rintro e w4 ⟨rfl,L,hs,hp,H,hg⟩;have k3:=So.mk hs;have k4:=Gb.mk hg;obtain⟨u1,u2⟩:=aI.out L hp H;have V:=ae.mk u1;have X:=ae.mk u2;clear hs hp H hg u1 u2))
                  go_roundg (b1-(mid+1))
                  case measure=>omega
                  case rel=>exact⟨mid+1,b1,l2,_,ap,L,by first|rfl|go_num,rfl,rfl,rfl,rfl,⟨⟨by omega,by omega,by omega,by omega,by omega⟩⟩,V,⟨fun R g1 g2=>by obtain⟨g3,g4⟩:=X.out R g1 g2;exact G.out R (permIn_trans _ _ _ _ _ HS.out g3) g4⟩,inferInstance,inferInstance,inferInstance⟩
                · have h4z:decide ((mid:Int)-(a1:Int)<(b1:Int)-(mid:Int))=false:=ax (by omega)
                  go_wp2_with (first|(go_at_call 174;refine(IH.out _ _ So.out (mid+1) b1 l2 (by omega) (by omega) (by omega) (by omega) U.out _ _ _ (by omega) rfl rfl).mono ?_;rintro e w4 ⟨rfl,L,hs,hp,H,hg⟩;have k3:=So.mk hs;have k4:=Gb.mk hg;obtain⟨u1,u2⟩:=aK.out L hp H;have V:=ae.mk u1;have X:=ae.mk u2;clear hs hp H hg u1 u2))
                  go_roundg (mid-a1)
                  case measure=>omega
                  case rel=>exact⟨a1,mid,l2,_,ap,L,rfl,rfl,rfl,rfl,rfl,⟨⟨by omega,by omega,by omega,by omega,by omega⟩⟩,V,⟨fun R g1 g2=>by obtain⟨g3,g4⟩:=X.out R g1 g2;exact G.out R (permIn_trans _ _ _ _ _ HS.out g3) g4⟩,inferInstance,inferInstance,inferInstance⟩
              · obtain⟨ha0,hnl⟩:=aH.out rfl;have aD:=ae.mk hnl;clear hnl
                go_wp2_with (first|(go_at_call 197;refine(Ad So.out a1 b1 q _ rfl (by omega) (by omega) (by omega)).mono ?_;rintro e w3 ⟨mid,F,hx,rfl,hs,hg⟩;have k1:=So.mk hs;have k2:=Gb.mk hg;obtain⟨r1,r2,r3,I,J⟩:=round_eq oJ (partitionEqual_holds aG) ha0 hq1 am ao ag.out aD.out hx;have O:=ae.mk I;have U:=ae.mk J;clear hs hg hx r3 I J))
                go_roundg (b1-mid)
                case measure=>omega
                case rel=>exact⟨mid,b1,l2,wb,wp,F,rfl,rfl,rfl,rfl,rfl,⟨⟨by omega,by omega,by omega,by omega,by omega⟩⟩,O,⟨fun R g1 g2=>by obtain⟨g3,g4⟩:=U.out R g1 g2;exact G.out R (permIn_trans _ _ _ _ _ HS.out g3) g4⟩,inferInstance,inferInstance,inferInstance⟩
theorem uy (C:cZ) [dA C]:∀N,qJ C N
  |0=>fun _ _ _ _ _ _ h=>absurd h (Nat.not_lt_zero _)
  |N+1=>Ai C N (uy C N)
end S
namespace S
open Go.RowKit Go.Sort Go.Lib P Q V WW.bc
theorem uG:Plain aK d_ where
  len:=fun _=>rfl
  pos:=by decide
  of:=fun{w base ok x cs} h=>by
    obtain⟨c0,c1,rfl,⟨d0,d1,rfl,h0,h1⟩,e0,e1,rfl,h2,h3⟩:=h;rw[h0,h1,h2,h3];rfl
  make:=fun w base ok x=>ke w base ok x
theorem wX {C:cZ} {w w':World} {base:Nat} {ok:Nat→Prop} {xs:List E} {D:Array E} (h:aK.R 64 w base ok (.slice (some ⟨C.g,0,none⟩) xs.length C.c) xs) (hs:cf C w' D) (hn:xs.length=C.n):
    aK.R 64 w' base ok (.slice (some ⟨C.g,0,none⟩) xs.length C.c) D.toList:=by
  obtain⟨hok,inner,ho,hr⟩:=h;rcases ho.2 with ⟨hn',_⟩|⟨g',cap',I,hv,hg,hh,hle,hmx,hcs,J⟩
  · simp at hn'
  obtain⟨e1,e2⟩:C.g=g'∧C.c=cap':=by simpa using hv
  subst e1 e2;obtain⟨cur,hc,u⟩:=hs.shape;have hD:D.size=xs.length:=by rw[hs.size,hn]
  have hat:∀i,i<D.size→(cur.toList.drop (i*4)).take 4=d_ D[i]! :=by
    intro i hi;obtain⟨a0,a1,a2,a3⟩:=hs.at_ i (by rw[←hs.size];exact hi);have e0:=(di hc (i*4)).symm.trans a0;have e1:=(di hc (i*4+1)).symm.trans a1;have e2:=(di hc (i*4+2)).symm.trans a2;have e3:=(di hc (i*4+3)).symm.trans a3;refine List.ext_getElem? fun c=> ?_;by_cases F:c<4
    · rw[s8 F,Array.getElem?_toList];rcases c with _|_|_|_|c
      · exact e0
      · exact e1
      · exact e2
      · exact e3
      · omega
    · rw[List.getElem?_eq_none (by rw[List.length_take];omega),List.getElem?_eq_none (by show(d_ D[i]!).length≤c;rw[pB];omega)]
  have hlen:D.toList.length=xs.length:=by simpa using hD
  have z:(cur.toList.take (xs.length*4)).length=xs.length*4:=by
    have G:cur.toList.length=C.c*4:=(by simpa using u);rw[List.length_take,G];exact Nat.min_eq_left (Nat.mul_le_mul_right 4 hle)
  refine⟨hok,cur.toList.take (xs.length*4),⟨?_,.inr ⟨C.g,C.c,cur,by rw[hlen],hg,hc,by rw[hlen];exact hle,hmx,u,by rw[hlen];rfl⟩⟩,?_,fun i x hx=> ?_⟩
  · rw[hlen];exact z
  · rw[hlen];exact z
  · have hi:i<D.size:=by have:=(List.getElem?_eq_some_iff.1 hx).1;simpa using this
    have H:D[i]! =x:=by
      have:=(List.getElem?_eq_some_iff.1 hx).2;rw[getElem!_pos D i hi];simpa using this
    have e:((cur.toList.take (xs.length*4)).drop (i*4)).take 4=d_ x:=by
      rw[List.drop_take,List.take_take,Nat.min_eq_left (by rw[←hD];omega),hat i hi,H]
    show aK.M w' base _ x (((cur.toList.take (xs.length*4)).drop (i*4)).take 4);rw[e];exact uG.make _ _ _ _
noncomputable def vB:TypeInfo:=(Tryz.prog.info? 28).get (by kernel_rfl)
noncomputable def jr:TypeInfo:=(Tryz.prog.info? 64).get (by kernel_rfl)
theorem BM (n:Nat) (h2:2≤n):Lib.swapperK n jr 25=9:=by
  have a:jr.hasPointers=false:=by kernel_rfl
  have b:jr.bytes=32:=by kernel_rfl
  have c:(n==0)=false:=by simp;omega
  have d:(n==1)=false:=by simp;omega
  simp[Lib.swapperK,a,b,c,d]
theorem Bz (w:World) (g cap bs base:Nat) (ok:Nat→Prop) (xs:List E) (hR:aK.R 64 w base ok (.slice (some ⟨g,0,none⟩) xs.length cap) xs) (hB:w.heap[bs]? =some (.cells #[.slice (some ⟨g,0,none⟩) xs.length cap] 28 (0,0)))
    (hne:bs≠g) (h2:2≤xs.length) (h50:xs.length<50) (hf:∀x∈xs,lx x):
    Calls Tryz.prog 152 #[.iface 28 (.slice (some ⟨g,0,none⟩) xs.length cap),.func (.func 153) #[] #[.pointer (some ⟨bs,0,none⟩)]] w fun e w'=>e= .returned (.tuple #[])∧
      ∃D:Array E,PermIn 0 xs.length xs.toArray D∧SortedIn aG 0 xs.length D∧aK.R 64 w' base ok (.slice (some ⟨g,0,none⟩) xs.length cap) D.toList∧w.grownBy w' (some g):=by
  refine Any.sort_Slice_of_pdq p_ 28 64 vB jr (by kernel_rfl) (by kernel_rfl) (by kernel_rfl) (by kernel_rfl) 25 (fun _=>by kernel_rfl) _ xs.length cap (by omega) 189 (by rw[BM _ h2];kernel_rfl) _ _ _ w _ ?_
  have hbd:sliceBound Tryz.prog 64 jr 25 (some ⟨g,0,none⟩) xs.length cap= #[.slice (some ⟨g,0,none⟩) xs.length cap,typeHandle Tryz.prog 64]:=by
    unfold sliceBound;rw[aj (swapperK_gt _ _ _ h2)]
  rw[hbd]
  let C:cZ:=⟨g,bs,xs.length,cap,#[.pointer (some ⟨bs,0,none⟩)],#[.slice (some ⟨g,0,none⟩) xs.length cap,typeHandle Tryz.prog 64]⟩
  haveI:dA C:=⟨swapSwapsK_of_literal false 189 (fun args W=>run_callFunc_extern Tryz.func189 (by kernel_rfl) (by kernel_rfl) (by kernel_rfl) (e:=Extern.ReflectliteSwapper.swap false) (by kernel_rfl) args W) 64 jr (by kernel_rfl) d_ 4 (fun _=>rfl) (by kernel_rfl) (fun _=>by kernel_rfl) (fun x v hv=>by simp[d_]at hv;rcases hv with rfl|rfl|rfl|rfl<;>rfl) g 0 xs.length cap,h50,rfl,hne⟩
  have h0:cf C w xs.toArray:=by
    have z:=hR;obtain⟨_,inner,ho,_⟩:=z;rcases ho.2 with ⟨hn',_⟩|⟨g',cap',u,hv,hg,hh,hle,hmx,hcs,H⟩
    · simp at hn'
    obtain⟨e1,e2⟩:g=g'∧cap=cap':=(by simpa using hv);subst e1 e2;exact⟨yE uG hR,by simp[C],hB,dU hh,⟨u,hh,hcs⟩,fun x hx=>hf x (by simpa using hx)⟩
  have hbl:RowKit.Below w.heap.size w (sliceWorld Tryz.prog qf 28 (some ⟨g,0,none⟩) xs.length cap w):=bM (bM (RowKit.Below.refl _ _) _) _;have h1:=h0.below hbl;have G:Lib.bitLen xs.length≤62:=Lib.bitLen_le xs.length 62 (by omega) (by omega);have:=uy C (xs.length+1) _ _ h1 0 xs.length (Lib.bitLen xs.length) (by omega) (by omega) (Nat.le_refl _) (by omega) (.inl rfl) _ _ _ rfl rfl rfl;refine this.mono ?_;rintro e w' ⟨he,D,hs,hp,F,hg⟩;exact⟨he,D,hp,F,wX (C:=C) hR hs rfl,iH (iZ hbl) hg⟩
theorem BA (w:World) (A:Option Addr) (n cap bs:Nat) (h1:n≤1):
    Calls Tryz.prog 152 #[.iface 28 (.slice A n cap),.func (.func 153) #[] #[.pointer (some ⟨bs,0,none⟩)]] w fun e w'=>e= .returned (.tuple #[])∧RowKit.Below w.heap.size w w':=by
  have hK:n=0∨n=1:=by omega
  have a:jr.hasPointers=false:=by kernel_rfl
  have b:jr.bytes=32:=by kernel_rfl
  have key:∀f,Tryz.prog.funcs.findIdx? (·.name== "internal/reflectlite" ++ ".Swapper$" ++toString (swapperK n jr 25))=some f→Calls Tryz.prog 152 #[.iface 28 (.slice A n cap),.func (.func 153) #[] #[.pointer (some ⟨bs,0,none⟩)]] w fun e w'=>e= .returned (.tuple #[])∧RowKit.Below w.heap.size w w':=by
    intro f hf;refine(Any.sort_Slice_tiny p_ 28 64 vB jr (by kernel_rfl) (by kernel_rfl) (by kernel_rfl) (by kernel_rfl) 25 (fun _=>by kernel_rfl) A n cap h1 f hf _ _ _ w).mono ?_;rintro e w' ⟨he,os,rfl⟩;exact⟨he,rfl,rfl,rfl,by simp,fun k hk=>heap_grow_old _ _ hk⟩
  rcases hK with rfl|rfl
  · exact key 181 (by rw[show swapperK 0 jr 25=1 from rfl];kernel_rfl)
  · exact key 182 (by rw[show swapperK 1 jr 25=2 from rfl];kernel_rfl)
end S
namespace P
open Go.RowKit WW.bc WW.bY WW.bZ V
open Go.Maps (Keyed)
attribute [local go_sem] dB dC
set_option maxHeartbeats 8000000 in
set_option maxRecDepth 100000 in
set_option synthInstance.maxHeartbeats 400000 in
set_option synthInstance.maxSize 100000 in
theorem iJ.xL (k:Nat) (A0:Option Addr) (c0:Nat) (l0:List (S64)) (w:World) (a0:Kd.C aK w A0 l0.length l0) (hc0:l0.length≤c0) (A:fB.f k l0=some true) (bp:l0.length≤30) (hw:∀x∈l0,cn x.f0.f0∧cn x.f0.f1) (hfl:∀x∈l0,0≤x.f1∧x.f1≤2):
    Calls Tryz.prog 132 #[.slice A0 l0.length c0] w fun e w'=>∃a2:Value,e= .returned (a2)∧Kd.R aK 64 w' w.heap.size (fun _=>True) a2 (Q.eo l0 l0.length)∧Below w.heap.size w w':=by
  have hl:l0.length≤1000:=by omega
  have a_:=ae.mk hfl;clear hfl;have i0:=a6.mk a0;have i1:=af.mk hc0;have A:=ae.mk A;have HW:=ae.mk hw;clear a0 hc0 hw;have br:=Tryz.underlying64;have bq:=Tryz.underlying62;go_enter Tryz.func132,Tryz.ntmps132
  go_wp2_with (first
    |(go_at_call 56;refine(fB.c k _ _ _ true _ Rd.out af.out A.out).mono ?_;rintro e w2 ⟨rfl,hb⟩;have bf:=au.mk hb;clear hb)
    |(go_at_call 133;refine(rp.c _ _ _ _ Rd.out af.out hl HW.out).mono ?_;rintro e w3 ⟨b,rfl,hb1,hm,hb⟩;obtain⟨D,hD,aW⟩:=hm;have bf:=au.mk hb;have HD:=ae.mk hD;have aE:=ae.mk aW;have I:=ae.mk hb1;clear hb hb1 hD aW)
    |(at_range;refine wpList_range_own _ rfl _ 141 rfl 62 64 mm Tryz.underlying141 jM b l0.length D rfl HD.out ?_;intro w4 hrg hg hs;have F:=ae.mk hrg;have HG:=ae.mk hg;have HS:=ae.mk hs;clear hrg hg hs))
  go_frame
  have bm:=ae.mk (F.out.ne);have aU:=ae.mk (HD.out.size_le);have bc:=ae.mk (HD.out.lt);have J:ae (w2.heap.size+2≤w3.heap.size):=⟨by have hs:=(au.out (W:=w3)).size;simpa using hs⟩;have aQ:ae (w2.heap.size+2≤b):=⟨by have:=I.out;simpa using this⟩;have ao:ae (w.heap.size≤w2.heap.size):=⟨Sz.out⟩;have aC:ae (Below w.heap.size w w4):=⟨(From.out:Below w.heap.size w w3).grown HG.out (Sz.out:w.heap.size≤w3.heap.size) (fun k hk=>by cases hk)⟩
  have u:ae (w4.heap[w2.heap.size+1]? =some (.cells #[.slice (some ⟨w2.heap.size,0,none⟩) 0 0] 28 (0,0))):=⟨by
    have h3:aJ w3 (w2.heap.size+1) #[.slice (some ⟨w2.heap.size,0,none⟩) 0 0] 28:=⟨iU (by have:=f_ (w2.alloc (.cells #[] 64 (0,0))) (.cells #[.slice (some ⟨w2.heap.size,0,none⟩) 0 0] 28 (0,0));simpa using this) (au.out (W:=w3))⟩;exact(HG.out.block _ (dU h3.out) (by simp)).trans h3.out⟩
  have aT:ae (Kd.R aK 64 w4 w.heap.size (fun j=>j≠w2.heap.size+1∧j≠b∧j≠w3.heap.size) (.slice (some ⟨w2.heap.size,0,none⟩) 0 0) []):=⟨by
    have h3:aJ w3 w2.heap.size #[] 64:=⟨iU (bl (f_ w2 (.cells #[] 64 (0,0))) (.cells #[.slice (some ⟨w2.heap.size,0,none⟩) 0 0] 28 (0,0))) (au.out (W:=w3))⟩;have h4:w4.heap[w2.heap.size]? =some (.cells #[] 64 (0,0)):=(HG.out.block _ (dU h3.out) (by simp)).trans h3.out;refine⟨fun k hk=> ?_,[],⟨rfl,.inr ⟨w2.heap.size,0,#[],rfl,ao.out,h4,Nat.le_refl _,Nat.zero_le _,rfl,rfl⟩⟩,aI.none _ _⟩;obtain rfl:w2.heap.size=k:=(by simpa[Value.ownBlock]using hk);exact⟨by omega,by have:=aQ.out;omega,by have:=J.out;omega⟩⟩
  have aH:ae (Found (iK l0) (Maps.has D) []):=⟨⟨fun x hx=>by simp at hx,List.Pairwise.nil,fun p x h0 h1 hm hx hf=>by
    have e1:=Maps.atKey_of_not_has hf (.map []);have e2:=aE.out.at_ p h0 h1 (.map []);rw[hm]at e2;exact absurd (e1.symm.trans e2) (by simp[jh])⟩⟩
  go_loopg [] (Maps.size D+1) (fun bg wr=>∃(left:Lit→Bool) (cnt:Nat) (v:Value) (xs:List S64),ae (bg=cnt+1)∧ae (xs.length+cnt≤Maps.size D)∧ae (wr.ranges Tryz.prog 62 jM b w3.heap.size l0.length D left cnt)∧ae (Found (iK l0) left xs)∧ae (Kd.R aK 64 wr w.heap.size (fun j=>j≠w2.heap.size+1∧j≠b∧j≠w3.heap.size) v xs)∧ae (wr.heap[w2.heap.size+1]? =some (.cells #[v] 28 (0,0)))∧ae (Below w.heap.size w wr))
  case atStart=>exact⟨_,_,_,[],⟨rfl⟩,⟨by simp⟩,F,aH,aT,u,aC⟩
  case round=>
    clear F aH aT u aC HG;obtain⟨left,cnt,v,xs,HK,V,F,H,z,u,G⟩:=hrel
    go_wp2_with (first
      |(at_next;refine wpList_next_ranges _ rfl _ rfl 62 mm jM (fun p:bH=>kY p.f0 p.f1) nu (fun key kl h=>by obtain⟨a,b,rfl,_⟩:=tP h;exact⟨⟨a,b⟩,rfl⟩) (fun v y h=>by obtain⟨x,rfl,_⟩:=uC h;exact⟨x,rfl⟩) b w3.heap.size l0.length D left cnt rfl F.out ?_ ?_))
    rotate_left
    · intro p c kl y1 bj K cnt1 hk hlk hv hat hrg1 hlt hg1 hs1 hen
      obtain⟨p0,p1⟩:cn p.f0∧cn p.f1:=by
        obtain⟨a,b',e,ha,hb⟩:=tP hk;simp[kY]at e;rw[e.1,e.2];exact⟨ha,hb⟩
      obtain rfl:kl=fF p.f0 p.f1:=aA (hk.symm.trans (mj p0 p1))
      obtain⟨rfl,rfl⟩:y1=jh c∧bj=[]:=by
        have:=(rF c).symm.trans hv;simp at this;exact⟨this.1.symm,this.2⟩
      have hm:=zn aE.out p0 p1 hat
      obtain rfl:c.f0=p:=by
        have:=(Q.ry l0 p c l0.length (Nat.le_refl _)).mp (by rw[List.take_length];exact hm);obtain⟨_,_,_,e,_⟩:=this;exact e
      have HST:=ae.mk (H.out.step c p0 p1 hm hlk);have aq:=ae.mk hrg1;have U:=ae.mk hlt;have am:=ae.mk hg1;have bn:=ae.mk hs1;clear hk hlk hv hat hrg1 hlt hg1 hs1 hm H F;simp only[kY,nu]at hen ⊢;have ap:=ae.mk (Kd.wU z.out am.out (fun j hj e=>hj.2.2 (aA e)));have O:ae (K.heap[w2.heap.size+1]? =some (.cells #[v] 28 (0,0))):=⟨(am.out.block _ (dU u.out) (fun e=>by have:=J.out;have:=aA e;omega)).trans u.out⟩;have I:ae (Below w.heap.size w K):=⟨G.out.grown am.out G.out.size (fun k hk=>by cases hk;have:=J.out;have:=ao.out;omega)⟩;have a1:=aJ.mk O.out;have bk:=ae.mk (show(if c.f1≠0 then xs++[c]else xs)=(if c.f1≠0 then xs++[c]else xs)from rfl);clear z u G;by_cases hc:c.f1=0
      · rw[aj (by simpa using hc)]at HST;obtain⟨bo,c1,c2⟩:=c;simp only at hc;subst hc;simp only at hen ⊢;go_wp2
        go_roundg (cnt1+1)
        case measure=>have:=HK.out;have:=U.out;omega
        case rel=>
          refine⟨_,cnt1,v,xs,⟨rfl⟩,⟨by have:=V.out;have:=U.out;omega⟩,⟨aq.out.alloc _⟩,HST,⟨Kd.cC ap.out _⟩,⟨bl O.out _⟩,⟨bM I.out _⟩⟩
      · rw[ai hc]at HST;have hd:=beq_eq_false_iff_ne.mpr hc;have he:=bne_iff_ne.mpr hc
        go_upto_region 8 with (fail)
        generalize hW:K.alloc _=W;have X:ae (Kd.R aK 64 W w.heap.size (fun j=>j≠w2.heap.size+1∧j≠b∧j≠w3.heap.size) v xs):=⟨by rw[←hW];exact Kd.cC ap.out _⟩;have al:ae (W.heap[w2.heap.size+1]? =some (.cells #[v] 28 (0,0))):=⟨by rw[←hW];exact bl O.out _⟩;have aD:ae (Below w.heap.size w W):=⟨by rw[←hW];exact bM I.out _⟩;have aR:ae (W.ranges Tryz.prog 62 jM b w3.heap.size l0.length D _ cnt1):=⟨by rw[←hW];exact aq.out.alloc _⟩;have bd:ae (w3.heap.size+1≤W.heap.size):=⟨aR.out.lt⟩;have bs:aJ W K.heap.size #[.int .i64 c.f0.f0,.int .i64 c.f0.f1,.int .i64 c.f1,.int .i64 c.f2] 64:=⟨by rw[←hW];exact f_ K _⟩;have bt:=aJ.mk al.out;clear hW a1 ap O I aq
        go_wp2_with (first
          |(refine Kd.gS aK (w0:=w) w.heap.size rfl (.tmp 20) (.tmp 22) 28 64 (.agg #[(.int .i64 0),(.int .i64 0),(.int .i64 0),(.int .i64 0)]) 32 rfl Tryz.underlying28 m_ rfl (by decide) (by omega) v xs c [.int .i64 c.f0.f0,.int .i64 c.f0.f1,.int .i64 c.f1,.int .i64 c.f2] (fun j=>j≠w2.heap.size+1∧j≠b∧j≠w3.heap.size) (fun _=>False) rfl rfl ?aP (fun _ hk=>hk.elim) ?aF ?aO ?aB ?aS ?aL ?_;(case aP=>exact ke _ _ _ c);(case aB=>exact aD.out);(case aF=>intro j hj;have:=bd.out;have:=J.out;have:=bc.out;exact⟨by omega,by omega,by omega⟩);(case aO=>exact X.out);(case aS=>exact aD.out.size);(case aL=>have:=V.out;have:=aU.out;omega);intro v1 a3 ho hb hg hat;obtain⟨B1,b1,rfl⟩:=Kd.cJ ho;have HO:=ae.mk ho;have a9:=ae.mk hb;have aN:=ae.mk hg;have be:aJ a3 (w2.heap.size+1) #[v] 28:=⟨(aN.out.block _ (dU al.out) (fun e=>(X.out.1 _ e.symm).1 rfl)).trans al.out⟩;clear ho hb hg))
        go_roundg (cnt1+1)
        case measure=>have:=HK.out;have:=U.out;omega
        case rel=>
          refine⟨_,cnt1,.slice B1 (xs.length+1) b1,xs++[c],⟨rfl⟩,⟨by have:=V.out;have:=U.out;simp only[List.length_append,List.length_singleton];omega⟩,⟨?_⟩,HST,⟨?_⟩,⟨?_⟩,⟨?_⟩⟩
          · refine World.ranges.kept (aR.out.kept aN.out (fun e=>(X.out.1 _ e.symm).2.1 rfl) (fun e=>(X.out.1 _ e.symm).2.2 rfl)) (grownBy_setCell' a3 _ _) (fun e=> ?_) (fun e=> ?_)
            · have:=aQ.out;have:=aA e;omega
            · have:=J.out;have:=aA e;omega
          · refine Kd.dM (by simpa using HO.out) (fun j hj=>hj.1) _
          · exact cE be.out 0 _ rfl
          · exact dZ a9.out (by have:=ao.out;omega)
    · intro hc0 hl0;have hall:=H.out.all
      have hnd:xs.Nodup:=by
        refine H.out.nodup.imp ?_;intro p q h e;exact h (by rw[e])
      have hmem:∀x,x∈xs↔iK l0 x.f0=some x∧x.f1≠0:=fun x=>⟨fun hx=>⟨(hall x hx).1,(hall x hx).2.1⟩,fun hx=>by
        have hin:x∈l0:=by
          have h9:=(Q.rC l0 x).mpr hx;obtain⟨i,_,_,h3⟩:=(Q.ou l0 x l0.length (Nat.le_refl _)).mp h9;exact List.mem_of_getElem? h3
        exact H.out.got x.f0 x (HW.out x hin).1 (HW.out x hin).2 hx.1 hx.2 (hl0 _)⟩
      have hin:∀x∈xs,x∈l0:=fun x hx=>by
        have h9:=(Q.rC l0 x).mpr ((hmem x).mp hx);obtain⟨i,_,_,h3⟩:=(Q.ou l0 x l0.length (Nat.le_refl _)).mp h9;exact List.mem_of_getElem? h3
      have hft:∀x∈xs,S.lx x:=fun x hx=>by
        have h8:=a_.out x (hin x hx);have h9:=((hmem x).mp hx).2;unfold S.lx;omega
      have aZ:∀D':Array S64,Sort.PermIn 0 xs.length xs.toArray D'→Sort.SortedIn Q.aG 0 xs.length D'→D'.toList=Q.eo l0 l0.length:=fun D' hp hs=>by
        obtain⟨h8,h9⟩:=BB (lt:=Q.aG) (D:=xs.toArray) (D':=D') (by simpa using hp) (by simpa using hs) (fun a _ c _ hne=>Q.before_total hne) (by simpa using hnd);refine Q.zO l0 _ h9 fun x=> ?_;rw[h8.mem_iff];simpa using hmem x
      have hsmall:xs.length<50:=(by have:=V.out;have:=aU.out;omega);have bb:=ae.mk hft;have aM:=ae.mk aZ;clear hall hnd hmem hin hft aZ H F;have a1:=aJ.mk u.out;by_cases h2:2≤xs.length
      · obtain⟨g,cap,rfl,hg1,hg2,_⟩:=Kd.kH z.out (by omega);have hne:w2.heap.size+1≠g:=fun e=>(z.out.1 g (by simp[Value.ownBlock])).1 e.symm
        go_wp2_with (first
          |(go_at_call 152;refine(S.Bz wr g cap (w2.heap.size+1) w.heap.size _ xs z.out u.out hne h2 hsmall bb.out).mono ?_;rintro e ak ⟨rfl,a5,hp,ag,aY,av⟩;have bv:aJ ak (w2.heap.size+1) #[.slice (some ⟨g,0,none⟩) xs.length cap] 28:=⟨(av.block _ (dU u.out) (fun e=>hne (aA e))).trans u.out⟩;have a7:=ae.mk (aM.out a5 hp ag);have ar:=ae.mk aY;have B9:ae (Below w.heap.size w ak):=⟨G.out.grown av G.out.size (fun k hk=>by cases hk;exact hg1)⟩;clear hp ag aY av))
        go_ret;refine⟨_,rfl,?_,B9.out⟩;rw[←a7.out];exact Kd.cm ar.out (fun _ _=>trivial)
      · obtain⟨a4,cap,rfl⟩:=Kd.cJ z.out
        go_wp2_with (first
          |(go_at_call 152;refine(S.BA wr a4 xs.length cap (w2.heap.size+1) (by omega)).mono ?_;rintro e ak ⟨rfl,ad⟩;have bu:=au.mk ad;have ar:=ae.mk (Kd.b6 z.out ad);have B9:ae (Below w.heap.size w ak):=⟨aV G.out ad⟩;clear ad))
        go_ret;refine⟨_,rfl,?_,B9.out⟩;have hp:Sort.PermIn 0 xs.length xs.toArray xs.toArray:=Sort.permIn_refl _ _ _;have ag:Sort.SortedIn Q.aG 0 xs.length xs.toArray:=fun i j _ h1 h2=>by omega
        rw[←aM.out xs.toArray hp ag];exact Kd.cm ar.out (fun _ _=>trivial)
set_option maxHeartbeats 8000000 in
set_option maxRecDepth 100000 in
set_option synthInstance.maxHeartbeats 400000 in
set_option synthInstance.maxSize 100000 in
theorem iJ.xK (k:Nat) (A0:Option Addr) (c0:Nat) (l0:List (S64)) (w:World) (u:Kd.C aK w A0 l0.length l0) (hc0:l0.length≤c0) (A:fB.f k l0=some false):
    Calls Tryz.prog 132 #[.slice A0 l0.length c0] w fun e w'=>∃z:Value,e= .returned (z)∧Kd.R aK 64 w' w.heap.size (fun _=>True) z ([]:List S64)∧Below w.heap.size w w':=by
  have i0:=a6.mk u;have i1:=af.mk hc0;have A:=ae.mk A;clear u hc0;go_enter Tryz.func132,Tryz.ntmps132
  go_wp2_with (first
    |(go_at_call 56;refine(fB.c k _ _ _ false _ Rd.out af.out A.out).mono ?_;rintro e w2 ⟨rfl,hb⟩;have D:=au.mk hb;clear hb))
  go_ret;exact⟨_,rfl,Kd.aY _ _ _ _ _,From.out⟩
end P
namespace P
open Go.RowKit WW.bc WW.bY WW.bZ V
attribute [local go_sem] dB dC
attribute [local go_sem] cP cT cS cW cR cV cQ cU
def iJ.f (l0:List (S64)):Option (List (S64)):=if l0.length≤1048577 then some (if Q.cO l0=true then Q.eo l0 l0.length else[])else none
theorem iJ.c (A0:Option Addr) (c0:Nat) (l0:List (S64)) (r:List (S64)) (w:World) (u:Kd.C aK w A0 l0.length l0) (hc0:l0.length≤c0) (h:iJ.f l0=some r):
  Calls Tryz.prog 132 #[.slice A0 l0.length c0] w fun e w'=>∃z:Value,e= .returned (z)∧Kd.R aK 64 w' w.heap.size (fun _=>True) z r∧Below w.heap.size w w':=by
 unfold iJ.f at h;by_cases h0:l0.length≤1048577;rotate_left
 ·rw[aj h0]at h;cases h
 rw[ai h0]at h;obtain⟨k,hk⟩:=Q.pS l0 h0;have A:=hk k (Nat.le_refl _);by_cases hb:Q.cO l0=true
 ·rw[ai hb]at h;rw[hb]at A;obtain⟨h1,h2,h3⟩:=zj hb;obtain rfl:=aA h;exact iJ.xL k A0 c0 l0 w u hc0 A h1 h2 h3
 ·rw[aj hb]at h;rw[Bool.eq_false_iff.mpr hb]at A;obtain rfl:=aA h;exact iJ.xK k A0 c0 l0 w u hc0 A
end P
namespace P
set_option maxHeartbeats 8000000
set_option maxRecDepth 100000
open Go.RowKit WW.bc WW.bY WW.bZ
attribute [local go_sem] cP cT cS cW cR cV cQ cU
def mY.f (l0:List (S64)):Option (Int×Int×Bool):=(iJ.f l0).bind fun u=>(if(u.length:Int)=0 then(some (0,0,false))else(if 0<(u.length:Int)then(some ((aq u 0).f0.f0,(aq u 0).f0.f1,true))else(none)))
theorem mY.c (A0:Option Addr) (c0:Nat) (l0:List (S64)) (r1:Int) (r2:Int) (r3:Bool) (w:World) (ar:Kd.C aK w A0 l0.length l0) (hc0:l0.length≤c0) (h:mY.f l0=some (r1,r2,r3)):
  Calls Tryz.prog 104 #[.slice A0 l0.length c0] w fun e w'=>e= .returned (.tuple #[.agg #[.int .i64 r1,.int .i64 r2],.bool r3])∧Below w.heap.size w w':=by
 have a5:=Tryz.underlying62;have ap:=A_ ar;have ao:=A_ hc0;clear ar hc0;have z:=A_ (Below.refl w.heap.size w);have H:((iJ.f l0).bind fun u=>(if(u.length:Int)=0 then(some (0,0,false))else(if 0<(u.length:Int)then(some ((aq u 0).f0.f0,(aq u 0).f0.f1,true))else(none))))=some (r1,r2,r3):=h;clear h;replace H:=ay H;obtain⟨u,am,H⟩:=H
 (try dsimp only at H)
 have A2:=A_ am;clear am;by_cases c3:(u.length:Int)=0
 ·rw[ai c3]at H;have aB:((u.length:Int)==0)=true:=beq_iff_eq.mpr c3;have aE:((u.length:Int) != 0)=false:=bne_eq_false_iff_eq.mpr c3;clear c3;simp only[Option.some.injEq,Prod.mk.injEq]at H;obtain⟨rfl,rfl,rfl⟩:=H;go_enter Tryz.func104,Tryz.ntmps104
  go_wp2_with (first|((with_reducible refine aC (N:=2) rfl ?_);refine bX (N:=2) (cs:= #[.int .i64 0,.int .i64 0]) (t:=62) ?_;intro J hg w4 K hb;have F:=A_ (aV (oB z) hb);have G:=A_ (K);have I:=A_ ((by rw[hg];exact(aZ (oB z)):w.heap.size≤J));have U:=A_ ((by rw[hg];exact(aZ (oB z)):w.heap.size≤J));clear z;have z:=F;have D:=G;have av:=I;have au:=U;clear F G I U hb K hg)|((with_reducible refine bp (f:=132) rfl ?_);refine gL (some 6) Tryz.func132 #[.slice A0 l0.length c0] ?_;(with_reducible refine(iJ.c _ _ l0 u _ ?aT ?aU A2.out).mono ?_);(case aT=>exact bF ap.out);(case aU=>exact ao.out);rintro e a9 ⟨aI,rfl,O,hb⟩;refine⟨_,rfl,?_⟩;have F:=A_ (Kd.cD O (aZ (oB z)));have G:=A_ (bb D hb);have I:=A_ (aV (oB z) hb);clear D z;have V:=F;have D:=G;have z:=I;clear F G I;(try clear hb);(try clear hb2);(try clear hk);(try clear hi);(try clear O);obtain⟨aL,aR,aH⟩:=Kd.cJ V.out;subst aH;have aY:=cz D 0;have a0:=cz D 1;have a3:=aD D.out 0;have a4:=aD D.out 1))
  refine bodyPost_ret (dW rfl _ _ J 62 #[.int .i64 0,.int .i64 0] (0,0) _ rfl (by(with_reducible repeat(first|refine bt ?_ _|refine bn ?_|refine bl ?_ _));refine cE (cs:= #[.int .i64 0,.int .i64 0]) ?_ 1 _ rfl;(with_reducible repeat(first|refine bt ?_ _|refine bn ?_|refine bl ?_ _));refine cE (cs:= #[.int .i64 0,.int .i64 0]) ?_ 0 _ rfl;(with_reducible repeat(first|refine bt ?_ _|refine bn ?_|refine bl ?_ _));exact D.out) Tryz.underlying62 rfl (by kernel_rfl)) rfl ?_;exact⟨eR,oB z⟩
 ·rw[aj c3]at H;have aB:((u.length:Int)==0)=false:=beq_eq_false_iff_ne.mpr c3;have aE:((u.length:Int) != 0)=true:=bne_iff_ne.mpr c3;have aN:¬(u=[]):=fun h_=>c3 (by rw[h_];rfl);by_cases c8:0<(u.length:Int)
  ·rw[ai c8]at H;have aO:decide (0<(u.length:Int))=true:=ah c8;have aP:decide (0<u.length)=true:=ah (by omega);clear c8;simp only[Option.some.injEq,Prod.mk.injEq]at H;obtain⟨rfl,rfl,rfl⟩:=H;go_enter Tryz.func104,Tryz.ntmps104
   go_wp2_with (first|((with_reducible refine aC (N:=2) rfl ?_);refine bX (N:=2) (cs:= #[.int .i64 0,.int .i64 0]) (t:=62) ?_;intro J hg a_ K hb;have F:=A_ (aV (oB z) hb);have G:=A_ (K);have I:=A_ ((by rw[hg];exact(aZ (oB z)):w.heap.size≤J));have U:=A_ ((by rw[hg];exact(aZ (oB z)):w.heap.size≤J));clear z;have z:=F;have D:=G;have av:=I;have au:=U;clear F G I U hb K hg)|((with_reducible refine bp (f:=132) rfl ?_);refine gL (some 6) Tryz.func132 #[.slice A0 l0.length c0] ?_;(with_reducible refine(iJ.c _ _ l0 u _ ?aT ?aU A2.out).mono ?_);(case aT=>exact bF ap.out);(case aU=>exact ao.out);rintro e a7 ⟨aI,rfl,O,hb⟩;refine⟨_,rfl,?_⟩;have F:=A_ (Kd.cD O (aZ (oB z)));have G:=A_ (bb D hb);have I:=A_ (aV (oB z) hb);clear D z;have V:=F;have D:=G;have z:=I;clear F G I;(try clear hb);(try clear hb2);(try clear hk);(try clear hi);(try clear O);obtain⟨aJ,aQ,aG⟩:=Kd.cJ V.out;subst aG;have ak:0≤(0:Int):=(by omega);have al:0<(u.length:Int):=oD;obtain⟨aM,aF,X,ad,af,ag⟩:=eA (Kd.cr V.out).2.2 0 ak al;cases aF;have a6:(0<u.length)=True:=aw (by omega);(try rw[show((0:Int)).toNat=0 from rfl]at X);(try rw[show 0*4=0 from rfl]at X);(try rw[Addr.add_zero']at X);(try rw[show((0:Int)).toNat=0 from rfl]at ad);(try rw[show 0*4=0 from rfl]at ad);(try rw[Addr.add_zero']at ad);(try rw[show((0:Int)).toNat=0 from rfl]at af);(try rw[show 0*4=0 from rfl]at af);(try rw[Addr.add_zero']at af);(try rw[show((0:Int)).toNat=0 from rfl]at ag);(try rw[show 0*4=0 from rfl]at ag);(try rw[Addr.add_zero']at ag);replace ak:=aw ak;replace al:=aw al;have aS:=cz D 0;have aW:=cz D 1;have a1:=aD D.out 0;have a2:=aD D.out 1))
   refine bodyPost_ret (dW rfl _ _ J 62 #[.int .i64 ((aq u 0).f0.f0),.int .i64 ((aq u 0).f0.f1)] (0,0) _ rfl (by(with_reducible repeat(first|refine bt ?_ _|refine bn ?_|refine bl ?_ _));refine cE (cs:= #[.int .i64 ((aq u 0).f0.f0),.int .i64 0]) ?_ 1 _ rfl;(with_reducible repeat(first|refine bt ?_ _|refine bn ?_|refine bl ?_ _));refine cE (cs:= #[.int .i64 0,.int .i64 0]) ?_ 0 _ rfl;(with_reducible repeat(first|refine bt ?_ _|refine bn ?_|refine bl ?_ _));exact D.out) Tryz.underlying62 rfl (by kernel_rfl)) rfl ?_;exact⟨eR,oB z⟩
  ·rw[aj c8]at H;exact absurd H (by simp)
end P
namespace P
set_option maxHeartbeats 8000000
set_option maxRecDepth 100000
set_option synthInstance.maxHeartbeats 400000
set_option synthInstance.maxSize 100000
open Go.RowKit WW.bc WW.bY WW.bZ V
attribute [local go_sem] dB dC
attribute [local go_sem] cP cT cS cW cR cV cQ cU
def l9.f (k:Nat) (l0:List (S64)) (a1:Int):Option ((List (S64))×Bool):=(mY.f l0).bind fun u=>(if u.2.2=true then((fP.f k l0 u.1 u.2.1 0 a1).bind fun z=>(some (z.1,z.2)))else((im.f l0).bind fun D=>(some (D,false))))
theorem l9.c (k:Nat) (A0:Option Addr) (c0:Nat) (l0:List (S64)) (a1:Int) (r1:List (S64)) (r2:Bool) (w:World) (z:Kd.C aK w A0 l0.length l0) (hc0:l0.length≤c0) (h:l9.f k l0 a1=some (r1,r2)):
  Calls Tryz.prog 65 #[.slice A0 l0.length c0,.int .i64 a1] w fun e w'=>∃F:Value,e= .returned (.tuple #[F,.bool r2])∧Kd.R aK 64 w' w.heap.size (fun _=>True) F r1∧Below w.heap.size w w':=by
 replace z:=a6.mk z;replace hc0:=af.mk hc0;unfold l9.f at h;have H:=Tryz.underlying62
 all_goals go_enter Tryz.func65,Tryz.ntmps65
 all_goals go_wp2_with ((first
  |((with_reducible refine aC (N:=6) rfl ?_);refine bV #[.int .i64 0,.int .i64 0] 62 fun g w1 j1 j2 I=> ?_)
  |(go_at_call 104;replace h:=bI h;obtain⟨⟨t1,t2,t3⟩,A,h⟩:=h;(try dsimp only at h);refine(mY.c _ _ _ _ _ _ _ Rd.out af.out A).mono ?_;rintro e w2 ⟨rfl,hb⟩;have D:=au.mk hb;clear A hb)
  |(go_at_call 102;replace h:=bI h;obtain⟨⟨t1,t2⟩,A,h⟩:=h;(try dsimp only at h);refine(fP.c _ _ _ _ _ _ _ _ _ _ _ Rd.out af.out A).mono ?_;rintro e w2 ⟨v0,rfl,u,hb⟩;obtain⟨G,b0,rfl,j0,q0⟩:=av u;have D:=au.mk hb;clear A u hb)
  |(go_at_call 54;replace h:=bI h;obtain⟨t,A,h⟩:=h;(try dsimp only at h);refine(im.c _ _ _ _ _ Rd.out af.out A).mono ?_;rintro e w2 ⟨v0,rfl,u,hb⟩;obtain⟨G,b0,rfl,j0,q0⟩:=av u;have D:=au.mk hb;clear A u hb));(repeat' first|((with_reducible replace h:=bC h);rcases h with ⟨hc,h⟩|⟨hc,h⟩<;>first|exact(bo h).elim|exact absurd hc (by decide)|subst hc|(replace hc:=aM hc;subst hc)|(have hd:=bw hc;have he:=bz hc;clear hc)|(have hd:=bA hc;have he:=bB hc)|(have hd:=ax hc)|(have hd:=ah hc)|skip));all_goals(try have hn:decide (0<t.length)=true:=ah (by omega));all_goals(try have hn:decide (0<t.length)=false:=ax (by omega)))
 all_goals simp only[Option.some.injEq,Prod.mk.injEq]at h
 all_goals obtain⟨rfl,rfl⟩:=h
 all_goals go_ret2
 all_goals exact⟨_,rfl,(by first|exact a8|exact Kd.aY _ _ _ _ _),From.out⟩
end P
namespace P
set_option maxHeartbeats 8000000
set_option maxRecDepth 100000
set_option synthInstance.maxHeartbeats 400000
set_option synthInstance.maxSize 100000
open Go.RowKit WW.bc WW.bY WW.bZ V
attribute [local go_sem] dB dC gT iV iW jI jJ
attribute [local go_sem] cP cT cS cW cR cV cQ cU
def bu.j0:Nat→Bool→List (ag)→Int→List Int→Int→Int→List (S64)→Int→Int→Int→Int→Option ((List (ag))×Int×List Int×Int×Int×(List (S64))×Int)
 |0,_,_,_,_,_,_,_,_,_,_,_=>none
 |k+1,aD,D,F,G,H,u,z,ad,ak,am,aC=>if aD=true then((eD.f D F G H u z).bind fun U=>(some (U.1,U.2.1,U.2.2.1,U.2.2.2.1,U.2.2.2.2.1,U.2.2.2.2.2,(-1))))else(if ad=1 then((mb.f k D F G H u z).bind fun I=>((iq.f I.2.2.2.2.2.2).bind fun ao=>(some (I.1,I.2.1,I.2.2.1,I.2.2.2.1,I.2.2.2.2.1,I.2.2.2.2.2.1,ao))))else(if ad=2 then((mf.f k D F G H u z ak).bind fun J=>((iq.f J.2.2.2.2.2.2).bind fun ap=>(some (J.1,J.2.1,J.2.2.1,J.2.2.2.1,J.2.2.2.2.1,J.2.2.2.2.2.1,ap))))else(if ad=3 then((l_.f k D F G H u z ak am aC).bind fun K=>((iq.f K.2.2.2.2.2.2).bind fun aq=>(some (K.1,K.2.1,K.2.2.1,K.2.2.2.1,K.2.2.2.2.1,K.2.2.2.2.2.1,aq))))else(if ad=4 then((ma.f k D F G H u z ak am).bind fun O=>((iq.f O.2.2.2.2.2.2).bind fun ar=>(some (O.1,O.2.1,O.2.2.1,O.2.2.2.1,O.2.2.2.2.1,O.2.2.2.2.2.1,ar))))else(if ad=5 then((eD.f D F G H u z).bind fun af=>((l9.f k z u).bind fun al=>((iq.f al.2).bind fun au=>(some (af.1,af.2.1,af.2.2.1,af.2.2.2.1,af.2.2.2.2.1,al.1,au)))))else(if ad=6 then((eD.f D F G H u z).bind fun V=>((gV.f k D F G H u z).bind fun av=>(some (V.1,V.2.1,V.2.2.1,V.2.2.2.1,V.2.2.2.2.1,V.2.2.2.2.2,av))))else((eD.f D F G H u z).bind fun X=>((gH.f k D F G H u z ak).bind fun aB=>(some (X.1,X.2.1,X.2.2.1,X.2.2.2.1,X.2.2.2.2.1,X.2.2.2.2.2,aB))))))))))
def bu.f (k:Nat) (J:List (ag)) (u:Int) (K:List Int) (z:Int) (D:Int) (O:List (S64)) (F:Int) (G:Int) (H:Int) (I:Int):Option ((List (ag))×Int×List Int×Int×Int×(List (S64))×Int):=(dV.f k J u K z D O).bind fun U=>(if U=true then((gf.f k F G H I).bind fun V=>(bu.j0 k (!V) J u K z D O F G H I))else(bu.j0 k true J u K z D O F G H I))
def bu.sN:Bool×List (List Nat×List Nat):=(true,[([],[]),([0],[0]),([],[]),([],[]),([3],[3]),([2,4,1],[2,4]),([1,5,0,1],[1]),([5,6,0,1,2,3,4,5,6],[5])])
def bu.wj:List Nat:=[0,1,0,0,8,31,63,127]
theorem bu.BS:aW .any (opsOf Tryz.f29 23)=bu.sN:=by kernel_rfl
theorem bu.xE:bL bu.sN.2 bu.wj=true:=by kernel_rfl
noncomputable def bu.T6:Bool×List (List Nat×List Nat):=aW .any (opsOf Tryz.f29 6)
def bu.B6:List Nat:=[0,0,2,7,15]
theorem bu.rX:aW .any (opsOf Tryz.f29 6)=bu.T6:=rfl
theorem bu.qY:bL bu.T6.2 bu.B6=true:=by kernel_rfl
noncomputable def bu.T9:Bool×List (List Nat×List Nat):=aW .any (opsOf Tryz.f29 9)
def bu.B9:List Nat:=[0,0,2,7,15]
theorem bu.mD:aW .any (opsOf Tryz.f29 9)=bu.T9:=rfl
theorem bu.lX:bL bu.T9.2 bu.B9=true:=by kernel_rfl
noncomputable def bu.nO:Bool×List (List Nat×List Nat):=aW .any (opsOf Tryz.f29 12)
def bu.qw:List Nat:=[0,0,2,7,15]
theorem bu.qg:aW .any (opsOf Tryz.f29 12)=bu.nO:=rfl
theorem bu.pj:bL bu.nO.2 bu.qw=true:=by kernel_rfl
noncomputable def bu.nP:Bool×List (List Nat×List Nat):=aW .any (opsOf Tryz.f29 15)
def bu.qx:List Nat:=[0,0,2,7,15]
theorem bu.qh:aW .any (opsOf Tryz.f29 15)=bu.nP:=rfl
theorem bu.pk:bL bu.nP.2 bu.qx=true:=by kernel_rfl
noncomputable def bu.nQ:Bool×List (List Nat×List Nat):=aW .any (opsOf Tryz.f29 20)
def bu.qy:List Nat:=[0,0,2,7,15]
theorem bu.rW:aW .any (opsOf Tryz.f29 20)=bu.nQ:=rfl
theorem bu.qX:bL bu.nQ.2 bu.qy=true:=by kernel_rfl
noncomputable def bu.sM:Bool×List (List Nat×List Nat):=aW .any (opsOf Tryz.f29 22)
def bu.wh:List Nat:=[0,1,0,7,15,31]
theorem bu.BR:aW .any (opsOf Tryz.f29 22)=bu.sM:=rfl
theorem bu.xD:bL bu.sM.2 bu.wh=true:=by kernel_rfl
theorem bu.c (k:Nat) (al:Option Addr) (aG:Nat) (X:List (ag)) (ap:Int) (am:Option Addr) (aH:Nat) (ad:List Int) (aq:Int) (ar:Int) (ao:Option Addr) (aI:Nat) (ak:List (S64)) (aB:Int) (aD:Int) (aE:Int) (aF:Int) (r1:List (ag)) (r2:Int) (r3:List Int) (aT:Int) (aU:Int) (aV:List (S64)) (aW:Int) (w:World) (aQ:Kd.C aN w al X.length X) (aL:X.length≤aG) (aR:Kd.C (Kd.int .i64) w am ad.length ad) (aO:ad.length≤aH) (aS:Kd.C aK w ao ak.length ak) (aP:ak.length≤aI) (h:bu.f k X ap ad aq ar ak aB aD aE aF=some (r1,r2,r3,aT,aU,aV,aW)):
  Calls Tryz.prog 29 #[.agg #[.slice al X.length aG,.int .i64 ap,.slice am ad.length aH,.int .i64 aq,.int .i64 ar,.slice ao ak.length aI],.agg #[.int .i64 aB,.int .i64 aD,.int .i64 aE,.int .i64 aF]] w fun e w'=>∃aZ a0 a1:Value,e= .returned (.tuple #[.agg #[aZ,.int .i64 r2,a0,.int .i64 aT,.int .i64 aU,a1],.int .i64 aW])∧Kd.R aN 110 w' w.heap.size (fun _=>True) aZ r1∧Kd.R (Kd.int .i64) 3 w' w.heap.size (fun _=>True) a0 r3∧Kd.R aK 64 w' w.heap.size (fun _=>True) a1 aV∧Below w.heap.size w w':=by
 replace aQ:=a6.mk aQ;replace aL:=af.mk aL;replace aR:=a6.mk aR;replace aO:=af.mk aO;replace aS:=a6.mk aS;replace aP:=af.mk aP;have a9:=bK.mk (d:=aN) (e:=110) (t:=3) (by decide);have a_:=bK.mk (d:=aN) (e:=110) (t:=30) (by decide);have bb:=bK.mk (d:=aN) (e:=110) (t:=57) (by decide);have bc:=bK.mk (d:=aK) (e:=64) (t:=3) (by decide);have bd:=bK.mk (d:=aK) (e:=64) (t:=30) (by decide);have be:=bK.mk (d:=aK) (e:=64) (t:=57) (by decide);unfold bu.f at h;have a4:=Tryz.underlying30;have a5:=Tryz.underlying57;have a7:=Tryz.underlying62
 all_goals go_enter Tryz.func29,Tryz.ntmps29
 all_goals go_wp2_with ((first
  |((with_reducible refine aC (N:=2) rfl ?_);refine bV #[.slice al X.length aG,.int .i64 ap,.slice am ad.length aH,.int .i64 aq,.int .i64 ar,.slice ao ak.length aI] 30 fun g w1 j1 j2 O=> ?_)
  |((with_reducible refine aC (N:=3) rfl ?_);refine bV #[.int .i64 aB,.int .i64 aD,.int .i64 aE,.int .i64 aF] 57 fun g w1 j1 j2 O=> ?_)
  |((with_reducible refine aC (N:=4) rfl ?_);refine bV #[.slice none 0 0,.int .i64 0,.slice none 0 0,.int .i64 0,.int .i64 0,.slice none 0 0] 30 fun g w1 j1 j2 O=> ?_)
  |((with_reducible refine aC (N:=6) rfl ?_);refine bV #[.slice none 0 0,.int .i64 0,.slice none 0 0,.int .i64 0,.int .i64 0,.slice none 0 0] 30 fun g w1 j1 j2 O=> ?_)
  |((with_reducible refine aC (N:=8) rfl ?_);refine bV #[.slice none 0 0,.int .i64 0,.slice none 0 0,.int .i64 0,.int .i64 0,.slice none 0 0] 30 fun g w1 j1 j2 O=> ?_)
  |((with_reducible refine aC (N:=10) rfl ?_);refine bV #[.slice none 0 0,.int .i64 0,.slice none 0 0,.int .i64 0,.int .i64 0,.slice none 0 0] 30 fun g w1 j1 j2 O=> ?_)
  |((with_reducible refine aC (N:=12) rfl ?_);refine bV #[.slice none 0 0,.int .i64 0,.slice none 0 0,.int .i64 0,.int .i64 0,.slice none 0 0] 30 fun g w1 j1 j2 O=> ?_)
  |((with_reducible refine aC (N:=14) rfl ?_);refine bV #[.slice none 0 0,.int .i64 0,.slice none 0 0,.int .i64 0,.int .i64 0,.slice none 0 0] 30 fun g w1 j1 j2 O=> ?_)
  |(go_at_call 28;(try rw[I.out]);replace h:=bI h;obtain⟨t,A,h⟩:=h;(try dsimp only at h);refine(dV.c _ _ _ _ _ _ _ _ _ _ _ _ _ _ _ Rd.out af.out Rd.out af.out Rd.out af.out A).mono ?_;rintro e w2 ⟨rfl,hb⟩;have H:=au.mk hb;clear A hb)
  |(go_at_call 59;(try rw[I.out]);replace h:=bI h;obtain⟨t,A,h⟩:=h;(try dsimp only at h);refine(gf.c _ _ _ _ _ _ _ A).mono ?_;rintro e w2 ⟨rfl,hb⟩;have H:=au.mk hb;clear A hb)
  |(go_at_call 27;(try rw[I.out]);replace h:=bI h;obtain⟨⟨t1,t2,t3,t4,t5,t6⟩,A,h⟩:=h;(try dsimp only at h);refine(eD.c _ _ _ _ _ _ _ _ _ _ _ _ _ _ _ _ _ _ _ Rd.out af.out Rd.out af.out Rd.out af.out A).mono ?_;rintro e w2 ⟨v0,v1,v2,rfl,z,D,F,hb⟩;obtain⟨J,b0,rfl,j0,q0⟩:=av z;obtain⟨B1,b1,rfl,j1,q1⟩:=av D;obtain⟨B2,b2,rfl,j2,q2⟩:=av F;have H:=au.mk hb;clear A z D F hb)
  |(go_at_call 60;(try rw[I.out]);replace h:=bI h;obtain⟨⟨t1,t2,t3,t4,t5,t6,t7⟩,A,h⟩:=h;(try dsimp only at h);refine(mb.c _ _ _ _ _ _ _ _ _ _ _ _ _ _ _ _ _ _ _ _ _ Rd.out af.out Rd.out af.out Rd.out af.out A).mono ?_;rintro e w2 ⟨v0,v1,v2,rfl,z,D,F,hb⟩;obtain⟨J,b0,rfl,j0,q0⟩:=av z;obtain⟨B1,b1,rfl,j1,q1⟩:=av D;obtain⟨B2,b2,rfl,j2,q2⟩:=av F;have H:=au.mk hb;clear A z D F hb)
  |(go_at_call 62;(try rw[I.out]);replace h:=bI h;obtain⟨⟨t1,t2,t3,t4,t5,t6,t7⟩,A,h⟩:=h;(try dsimp only at h);refine(mf.c _ _ _ _ _ _ _ _ _ _ _ _ _ _ _ _ _ _ _ _ _ _ Rd.out af.out Rd.out af.out Rd.out af.out A).mono ?_;rintro e w2 ⟨v0,v1,v2,rfl,z,D,F,hb⟩;obtain⟨J,b0,rfl,j0,q0⟩:=av z;obtain⟨B1,b1,rfl,j1,q1⟩:=av D;obtain⟨B2,b2,rfl,j2,q2⟩:=av F;have H:=au.mk hb;clear A z D F hb)
  |(go_at_call 63;(try rw[I.out]);replace h:=bI h;obtain⟨⟨t1,t2,t3,t4,t5,t6,t7⟩,A,h⟩:=h;(try dsimp only at h);refine(l_.c _ _ _ _ _ _ _ _ _ _ _ _ _ _ _ _ _ _ _ _ _ _ _ _ Rd.out af.out Rd.out af.out Rd.out af.out A).mono ?_;rintro e w2 ⟨v0,v1,v2,rfl,z,D,F,hb⟩;obtain⟨J,b0,rfl,j0,q0⟩:=av z;obtain⟨B1,b1,rfl,j1,q1⟩:=av D;obtain⟨B2,b2,rfl,j2,q2⟩:=av F;have H:=au.mk hb;clear A z D F hb)
  |(go_at_call 64;(try rw[I.out]);replace h:=bI h;obtain⟨⟨t1,t2,t3,t4,t5,t6,t7⟩,A,h⟩:=h;(try dsimp only at h);refine(ma.c _ _ _ _ _ _ _ _ _ _ _ _ _ _ _ _ _ _ _ _ _ _ _ Rd.out af.out Rd.out af.out Rd.out af.out A).mono ?_;rintro e w2 ⟨v0,v1,v2,rfl,z,D,F,hb⟩;obtain⟨J,b0,rfl,j0,q0⟩:=av z;obtain⟨B1,b1,rfl,j1,q1⟩:=av D;obtain⟨B2,b2,rfl,j2,q2⟩:=av F;have H:=au.mk hb;clear A z D F hb)
  |(go_at_call 65;(try rw[I.out]);replace h:=bI h;obtain⟨⟨t1,t2⟩,A,h⟩:=h;(try dsimp only at h);refine(l9.c _ _ _ _ _ _ _ _ Rd.out af.out A).mono ?_;rintro e w2 ⟨v0,rfl,z,hb⟩;obtain⟨J,b0,rfl,j0,q0⟩:=av z;have H:=au.mk hb;clear A z hb)
  |(refine qR (id:=6) (ds:=[3]) (l:= #[false,false,false,false,false]) bu.rX bu.qY ?_;intro u G w3 V u0 U hHeld;refine qA 1 (some 37) u ?_;refine qT 0 (some 36) u G hHeld ?_;replace h:=bI h;obtain⟨t,A,h⟩:=h;(try dsimp only at h);refine qC 2 38 Tryz.func61 u fun K hK=> ?_;refine(iq.c _ _ _ A).mono ?_;rintro e w2 ⟨rfl,n,rfl⟩;clear A;refine⟨_,rfl,hK _ _ From.out fun hHeld=> ?_⟩;clear hK K;refine qN ?_;refine qL 3 u ?_;refine qA 4 (some 5) u ?_;refine qD u ?_)
  |(refine qR (id:=9) (ds:=[3]) (l:= #[false,false,false,false,false]) bu.mD bu.lX ?_;intro u G w3 V u0 U hHeld;refine qA 1 (some 49) u ?_;refine qT 0 (some 48) u G hHeld ?_;replace h:=bI h;obtain⟨t,A,h⟩:=h;(try dsimp only at h);refine qC 2 50 Tryz.func61 u fun K hK=> ?_;refine(iq.c _ _ _ A).mono ?_;rintro e w2 ⟨rfl,n,rfl⟩;clear A;refine⟨_,rfl,hK _ _ From.out fun hHeld=> ?_⟩;clear hK K;refine qN ?_;refine qL 3 u ?_;refine qA 4 (some 5) u ?_;refine qD u ?_)
  |(refine qR (id:=12) (ds:=[3]) (l:= #[false,false,false,false,false]) bu.qg bu.pj ?_;intro u G w3 V u0 U hHeld;refine qA 1 (some 66) u ?_;refine qT 0 (some 65) u G hHeld ?_;replace h:=bI h;obtain⟨t,A,h⟩:=h;(try dsimp only at h);refine qC 2 67 Tryz.func61 u fun K hK=> ?_;refine(iq.c _ _ _ A).mono ?_;rintro e w2 ⟨rfl,n,rfl⟩;clear A;refine⟨_,rfl,hK _ _ From.out fun hHeld=> ?_⟩;clear hK K;refine qN ?_;refine qL 3 u ?_;refine qA 4 (some 5) u ?_;refine qD u ?_)
  |(refine qR (id:=15) (ds:=[3]) (l:= #[false,false,false,false,false]) bu.qh bu.pk ?_;intro u G w3 V u0 U hHeld;refine qA 1 (some 80) u ?_;refine qT 0 (some 79) u G hHeld ?_;replace h:=bI h;obtain⟨t,A,h⟩:=h;(try dsimp only at h);refine qC 2 81 Tryz.func61 u fun K hK=> ?_;refine(iq.c _ _ _ A).mono ?_;rintro e w2 ⟨rfl,n,rfl⟩;clear A;refine⟨_,rfl,hK _ _ From.out fun hHeld=> ?_⟩;clear hK K;refine qN ?_;refine qL 3 u ?_;refine qA 4 (some 5) u ?_;refine qD u ?_)
  |(refine qR (id:=20) (ds:=[3]) (l:= #[false,false,false,false,false]) bu.rW bu.qX ?_;intro u G w3 V u0 U hHeld;refine qA 1 (some 97) u ?_;refine qT 0 (some 96) u G hHeld ?_;replace h:=bI h;obtain⟨t,A,h⟩:=h;(try dsimp only at h);refine qC 2 98 Tryz.func61 u fun K hK=> ?_;refine(iq.c _ _ _ A).mono ?_;rintro e w2 ⟨rfl,n,rfl⟩;clear A;refine⟨_,rfl,hK _ _ From.out fun hHeld=> ?_⟩;clear hK K;refine qN ?_;refine qL 3 u ?_;refine qA 4 (some 5) u ?_;refine qD u ?_)
  |(refine qR (id:=22) (ds:=[4]) (l:= #[false,false,false,false,false,false]) bu.BR bu.xD ?_;intro u G w3 V u0 U hHeld;refine qT 0 (some 101) u G hHeld ?_;refine qT 2 (some 103) u G hHeld ?_;replace h:=bI h;obtain⟨⟨t1,t2,t3,t4,t5,t6⟩,A,h⟩:=h;(try dsimp only at h);refine qC 1 102 Tryz.func27 u fun K hK=> ?_;refine(eD.c _ _ _ _ _ _ _ _ _ _ _ _ _ _ _ _ _ _ _ Rd.out af.out Rd.out af.out Rd.out af.out A).mono ?_;rintro e w2 ⟨v0,v1,v2,rfl,z,D,F,hb⟩;obtain⟨J,b0,rfl,j0,q0⟩:=av z;obtain⟨B1,b1,rfl,j1,q1⟩:=av D;obtain⟨B2,b2,rfl,j2,q2⟩:=av F;have H:=au.mk hb;clear A z D F hb;refine⟨_,rfl,hK _ _ From.out fun hHeld=> ?_⟩;clear hK K;refine qN ?_;replace h:=bI h;obtain⟨t,A,h⟩:=h;(try dsimp only at h);refine qC 3 104 Tryz.func66 u fun K hK=> ?_;refine(gV.c _ _ _ _ _ _ _ _ _ _ _ _ _ _ _ Rd.out af.out Rd.out af.out Rd.out af.out A).mono ?_;rintro e w2 ⟨rfl,hb⟩;have H:=au.mk hb;clear A hb;refine⟨_,rfl,hK _ _ From.out fun hHeld=> ?_⟩;clear hK K;refine qN ?_;refine qL 4 u ?_;refine qA 5 (some 5) u ?_;refine qD u ?_)
  |(refine qR (id:=23) (ds:=[6]) (l:= #[false,false,false,false,false,false,false,false]) bu.BS bu.xE ?_;intro u G w3 V u0 U hHeld;refine qA 3 (some 108) u ?_;refine qT 0 (some 105) u G hHeld ?_;refine qT 2 (some 107) u G hHeld ?_;refine qT 4 (some 109) u G hHeld ?_;replace h:=bI h;obtain⟨⟨t1,t2,t3,t4,t5,t6⟩,A,h⟩:=h;(try dsimp only at h);refine qC 1 106 Tryz.func27 u fun K hK=> ?_;refine(eD.c _ _ _ _ _ _ _ _ _ _ _ _ _ _ _ _ _ _ _ Rd.out af.out Rd.out af.out Rd.out af.out A).mono ?_;rintro e w2 ⟨v0,v1,v2,rfl,z,D,F,hb⟩;obtain⟨J,b0,rfl,j0,q0⟩:=av z;obtain⟨B1,b1,rfl,j1,q1⟩:=av D;obtain⟨B2,b2,rfl,j2,q2⟩:=av F;have H:=au.mk hb;clear A z D F hb;refine⟨_,rfl,hK _ _ From.out fun hHeld=> ?_⟩;clear hK K;refine qN ?_;replace h:=bI h;obtain⟨t,A,h⟩:=h;(try dsimp only at h);refine qC 5 110 Tryz.func67 u fun K hK=> ?_;refine(gH.c _ _ _ _ _ _ _ _ _ _ _ _ _ _ _ _ Rd.out af.out Rd.out af.out Rd.out af.out A).mono ?_;rintro e w2 ⟨rfl,hb⟩;have H:=au.mk hb;clear A hb;refine⟨_,rfl,hK _ _ From.out fun hHeld=> ?_⟩;clear hK K;refine qN ?_;refine qL 6 u ?_;refine qA 7 (some 5) u ?_;refine qD u ?_));(repeat' first|((with_reducible replace h:=bC h);rcases h with ⟨hc,h⟩|⟨hc,h⟩<;>first|exact(bo h).elim|exact absurd hc (by decide)|subst hc|(replace hc:=aM hc;subst hc)|(replace hc:=bR hc;subst hc)|(replace hc:=bS hc;subst hc)|(have hd:(_==_)=true:=hc)|(have hd:(_==_)=false:=aM hc)|(have hd:=bw hc;have he:=bz hc;clear hc)|(have hd:=bA hc;have he:=bB hc)|(have hd:=ax hc)|(have hd:=ah hc;(try(have hn:=Int.natCast_pos.mp hc;have hm:=ah hn;replace hn:=aw hn));first|(obtain⟨a3,e_,i_⟩:=bQ (by assumption) (by first|assumption|decide) hc;cases e_)|(obtain⟨a2,e_,c_⟩:=bO (by assumption) (by first|assumption|decide) hc;cases e_))|(have hd:=ah hc)|skip)|((with_reducible have hj:bu.j0 k _ _ _ _ _ _ _ _ _ _ _=_:=h);clear hj;rcases k with _|k<;>rw[bu.j0]at h<;>first|exact(bo h).elim|skip)|((with_reducible replace h:=bP h);obtain⟨I,h⟩:=h;replace I:=A_ I;(try dsimp only at h))))
 all_goals simp only[Option.some.injEq,Prod.mk.injEq]at h
 all_goals obtain⟨rfl,rfl,rfl,rfl,rfl,rfl,rfl⟩:=h
 all_goals refine bodyPost_ret (dW rfl _ _ _ _ _ (0,0) _ rfl aJ.out Tryz.underlying30 rfl (by kernel_rfl)) rfl ?_
 all_goals exact⟨_,_,_,rfl,(by first|exact a8|exact Kd.aY _ _ _ _ _|exact bG|exact dD (by simp)),(by first|exact a8|exact Kd.aY _ _ _ _ _|exact bG|exact dD (by simp)),(by first|exact a8|exact Kd.aY _ _ _ _ _|exact bG|exact dD (by simp)),From.out⟩
mutual
def dw.j0:Nat→List (cd)→Bool→List (ag)→Int→List Int→Int→Int→List (S64)→Option ((List (ag))×Int×List Int×Int×Int×(List (S64))×List Int)
 |0,_,_,_,_,_,_,_,_=>none
 |k+1,x1,I,u,z,D,F,G,H=>if I=true then(some (u,z,D,F,G,H,([]:List Int)))else(dw.l0 k (([]:List Int)) x1 (x1.length:Int) 0 u z D F G H)
def dw.l0:Nat→List Int→List (cd)→Int→Int→List (ag)→Int→List Int→Int→Int→List (S64)→Option ((List (ag))×Int×List Int×Int×Int×(List (S64))×List Int)
 |0,_,_,_,_,_,_,_,_,_,_=>none
 |k+1,F,D,U,u,G,H,I,J,K,O=>if u<U then(if 0≤u then(if u<(D.length:Int)then((bu.f k G H I J K O ((iw D u).f0) ((iw D u).f1) ((iw D u).f2) ((iw D u).f3)).bind fun z=>(if F.length<17592186044416 then(dw.l0 k (F++[z.2.2.2.2.2.2]) D U (wrap64 (u+1)) z.1 z.2.1 z.2.2.1 z.2.2.2.1 z.2.2.2.2.1 z.2.2.2.2.2.1)else(none)))else(none))else(none))else(some (G,H,I,J,K,O,F))
end
def dw.f (k:Nat) (G:List (ag)) (z:Int) (H:List Int) (D:Int) (F:Int) (I:List (S64)) (l1:List (cd)):Option ((List (ag))×Int×List Int×Int×Int×(List (S64))×List Int):=(eD.f G z H D F I).bind fun u=>((dV.f k G z H D F I).bind fun J=>(if J=true then(dw.j0 k l1 (decide ((l1.length:Int)>40)) u.1 u.2.1 u.2.2.1 u.2.2.2.1 u.2.2.2.2.1 u.2.2.2.2.2)else(dw.j0 k l1 true u.1 u.2.1 u.2.2.1 u.2.2.2.1 u.2.2.2.2.1 u.2.2.2.2.2)))
theorem dw.c (k:Nat) (am:Option Addr) (aG:Nat) (X:List (ag)) (ar:Int) (ao:Option Addr) (aH:Nat) (ad:List Int) (aD:Int) (aE:Int) (ap:Option Addr) (aQ:Nat) (ak:List (S64)) (A1:Option Addr) (c1:Nat) (l1:List (cd)) (r1:List (ag)) (r2:Int) (r3:List Int) (a2:Int) (a3:Int) (a4:List (S64)) (a5:List Int) (w:World) (bU:Kd.C aN w am X.length X) (bH:X.length≤aG) (bW:Kd.C (Kd.int .i64) w ao ad.length ad) (bL:ad.length≤aH) (bX:Kd.C aK w ap ak.length ak) (bT:ak.length≤aQ) (hr1:Kd.C gZ w A1 l1.length l1) (hc1:l1.length≤c1) (h:dw.f k X ar ad aD aE ak l1=some (r1,r2,r3,a2,a3,a4,a5)):
  Calls Tryz.prog 9 #[.agg #[.slice am X.length aG,.int .i64 ar,.slice ao ad.length aH,.int .i64 aD,.int .i64 aE,.slice ap ak.length aQ],.slice A1 l1.length c1] w fun e w'=>∃b6 a_ b7 bb:Value,e= .returned (.tuple #[.agg #[b6,.int .i64 r2,a_,.int .i64 a2,.int .i64 a3,b7],bb])∧Kd.R aN 110 w' w.heap.size (fun _=>True) b6 r1∧Kd.R (Kd.int .i64) 3 w' w.heap.size (fun k_=>some k_≠(bb:Value).ownBlock) a_ r3∧Kd.R aK 64 w' w.heap.size (fun _=>True) b7 a4∧Kd.R (Kd.int .i64) 3 w' w.heap.size (fun k_=>some k_≠(a_:Value).ownBlock) bb a5∧Below w.heap.size w w':=by
 have cB:=a6.mk bU;have cx:=af.mk bH;have cC:=a6.mk bW;have cy:=af.mk bL;have cD:=a6.mk bX;have cz:=af.mk bT;have cE:=a6.mk hr1;have cA:=af.mk hc1;clear bU bH bW bL bX bT hr1 hc1;have cO:=bK.mk (d:=(Kd.int .i64)) (e:=3) (t:=30) (by decide);have cP:=bK.mk (d:=(Kd.int .i64)) (e:=3) (t:=57) (by decide);have cM:=bK.mk (d:=aN) (e:=110) (t:=30) (by decide);have cN:=bK.mk (d:=aN) (e:=110) (t:=57) (by decide);have cQ:=bK.mk (d:=aK) (e:=64) (t:=30) (by decide);have cR:=bK.mk (d:=aK) (e:=64) (t:=57) (by decide);have cK:=ij.mk (e:=3) (t:=30) (by decide);have cL:=ij.mk (e:=3) (t:=57) (by decide);unfold dw.f at h
 (try simp only[az]at h)
 have ct:=Tryz.underlying30;have cw:=Tryz.underlying57
 all_goals go_enter Tryz.func9,Tryz.ntmps9
 all_goals go_wp2_with ((first
  |((with_reducible refine aC (N:=2) rfl ?_);refine bV #[.slice am X.length aG,.int .i64 ar,.slice ao ad.length aH,.int .i64 aD,.int .i64 aE,.slice ap ak.length aQ] 30 fun g2 w1 K O U=> ?_)
  |((with_reducible refine aC (N:=4) rfl ?_);refine bV #[.slice none 0 0,.int .i64 0,.slice none 0 0,.int .i64 0,.int .i64 0,.slice none 0 0] 30 fun g4 w1 K O U=> ?_)
  |((with_reducible refine aC (N:=6) rfl ?_);refine bV #[.slice none 0 0,.int .i64 0,.slice none 0 0,.int .i64 0,.int .i64 0,.slice none 0 0] 30 fun g6 w1 K O U=> ?_)
  |((with_reducible refine aC (N:=9) rfl ?_);refine bV #[.int .i64 0,.int .i64 0,.int .i64 0,.int .i64 0] 57 fun g9 w1 K O U=> ?_)
  |((with_reducible refine aC (N:=10) rfl ?_);refine bV #[.slice none 0 0,.int .i64 0,.slice none 0 0,.int .i64 0,.int .i64 0,.slice none 0 0] 30 fun g10 w1 K O U=> ?_)
  |((with_reducible refine aC (N:=23) rfl ?_);refine Kd.dR (Kd.int .i64) _ 3 ?hg (N:=23) ?hd (xs:=([]:List Int)) (inner:=[]) (ok:=fun _=>True) (bD:=fun _=>True) ?hr ?hp (fun _ hk=>hk) trivial (Below.refl _ _) (Nat.le_refl _) (by simp) ?_;(case hd=>rfl);(case hg=>rfl);(case hr=>first|(go_simp;done)|(go_simp;rfl));(case hp=>exact(aI.none _ _));intro v5 cg ho hb aW aZ;obtain⟨b8,c5,rfl⟩:=Kd.cJ ho;have a0:=dt.mk ho;have q5:=af.mk (ia a0);have b_:=au.mk hb;clear aW aZ ho hb)
  |(go_at_call 27;(try rw[G.out]);replace h:=bI h;obtain⟨⟨t1,t2,t3,t4,t5,t6⟩,A,h⟩:=h;(try dsimp only at h);refine(eD.c _ _ _ _ _ _ _ _ _ _ _ _ _ _ _ _ _ _ _ Rd.out af.out Rd.out af.out Rd.out af.out A).mono ?_;rintro e w2 ⟨v0,v1,v2,rfl,H,I,J,hb⟩;obtain⟨aq,b0,rfl,j0,q0⟩:=av H;obtain⟨B1,b1,rfl,j1,q1⟩:=av I;obtain⟨B2,b2,rfl,j2,q2⟩:=av J;have aR:=au.mk hb;clear A H I J hb)
  |(go_at_call 28;(try rw[G.out]);replace h:=bI h;obtain⟨t,A,h⟩:=h;(try dsimp only at h);refine(dV.c _ _ _ _ _ _ _ _ _ _ _ _ _ _ _ Rd.out af.out Rd.out af.out Rd.out af.out A).mono ?_;rintro e w2 ⟨rfl,hb⟩;have aR:=au.mk hb;clear A hb)
  |(go_at_call 29;(try rw[G.out]);replace h:=bI h;obtain⟨⟨t1,t2,t3,t4,t5,t6,t7⟩,A,h⟩:=h;(try dsimp only at h);refine(bu.c _ _ _ _ _ _ _ _ _ _ _ _ _ _ _ _ _ _ _ _ _ _ _ _ _ Rd.out af.out Rd.out af.out Rd.out af.out A).mono ?_;rintro e w2 ⟨v0,v1,v2,rfl,H,I,J,hb⟩;obtain⟨aq,b0,rfl,j0,q0⟩:=av H;obtain⟨B1,b1,rfl,j1,q1⟩:=av I;obtain⟨B2,b2,rfl,j2,q2⟩:=av J;have aR:=au.mk hb;clear A H I J hb)
  |((with_reducible refine fI (b:= .append) (xs:= #[.tmp 37,.tmp 39]) rfl ?_);(try(refine iY (by rfl) ?_;dsimp only));at_builtin;refine Kd.gS (Kd.int .i64) (w0:=w) w.heap.size rfl (.tmp 37) (.tmp 39) 25 3 (.int .i64 0) 8 rfl Tryz.underlying25 info3 rfl (by decide) (by omega) (.slice bm al.length bE) al t7 [.int .i64 t7] (fun _=>True) (fun _=>False) rfl (by first|(go_simp;done)|(go_simp;rfl)) ?aP (fun _ hk=>hk.elim) ?aF ?aO ?aB ?aS ?aL ?_;(case aP=>exact rfl);(case aO=>exact bG);(case aB=>exact From.out);(case aF=>exact(fun _ _=>trivial));(case aS=>exact(From.out (w0:=w)).size);(case aL=>omega);intro v7 w7 ho hb hg hat;have cc:=pG hg;obtain⟨b9,c7,rfl⟩:=Kd.cJ ho;have ce:=pM j0 hg;have a1:=py j1 hat;have ca:=pz a1;have b':=At.mk ho;have cb:From w w7:=⟨hb⟩;have cf:Sz w w7:=⟨hb.size⟩;clear ho hb hg hat));(repeat' first|((with_reducible replace h:=bC h);rcases h with ⟨hc,h⟩|⟨hc,h⟩<;>first|exact(bo h).elim|exact absurd hc (by decide)|subst hc|(replace hc:=aM hc;subst hc)|(replace hc:=bR hc;subst hc)|(replace hc:=bS hc;subst hc)|(have hd:(_==_)=true:=hc)|(have hd:(_==_)=false:=aM hc)|(have hd:=bw hc;have he:=bz hc;clear hc)|(have hd:=bA hc;have he:=bB hc)|(have hd:=ax hc)|(have hd:=ah hc;(try(have hn:=Int.natCast_pos.mp hc;have hm:=ah hn;replace hn:=aw hn));first|(have hz:=bQ (by assumption) (by first|assumption|decide) hc;obtain⟨bF,e_,i_⟩:=hz;cases e_)|(have hz:=bO (by assumption) (by first|assumption|decide) hc;obtain⟨V,e_,c_⟩:=hz;cases e_)|(have hz:=gF (a6.out (self:=by assumption)) _ (by first|assumption|decide) hc;obtain⟨V,e_,u,z,D,F⟩:=hz;cases e_;replace u:=bj.mk u;replace z:=bj.mk z;replace D:=bj.mk D;replace F:=bj.mk F)|(have hz:=gF (a6.out (self:=by assumption)) _ hc (by assumption);obtain⟨V,e_,u,z,D,F⟩:=hz;cases e_;replace u:=bj.mk u;replace z:=bj.mk z;replace D:=bj.mk D;replace F:=bj.mk F))|(have hd:=ah hc)|skip)|((with_reducible have hj:dw.j0 k _ _ _ _ _ _ _ _=_:=h);clear hj;rcases k with _|k<;>rw[dw.j0]at h<;>first|exact(bo h).elim|skip)|((with_reducible replace h:=bP h);obtain⟨G,h⟩:=h;replace G:=A_ G;(try dsimp only at h))))
 all_goals first
  |((try simp only[Option.some.injEq,Prod.mk.injEq]at h);(try obtain⟨rfl,rfl,rfl,rfl,rfl,rfl,rfl⟩:=h);refine bodyPost_ret (dW rfl _ _ _ _ _ (0,0) _ rfl aJ.out Tryz.underlying30 rfl (by kernel_rfl)) rfl ?_;exact⟨_,_,_,_,rfl,(by first|exact a8|exact bN rfl|exact bN (by simp)|exact Kd.aY _ _ _ _ _|exact bG|exact dD (by simp)),(by first|exact Kd.aY _ _ _ _ _|exact gG (ok:=fun _=>True) (by first|exact a8|exact bG|exact gD (by simp)|exact bN (by simp))),(by first|exact a8|exact bN rfl|exact bN (by simp)|exact Kd.aY _ _ _ _ _|exact bG|exact dD (by simp)),(by first|exact Kd.aY _ _ _ _ _|exact gG (ok:=fun _=>True) (by first|exact a8|exact bG|exact gD (by simp)|exact bN (by simp))),From.out⟩)
  |(exfalso;simp at hd;omega)
  |skip
 go_loopg [7,26] k (fun bY v7 v26 w'=>∃(al:List Int) (bl:Int) (bc:List (ag)) (bd:Int) (be:List Int) (bf:Int) (bg:Int) (bk:List (S64)) (a7:Value) (aT:Value) (a9:Value),v26= .int .i64 bl∧ae (dw.l0 bY al l1 (l1.length:Int) bl bc bd be bf bg bk=some (r1,r2,r3,a2,a3,a4,a5))∧ae (bY≤k)∧ae (Kd.R (Kd.int .i64) 3 w' w.heap.size (fun k_=>some k_≠(aT:Value).ownBlock) v7 al)∧ae (Kd.R aN 110 w' w.heap.size (fun _=>True) a7 bc)∧ae (Kd.R (Kd.int .i64) 3 w' w.heap.size (fun k_=>some k_≠(v7:Value).ownBlock) aT be)∧ae (Kd.R aK 64 w' w.heap.size (fun _=>True) a9 bk)∧ae (w'.heap[g2]? =some (.cells #[(.slice am X.length aG),.int .i64 ar,(.slice ao ad.length aH),.int .i64 aD,.int .i64 aE,(.slice ap ak.length aQ)] 30 (0,0)))∧ae (w'.heap[g4]? =some (.cells #[(.slice none 0 0),.int .i64 0,(.slice none 0 0),.int .i64 0,.int .i64 0,(.slice none 0 0)] 30 (0,0)))∧ae (w'.heap[g6]? =some (.cells #[a7,.int .i64 bd,aT,.int .i64 bf,.int .i64 bg,a9] 30 (0,0)))∧ae (Below w.heap.size w w'))
 case atStart=>exact⟨_,_,_,_,_,_,_,_,(.slice aq t1.length b0),(.slice B1 t3.length b1),(.slice B2 t6.length b2),(by first|rfl|(simp;done)),⟨h⟩,⟨Nat.le_refl _⟩,⟨gG (ok:=fun _=>True) (by first|exact a8|exact bG|exact gD (by simp)|exact bN (by simp))⟩,⟨by first|exact a8|exact bN rfl|exact bN (by simp)|exact Kd.aY _ _ _ _ _⟩,⟨gG (ok:=fun _=>True) (by first|exact a8|exact bG|exact gD (by simp)|exact bN (by simp))⟩,⟨by first|exact a8|exact bN rfl|exact bN (by simp)|exact Kd.aY _ _ _ _ _⟩,⟨aJ.out⟩,⟨aJ.out⟩,⟨aJ.out⟩,⟨From.out⟩⟩
 case round=>
  clear h;obtain⟨al,bl,bc,bd,be,bf,bg,bk,a7,aT,a9,rfl,aU,br,bx,bs,bt,bv,bn,bp,bq,aV⟩:=hrel;rcases gk with _|k1
  ·exact absurd aU.out (by simp[dw.l0])
  have h:=aU.out;clear aU;simp only[dw.l0]at h;obtain⟨bm,bE,rfl,cF,cS,bZ⟩:=jF bx.out;clear bx;obtain⟨ch,cp,rfl,cG,cT,b3⟩:=jF bs.out;clear bs;obtain⟨ci,cq,rfl,cH,cU,b4⟩:=jF bt.out;clear bt;obtain⟨cj,cr,rfl,cI,cV,b5⟩:=jF bv.out;clear bv;have ck:=aJ.mk bn.out;clear bn;have cl:=aJ.mk bp.out;clear bp;have cm:=aJ.mk bq.out;clear bq;have cn:From w wr:=⟨aV.out⟩;have co:Sz w wr:=⟨aV.out.size⟩;clear aV
  (try have d90:=lB bZ);(try have d91:=lB b3);(try have d92:=lB b4);(try have d93:=lB b5);clear bZ b3 b4 b5
  (repeat' first|((with_reducible replace h:=bC h);rcases h with ⟨hc,h⟩|⟨hc,h⟩<;>first|exact(bo h).elim|exact absurd hc (by decide)|subst hc|(replace hc:=aM hc;subst hc)|(replace hc:=bR hc;subst hc)|(replace hc:=bS hc;subst hc)|(have hd:(_==_)=true:=hc)|(have hd:(_==_)=false:=aM hc)|(have hd:=bw hc;have he:=bz hc;clear hc)|(have hd:=bA hc;have he:=bB hc)|(have hd:=ax hc)|(have hd:=ah hc;(try(have hn:=Int.natCast_pos.mp hc;have hm:=ah hn;replace hn:=aw hn));first|(have hz:=bQ (by assumption) (by first|assumption|decide) hc;obtain⟨bF,e_,i_⟩:=hz;cases e_)|(have hz:=bO (by assumption) (by first|assumption|decide) hc;obtain⟨V,e_,c_⟩:=hz;cases e_)|(have hz:=gF (a6.out (self:=by assumption)) _ (by first|assumption|decide) hc;obtain⟨V,e_,u,z,D,F⟩:=hz;cases e_;replace u:=bj.mk u;replace z:=bj.mk z;replace D:=bj.mk D;replace F:=bj.mk F)|(have hz:=gF (a6.out (self:=by assumption)) _ hc (by assumption);obtain⟨V,e_,u,z,D,F⟩:=hz;cases e_;replace u:=bj.mk u;replace z:=bj.mk z;replace D:=bj.mk D;replace F:=bj.mk F))|(have hd:=ah hc)|skip)|((with_reducible have hj:dw.j0 k _ _ _ _ _ _ _ _=_:=h);clear hj;rcases k with _|k<;>rw[dw.j0]at h<;>first|exact(bo h).elim|skip)|((with_reducible replace h:=bP h);obtain⟨G,h⟩:=h;replace G:=A_ G;(try dsimp only at h)))
  all_goals go_wp2_with ((first
   |((with_reducible refine aC (N:=2) rfl ?_);refine bV #[.slice am X.length aG,.int .i64 ar,.slice ao ad.length aH,.int .i64 aD,.int .i64 aE,.slice ap ak.length aQ] 30 fun g2 w1 K O U=> ?_)
   |((with_reducible refine aC (N:=4) rfl ?_);refine bV #[.slice none 0 0,.int .i64 0,.slice none 0 0,.int .i64 0,.int .i64 0,.slice none 0 0] 30 fun g4 w1 K O U=> ?_)
   |((with_reducible refine aC (N:=6) rfl ?_);refine bV #[.slice none 0 0,.int .i64 0,.slice none 0 0,.int .i64 0,.int .i64 0,.slice none 0 0] 30 fun g6 w1 K O U=> ?_)
   |((with_reducible refine aC (N:=9) rfl ?_);refine bV #[.int .i64 0,.int .i64 0,.int .i64 0,.int .i64 0] 57 fun g9 w1 K O U=> ?_)
   |((with_reducible refine aC (N:=10) rfl ?_);refine bV #[.slice none 0 0,.int .i64 0,.slice none 0 0,.int .i64 0,.int .i64 0,.slice none 0 0] 30 fun g10 w1 K O U=> ?_)
   |((with_reducible refine aC (N:=23) rfl ?_);refine Kd.dR (Kd.int .i64) _ 3 ?hg (N:=23) ?hd (xs:=([]:List Int)) (inner:=[]) (ok:=fun _=>True) (bD:=fun _=>True) ?hr ?hp (fun _ hk=>hk) trivial (Below.refl _ _) (Nat.le_refl _) (by simp) ?_;(case hd=>rfl);(case hg=>rfl);(case hr=>first|(go_simp;done)|(go_simp;rfl));(case hp=>exact(aI.none _ _));intro v5 cg ho hb aW aZ;obtain⟨b8,c5,rfl⟩:=Kd.cJ ho;have a0:=dt.mk ho;have q5:=af.mk (ia a0);have b_:=au.mk hb;clear aW aZ ho hb)
   |(go_at_call 27;(try rw[G.out]);replace h:=bI h;obtain⟨⟨t1,t2,t3,t4,t5,t6⟩,A,h⟩:=h;(try dsimp only at h);refine(eD.c _ _ _ _ _ _ _ _ _ _ _ _ _ _ _ _ _ _ _ Rd.out af.out Rd.out af.out Rd.out af.out A).mono ?_;rintro e w2 ⟨v0,v1,v2,rfl,H,I,J,hb⟩;obtain⟨aq,b0,rfl,j0,q0⟩:=av H;obtain⟨B1,b1,rfl,j1,q1⟩:=av I;obtain⟨B2,b2,rfl,j2,q2⟩:=av J;have aR:=au.mk hb;clear A H I J hb)
   |(go_at_call 28;(try rw[G.out]);replace h:=bI h;obtain⟨t,A,h⟩:=h;(try dsimp only at h);refine(dV.c _ _ _ _ _ _ _ _ _ _ _ _ _ _ _ Rd.out af.out Rd.out af.out Rd.out af.out A).mono ?_;rintro e w2 ⟨rfl,hb⟩;have aR:=au.mk hb;clear A hb)
   |(go_at_call 29;(try rw[G.out]);replace h:=bI h;obtain⟨⟨t1,t2,t3,t4,t5,t6,t7⟩,A,h⟩:=h;(try dsimp only at h);refine(bu.c _ _ _ _ _ _ _ _ _ _ _ _ _ _ _ _ _ _ _ _ _ _ _ _ _ Rd.out af.out Rd.out af.out Rd.out af.out A).mono ?_;rintro e w2 ⟨v0,v1,v2,rfl,H,I,J,hb⟩;obtain⟨aq,b0,rfl,j0,q0⟩:=av H;obtain⟨B1,b1,rfl,j1,q1⟩:=av I;obtain⟨B2,b2,rfl,j2,q2⟩:=av J;have aR:=au.mk hb;clear A H I J hb)
   |((with_reducible refine fI (b:= .append) (xs:= #[.tmp 37,.tmp 39]) rfl ?_);(try(refine iY (by rfl) ?_;dsimp only));at_builtin;refine Kd.gS (Kd.int .i64) (w0:=w) w.heap.size rfl (.tmp 37) (.tmp 39) 25 3 (.int .i64 0) 8 rfl Tryz.underlying25 info3 rfl (by decide) (by omega) (.slice bm al.length bE) al t7 [.int .i64 t7] (fun _=>True) (fun _=>False) rfl (by first|(go_simp;done)|(go_simp;rfl)) ?aP (fun _ hk=>hk.elim) ?aF ?aO ?aB ?aS ?aL ?_;(case aP=>exact rfl);(case aO=>exact bG);(case aB=>exact From.out);(case aF=>exact(fun _ _=>trivial));(case aS=>exact(From.out (w0:=w)).size);(case aL=>omega);intro v7 w7 ho hb hg hat;have cc:=pG hg;obtain⟨b9,c7,rfl⟩:=Kd.cJ ho;have ce:=pM j0 hg;have a1:=py j1 hat;have ca:=pz a1;have b':=At.mk ho;have cb:From w w7:=⟨hb⟩;have cf:Sz w w7:=⟨hb.size⟩;clear ho hb hg hat));(repeat' first|((with_reducible replace h:=bC h);rcases h with ⟨hc,h⟩|⟨hc,h⟩<;>first|exact(bo h).elim|exact absurd hc (by decide)|subst hc|(replace hc:=aM hc;subst hc)|(replace hc:=bR hc;subst hc)|(replace hc:=bS hc;subst hc)|(have hd:(_==_)=true:=hc)|(have hd:(_==_)=false:=aM hc)|(have hd:=bw hc;have he:=bz hc;clear hc)|(have hd:=bA hc;have he:=bB hc)|(have hd:=ax hc)|(have hd:=ah hc;(try(have hn:=Int.natCast_pos.mp hc;have hm:=ah hn;replace hn:=aw hn));first|(have hz:=bQ (by assumption) (by first|assumption|decide) hc;obtain⟨bF,e_,i_⟩:=hz;cases e_)|(have hz:=bO (by assumption) (by first|assumption|decide) hc;obtain⟨V,e_,c_⟩:=hz;cases e_)|(have hz:=gF (a6.out (self:=by assumption)) _ (by first|assumption|decide) hc;obtain⟨V,e_,u,z,D,F⟩:=hz;cases e_;replace u:=bj.mk u;replace z:=bj.mk z;replace D:=bj.mk D;replace F:=bj.mk F)|(have hz:=gF (a6.out (self:=by assumption)) _ hc (by assumption);obtain⟨V,e_,u,z,D,F⟩:=hz;cases e_;replace u:=bj.mk u;replace z:=bj.mk z;replace D:=bj.mk D;replace F:=bj.mk F))|(have hd:=ah hc)|skip)|((with_reducible have hj:dw.j0 k _ _ _ _ _ _ _ _=_:=h);clear hj;rcases k with _|k<;>rw[dw.j0]at h<;>first|exact(bo h).elim|skip)|((with_reducible replace h:=bP h);obtain⟨G,h⟩:=h;replace G:=A_ G;(try dsimp only at h))))
  all_goals first
   |(go_roundg k1;(case measure=>have:=br.out;omega);(case rel=>exact⟨_,_,_,_,_,_,_,_,(.slice aq t1.length b0),(.slice B1 t3.length b1),(.slice B2 t6.length b2),(by first|rfl|(simp;done)),⟨h⟩,⟨by have:=br.out;omega⟩,⟨gG (ok:=fun _=>True) (by first|exact a8|exact bG|exact gD (by simp)|exact bN (by simp))⟩,⟨by first|exact a8|exact bN rfl|exact bN (by simp)|exact Kd.aY _ _ _ _ _⟩,⟨gG (ok:=fun _=>True) (by first|exact a8|exact bG|exact gD (by simp)|exact bN (by simp))⟩,⟨by first|exact a8|exact bN rfl|exact bN (by simp)|exact Kd.aY _ _ _ _ _⟩,⟨aJ.out⟩,⟨aJ.out⟩,⟨aJ.out⟩,⟨From.out⟩⟩))
   |((try simp only[Option.some.injEq,Prod.mk.injEq]at h);(try obtain⟨rfl,rfl,rfl,rfl,rfl,rfl,rfl⟩:=h);refine bodyPost_ret (dW rfl _ _ _ _ _ (0,0) _ rfl aJ.out Tryz.underlying30 rfl (by kernel_rfl)) rfl ?_;exact⟨_,_,_,_,rfl,(by first|exact a8|exact bN rfl|exact bN (by simp)|exact Kd.aY _ _ _ _ _|exact bG|exact dD (by simp)),(by first|exact Kd.aY _ _ _ _ _|exact gG (ok:=fun _=>True) (by first|exact a8|exact bG|exact gD (by simp)|exact bN (by simp))),(by first|exact a8|exact bN rfl|exact bN (by simp)|exact Kd.aY _ _ _ _ _|exact bG|exact dD (by simp)),(by first|exact Kd.aY _ _ _ _ _|exact gG (ok:=fun _=>True) (by first|exact a8|exact bG|exact gD (by simp)|exact bN (by simp))),From.out⟩)
end P

end Go.Proofs.YtnjfiaekdcekgaaGreatDoor
