/- What functions of the program come to (f), that their calls come to just this (calls), and the plain laws over lists and numbers. No condition but those of the given row. -/
import Derived.Test.YtnjfiaekdcekgaaGreatDoorE3
set_option linter.unusedVariables false
set_option linter.unusedSimpArgs false
namespace Go.Proofs.YtnjfiaekdcekgaaGreatDoor
namespace P
set_option maxHeartbeats 8000000
set_option maxRecDepth 100000
set_option synthInstance.maxHeartbeats 400000
set_option synthInstance.maxSize 100000
open Go.RowKit WW.bc WW.bY WW.bZ V
attribute [local go_sem] dB dC gT iV iW jI jJ
attribute [local go_sem] cP cT cS cW cR cV cQ cU
def bT.l0:Nat→Int→Int→List Int→Int→Int→List (ag)→Int→List Int→Int→Int→List (S64)→Option ((List (ag))×Int×List Int×Int×Int×(List (S64))×Int×Int)
 |0,_,_,_,_,_,_,_,_,_,_,_=>none
 |k+1,I,ad,z,ap,aq,J,K,O,U,V,X=>if ad<I then((ct.f z ap aq 8).bind fun u=>(if u.1=0 then((ct.f z u.2.1 u.2.2 30).bind fun ak=>((ky.f k J K O U V X ak.1).bind fun D=>(bT.l0 k I (wrap64 (ad+1)) z ak.2.1 ak.2.2 D.1 D.2.1 D.2.2.1 D.2.2.2.1 D.2.2.2.2.1 D.2.2.2.2.2.1)))else(if u.1=1 then((lL.f z u.2.1 u.2.2).bind fun af=>((ct.f z af.2.2.1 af.2.2.2 3).bind fun al=>((kr.f k J K O U V X af.1 af.2.1 al.1).bind fun F=>(bT.l0 k I (wrap64 (ad+1)) z al.2.1 al.2.2 F.1 F.2.1 F.2.2.1 F.2.2.2.1 F.2.2.2.2.1 F.2.2.2.2.2.1))))else(if u.1=2 then((ct.f z u.2.1 u.2.2 12).bind fun am=>((ct.f z am.2.1 am.2.2 2001).bind fun ao=>((ku.f k J K O U V X am.1 (wrap64 (ao.1-1000))).bind fun G=>(bT.l0 k I (wrap64 (ad+1)) z ao.2.1 ao.2.2 G.1 G.2.1 G.2.2.1 G.2.2.2.1 G.2.2.2.2.1 G.2.2.2.2.2.1))))else((kv.f k J K O U V X).bind fun H=>(bT.l0 k I (wrap64 (ad+1)) z u.2.1 u.2.2 H.1 H.2.1 H.2.2.1 H.2.2.2.1 H.2.2.2.2.1 H.2.2.2.2.2.1))))))else(some (J,K,O,U,V,X,ap,aq))
def bT.f (k:Nat) (z:List Int) (H:Int) (I:Int):Option ((List (ag))×Int×List Int×Int×Int×(List (S64))×Int×Int):=(ct.f z H I 100000).bind fun D=>((e5.f k z D.2.1 D.2.2).bind fun F=>((kp.f k (wrap64 (200000+D.1)) F.1).bind fun u=>((ct.f z F.2.1 F.2.2 20).bind fun G=>(bT.l0 k G.1 0 z G.2.1 G.2.2 u.1 u.2.1 u.2.2.1 u.2.2.2.1 u.2.2.2.2.1 u.2.2.2.2.2.1))))
def bT.T9:Bool×List (List Nat×List Nat):=(true,[([],[]),([],[]),([1],[1]),([0,2,2],[0,2]),([3],[3]),([4],[4]),([4],[4]),([5,3,0,1,2,3,4,5],[5])])
def bT.B9:List Nat:=[0,0,2,7,15,31,31,63]
theorem bT.mD:aW .any (opsOf Tryz.f50 9)=bT.T9:=by kernel_rfl
theorem bT.lX:bL bT.T9.2 bT.B9=true:=by kernel_rfl
def bT.nO:Bool×List (List Nat×List Nat):=(true,[([],[]),([],[]),([],[]),([2],[2]),([0,1,3,3],[0,1,3]),([4],[4]),([5],[5]),([5],[5]),([6,4,0,1,2,3,4,5,6],[6])])
def bT.qw:List Nat:=[0,0,0,4,15,31,63,63,127]
theorem bT.qg:aW .any (opsOf Tryz.f50 12)=bT.nO:=by kernel_rfl
theorem bT.pj:bL bT.nO.2 bT.qw=true:=by kernel_rfl
def bT.nP:Bool×List (List Nat×List Nat):=(true,[([],[]),([],[]),([],[]),([2],[2]),([3],[3]),([0,1,4,3],[0,1,4]),([5],[5]),([6],[6]),([6],[6]),([7,5,0,1,2,3,4,5,6,7],[7])])
def bT.qx:List Nat:=[0,0,0,4,12,31,63,127,127,255]
theorem bT.qh:aW .any (opsOf Tryz.f50 15)=bT.nP:=by kernel_rfl
theorem bT.pk:bL bT.nP.2 bT.qx=true:=by kernel_rfl
theorem bT.c (k:Nat) (g:Nat) (al:List Int) (a6:Int) (a7:Int) (r1:List (ag)) (r2:Int) (r3:List Int) (ap:Int) (aq:Int) (ar:List (S64)) (aB:Int) (aD:Int) (w0 w:World) (hI:aX w0 w g al a6 a7) (hB:Below w0.heap.size w0 w) (h:bT.f k al a6 a7=some (r1,r2,r3,ap,aq,ar,aB,aD)):
  Calls Tryz.prog 50 #[.pointer (some ⟨g,0,none⟩)] w fun e w'=>∃a9 a_ bb:Value,e= .returned (.agg #[a9,.int .i64 r2,a_,.int .i64 ap,.int .i64 aq,bb])∧Kd.R aN 110 w' w.heap.size (fun _=>True) a9 r1∧Kd.R (Kd.int .i64) 3 w' w.heap.size (fun _=>True) a_ r3∧Kd.R aK 64 w' w.heap.size (fun _=>True) bb ar∧aX w0 w' g al aB aD∧Below w0.heap.size w0 w'∧bh w w' g none:=by
 replace hI:=St.mk hI;have iS:Sz w0 w:=⟨hB.size⟩;replace hB:=From.mk hB;have bD:=ij.mk (e:=30) (t:=82) (by decide);have bE:=ij.mk (e:=62) (t:=82) (by decide);have bN:=bK.mk (d:=(Kd.int .i64)) (e:=3) (t:=30) (by decide);have bU:=bK.mk (d:=(Kd.int .i64)) (e:=3) (t:=62) (by decide);have bW:=bK.mk (d:=(Kd.int .i64)) (e:=3) (t:=82) (by decide);have bF:=bK.mk (d:=aN) (e:=110) (t:=30) (by decide);have bH:=bK.mk (d:=aN) (e:=110) (t:=62) (by decide);have bL:=bK.mk (d:=aN) (e:=110) (t:=82) (by decide);have bX:=bK.mk (d:=aK) (e:=64) (t:=30) (by decide);have bY:=bK.mk (d:=aK) (e:=64) (t:=62) (by decide);have bZ:=bK.mk (d:=aK) (e:=64) (t:=82) (by decide);unfold bT.f at h
 (try simp only[az]at h)
 have bs:=Tryz.underlying30;have bt:=Tryz.underlying62
 all_goals go_enter Tryz.func50,Tryz.ntmps50
 all_goals go_wp2_with ((first
  |((with_reducible refine aC (N:=2) rfl ?_);refine bV #[.slice none 0 0,.int .i64 0,.slice none 0 0,.int .i64 0,.int .i64 0,.slice none 0 0] 30 fun g2 w1 j1 j2 ad=> ?_)
  |((with_reducible refine aC (N:=3) rfl ?_);refine bV #[.slice none 0 0,.int .i64 0,.slice none 0 0,.int .i64 0,.int .i64 0,.slice none 0 0] 30 fun g3 w1 j1 j2 ad=> ?_)
  |((with_reducible refine aC (N:=7) rfl ?_);refine bV #[.int .i64 0,.int .i64 0] 62 fun g7 w1 j1 j2 ad=> ?_)
  |(go_at_call 26;(try rw[G.out]);replace h:=bI h;obtain⟨⟨t1,t2,t3⟩,A,h⟩:=h;(try dsimp only at h);refine(ct.c _ _ _ _ _ _ _ _ _ _ St.out From.out A).mono ?_;rintro e w2 ⟨rfl,hs,hb0,hk⟩;have U:=St.mk hs;have J:=From.mk hb0;have O:=Kb.mk hk;clear A hs hb0 hk)
  |(go_at_call 93;(try rw[G.out]);replace h:=bI h;obtain⟨⟨t1,t2,t3⟩,A,h⟩:=h;(try dsimp only at h);refine(e5.c _ _ _ _ _ _ _ _ _ _ St.out From.out A).mono ?_;rintro e w2 ⟨v0,rfl,z,hs,hb0,hk⟩;obtain⟨I,b0,rfl,j0,q0⟩:=av z;have U:=St.mk hs;have J:=From.mk hb0;have O:=Kb.mk hk;clear A z hs hb0 hk)
  |(go_at_call 91;(try rw[G.out]);replace h:=bI h;obtain⟨⟨t1,t2,t3,t4,t5,t6,t7⟩,A,h⟩:=h;(try dsimp only at h);refine(kp.c _ _ _ _ _ _ _ _ _ _ _ _ _ Rd.out af.out A).mono ?_;rintro e w2 ⟨v0,v1,v2,rfl,z,D,F,hb⟩;obtain⟨I,b0,rfl,j0,q0⟩:=av z;obtain⟨B1,b1,rfl,j1,q1⟩:=av D;obtain⟨B2,b2,rfl,j2,q2⟩:=av F;have V:=au.mk hb;clear A z D F hb)
  |(go_at_call 94;(try rw[G.out]);replace h:=bI h;obtain⟨⟨t1,t2,t3,t4⟩,A,h⟩:=h;(try dsimp only at h);refine(lL.c _ _ _ _ _ _ _ _ _ _ St.out From.out A).mono ?_;rintro e w2 ⟨rfl,hs,hb0,hk⟩;have U:=St.mk hs;have J:=From.mk hb0;have O:=Kb.mk hk;clear A hs hb0 hk)
  |(go_at_call 74;(try rw[G.out]);replace h:=bI h;obtain⟨⟨t1,t2,t3,t4,t5,t6,t7⟩,A,h⟩:=h;(try dsimp only at h);refine(kv.c _ _ _ _ _ _ _ _ _ _ _ _ _ _ _ _ _ _ _ _ _ Rd.out af.out Rd.out af.out Rd.out af.out A).mono ?_;rintro e w2 ⟨v0,v1,v2,rfl,z,D,F,hb⟩;obtain⟨I,b0,rfl,j0,q0⟩:=av z;obtain⟨B1,b1,rfl,j1,q1⟩:=av D;obtain⟨B2,b2,rfl,j2,q2⟩:=av F;have V:=au.mk hb;clear A z D F hb)
  |(refine kR (gC:=g) (id:=9) (ds:=[7]) (l:= #[false,false,false,false,false,false,false,false]) bT.mD bT.lX ?_;intro u H w3 ak u0 X hHeld;refine kA 1 (some 36) u ?_;refine kT 0 (some 35) u H hHeld ?_;replace h:=bI h;obtain⟨⟨t1,t2,t3⟩,A,h⟩:=h;(try dsimp only at h);refine kC 2 37 Tryz.func26 u fun K hK=> ?_;refine(ct.c _ _ _ _ _ _ _ _ _ _ St.out From.out A).mono ?_;rintro e w2 ⟨rfl,hs,hb0,hk⟩;have U:=St.mk hs;have J:=From.mk hb0;have O:=Kb.mk hk;clear A hs hb0 hk;refine⟨_,rfl,hK _ _ dh.out fun hHeld=> ?_⟩;clear hK K;refine kN ?_;replace h:=bI h;obtain⟨⟨t1,t2,t3,t4,t5,t6,t7⟩,A,h⟩:=h;(try dsimp only at h);refine kC 3 38 Tryz.func75 u fun K hK=> ?_;refine(ky.c _ _ _ _ _ _ _ _ _ _ _ _ _ _ _ _ _ _ _ _ _ _ Rd.out af.out Rd.out af.out Rd.out af.out A).mono ?_;rintro e w2 ⟨v0,v1,v2,rfl,z,D,F,hb⟩;obtain⟨I,b0,rfl,j0,q0⟩:=av z;obtain⟨B1,b1,rfl,j1,q1⟩:=av D;obtain⟨B2,b2,rfl,j2,q2⟩:=av F;have V:=au.mk hb;clear A z D F hb;refine⟨_,rfl,hK _ _ dh.out fun hHeld=> ?_⟩;clear hK K;refine kN ?_;refine kA 4 (some 34) u ?_;refine kA 5 (some 39) u ?_;refine kA 6 (some 40) u ?_;refine kL 7 u ?_;refine kD u ?_)
  |(refine kR (gC:=g) (id:=12) (ds:=[8]) (l:= #[false,false,false,false,false,false,false,false,false]) bT.qg bT.pj ?_;intro u H w3 ak u0 X hHeld;refine kA 2 (some 48) u ?_;refine kT 0 (some 46) u H hHeld ?_;refine kT 1 (some 47) u H hHeld ?_;replace h:=bI h;obtain⟨⟨t1,t2,t3⟩,A,h⟩:=h;(try dsimp only at h);refine kC 3 49 Tryz.func26 u fun K hK=> ?_;refine(ct.c _ _ _ _ _ _ _ _ _ _ St.out From.out A).mono ?_;rintro e w2 ⟨rfl,hs,hb0,hk⟩;have U:=St.mk hs;have J:=From.mk hb0;have O:=Kb.mk hk;clear A hs hb0 hk;refine⟨_,rfl,hK _ _ dh.out fun hHeld=> ?_⟩;clear hK K;refine kN ?_;replace h:=bI h;obtain⟨⟨t1,t2,t3,t4,t5,t6,t7⟩,A,h⟩:=h;(try dsimp only at h);refine kC 4 50 Tryz.func76 u fun K hK=> ?_;refine(kr.c _ _ _ _ _ _ _ _ _ _ _ _ _ _ _ _ _ _ _ _ _ _ _ _ Rd.out af.out Rd.out af.out Rd.out af.out A).mono ?_;rintro e w2 ⟨v0,v1,v2,rfl,z,D,F,hb⟩;obtain⟨I,b0,rfl,j0,q0⟩:=av z;obtain⟨B1,b1,rfl,j1,q1⟩:=av D;obtain⟨B2,b2,rfl,j2,q2⟩:=av F;have V:=au.mk hb;clear A z D F hb;refine⟨_,rfl,hK _ _ dh.out fun hHeld=> ?_⟩;clear hK K;refine kN ?_;refine kA 5 (some 45) u ?_;refine kA 6 (some 51) u ?_;refine kA 7 (some 52) u ?_;refine kL 8 u ?_;refine kD u ?_)
  |(refine kR (gC:=g) (id:=15) (ds:=[9]) (l:= #[false,false,false,false,false,false,false,false,false,false]) bT.qh bT.pk ?_;intro u H w3 ak u0 X hHeld;refine kA 1 (some 59) u ?_;refine kA 2 (some 60) u ?_;refine kT 0 (some 58) u H hHeld ?_;replace h:=bI h;obtain⟨⟨t1,t2,t3⟩,A,h⟩:=h;(try dsimp only at h);refine kC 3 61 Tryz.func26 u fun K hK=> ?_;refine(ct.c _ _ _ _ _ _ _ _ _ _ St.out From.out A).mono ?_;rintro e w2 ⟨rfl,hs,hb0,hk⟩;have U:=St.mk hs;have J:=From.mk hb0;have O:=Kb.mk hk;clear A hs hb0 hk;refine⟨_,rfl,hK _ _ dh.out fun hHeld=> ?_⟩;clear hK K;refine kN ?_;refine kA 4 (some 62) u ?_;replace h:=bI h;obtain⟨⟨t1,t2,t3,t4,t5,t6,t7⟩,A,h⟩:=h;(try dsimp only at h);refine kC 5 63 Tryz.func77 u fun K hK=> ?_;refine(ku.c _ _ _ _ _ _ _ _ _ _ _ _ _ _ _ _ _ _ _ _ _ _ _ Rd.out af.out Rd.out af.out Rd.out af.out A).mono ?_;rintro e w2 ⟨v0,v1,v2,rfl,z,D,F,hb⟩;obtain⟨I,b0,rfl,j0,q0⟩:=av z;obtain⟨B1,b1,rfl,j1,q1⟩:=av D;obtain⟨B2,b2,rfl,j2,q2⟩:=av F;have V:=au.mk hb;clear A z D F hb;refine⟨_,rfl,hK _ _ dh.out fun hHeld=> ?_⟩;clear hK K;refine kN ?_;refine kA 6 (some 57) u ?_;refine kA 7 (some 64) u ?_;refine kA 8 (some 65) u ?_;refine kL 9 u ?_;refine kD u ?_));(repeat' first|((with_reducible replace h:=bC h);rcases h with ⟨hc,h⟩|⟨hc,h⟩<;>first|exact(bo h).elim|exact absurd hc (by decide)|subst hc|(replace hc:=aM hc;subst hc)|(replace hc:=bR hc;subst hc)|(replace hc:=bS hc;subst hc)|(have hd:(_==_)=true:=hc)|(have hd:(_==_)=false:=aM hc)|(have hd:=bw hc;have he:=bz hc;clear hc)|(have hd:=bA hc;have he:=bB hc)|(have hd:=ax hc)|(have hd:=ah hc;(try(have hn:=Int.natCast_pos.mp hc;have hm:=ah hn;replace hn:=aw hn));first|(obtain⟨a4,e_,i_⟩:=bQ (by assumption) (by first|assumption|decide) hc;cases e_)|(obtain⟨a3,e_,c_⟩:=bO (by assumption) (by first|assumption|decide) hc;cases e_))|(have hd:=ah hc)|skip)|((with_reducible replace h:=bP h);obtain⟨G,h⟩:=h;replace G:=A_ G;(try dsimp only at h))))
 all_goals first
  |((try simp only[Option.some.injEq,Prod.mk.injEq]at h);(try obtain⟨rfl,rfl,rfl,rfl,rfl,rfl,rfl,rfl⟩:=h);refine bodyPost_ret (results_cell_row rfl _ _ _ _ _ (0,0) _ rfl aJ.out Tryz.underlying30 rfl (by kernel_rfl)) rfl ?_;exact⟨_,_,_,rfl,(by first|exact bG|exact dG|exact dG (by simp)|exact Kd.aY _ _ _ _ _),(by first|exact bG|exact dG|exact dG (by simp)|exact Kd.aY _ _ _ _ _),(by first|exact bG|exact dG|exact dG (by simp)|exact Kd.aY _ _ _ _ _),St.out,From.out,dh.out⟩)
  |skip
 go_loopg [6] k (fun a5 v6 w'=>∃(aT:Int) (aH:Int) (aI:Int) (aL:List (ag)) (aO:Int) (aP:List Int) (aQ:Int) (aR:Int) (aS:List (S64)) (aE:Value) (aF:Value) (aG:Value),v6= .int .i64 aT∧ae (bT.l0 a5 t1 aT al aH aI aL aO aP aQ aR aS=some (r1,r2,r3,ap,aq,ar,aB,aD))∧ae (a5≤k)∧ae (Kd.R aN 110 w' w.heap.size (fun _=>True) aE aL)∧ae (Kd.R (Kd.int .i64) 3 w' w.heap.size (fun _=>True) aF aP)∧ae (Kd.R aK 64 w' w.heap.size (fun _=>True) aG aS)∧ae (w'.heap[g2]? =some (.cells #[(.slice none 0 0),.int .i64 0,(.slice none 0 0),.int .i64 0,.int .i64 0,(.slice none 0 0)] 30 (0,0)))∧ae (w'.heap[g3]? =some (.cells #[aE,.int .i64 aO,aF,.int .i64 aQ,.int .i64 aR,aG] 30 (0,0)))∧ae (aX w0 w' g al aH aI)∧ae (bh w w' g none)∧ae (Below w0.heap.size w0 w'))
 case atStart=>exact⟨_,_,_,_,_,_,_,_,_,_,_,_,(by first|rfl|(simp;done)),⟨h⟩,⟨Nat.le_refl _⟩,⟨by first|exact dG|exact bG|exact dG (by simp)|exact Kd.aY _ _ _ _ _⟩,⟨by first|exact dG|exact bG|exact dG (by simp)|exact Kd.aY _ _ _ _ _⟩,⟨by first|exact dG|exact bG|exact dG (by simp)|exact Kd.aY _ _ _ _ _⟩,⟨aJ.out⟩,⟨aJ.out⟩,⟨St.out⟩,⟨dh.out⟩,⟨From.out⟩⟩
 case round=>
  clear h;obtain⟨aT,aH,aI,aL,aO,aP,aQ,aR,aS,aE,aF,aG,rfl,am,aZ,a0,a1,a2,aU,aV,aW,HK,ao⟩:=hrel;rcases gk with _|k1
  ·exact absurd am.out (by simp[bT.l0])
  have h:=am.out;clear am;simp only[bT.l0]at h;obtain⟨bc,bp,rfl,bu,b6,b3⟩:=jF a0.out;clear a0;obtain⟨bd,bq,rfl,bv,b7,b4⟩:=jF a1.out;clear a1;obtain⟨be,br,rfl,bx,b8,b5⟩:=jF a2.out;clear a2;have bf:=aJ.mk aU.out;clear aU;have bg:=aJ.mk aV.out;clear aV;have bk:=St.mk aW.out;clear aW;have bl:=dh.mk HK.out;have bn:Sz w wr:=⟨HK.out.1⟩;clear HK;have bj:=From.mk ao.out;have bm:Sz w0 wr:=⟨ao.out.size⟩;clear ao
  (repeat' first|((with_reducible replace h:=bC h);rcases h with ⟨hc,h⟩|⟨hc,h⟩<;>first|exact(bo h).elim|exact absurd hc (by decide)|subst hc|(replace hc:=aM hc;subst hc)|(replace hc:=bR hc;subst hc)|(replace hc:=bS hc;subst hc)|(have hd:(_==_)=true:=hc)|(have hd:(_==_)=false:=aM hc)|(have hd:=bw hc;have he:=bz hc;clear hc)|(have hd:=bA hc;have he:=bB hc)|(have hd:=ax hc)|(have hd:=ah hc;(try(have hn:=Int.natCast_pos.mp hc;have hm:=ah hn;replace hn:=aw hn));first|(obtain⟨a4,e_,i_⟩:=bQ (by assumption) (by first|assumption|decide) hc;cases e_)|(obtain⟨a3,e_,c_⟩:=bO (by assumption) (by first|assumption|decide) hc;cases e_))|(have hd:=ah hc)|skip)|((with_reducible replace h:=bP h);obtain⟨G,h⟩:=h;replace G:=A_ G;(try dsimp only at h)))
  all_goals go_wp2_with ((first
   |((with_reducible refine aC (N:=2) rfl ?_);refine bV #[.slice none 0 0,.int .i64 0,.slice none 0 0,.int .i64 0,.int .i64 0,.slice none 0 0] 30 fun g2 w1 j1 j2 ad=> ?_)
   |((with_reducible refine aC (N:=3) rfl ?_);refine bV #[.slice none 0 0,.int .i64 0,.slice none 0 0,.int .i64 0,.int .i64 0,.slice none 0 0] 30 fun g3 w1 j1 j2 ad=> ?_)
   |((with_reducible refine aC (N:=7) rfl ?_);refine bV #[.int .i64 0,.int .i64 0] 62 fun g7 w1 j1 j2 ad=> ?_)
   |(go_at_call 26;(try rw[G.out]);replace h:=bI h;obtain⟨⟨t1,t2,t3⟩,A,h⟩:=h;(try dsimp only at h);refine(ct.c _ _ _ _ _ _ _ _ _ _ St.out From.out A).mono ?_;rintro e w2 ⟨rfl,hs,hb0,hk⟩;have U:=St.mk hs;have J:=From.mk hb0;have O:=Kb.mk hk;clear A hs hb0 hk)
   |(go_at_call 93;(try rw[G.out]);replace h:=bI h;obtain⟨⟨t1,t2,t3⟩,A,h⟩:=h;(try dsimp only at h);refine(e5.c _ _ _ _ _ _ _ _ _ _ St.out From.out A).mono ?_;rintro e w2 ⟨v0,rfl,z,hs,hb0,hk⟩;obtain⟨I,b0,rfl,j0,q0⟩:=av z;have U:=St.mk hs;have J:=From.mk hb0;have O:=Kb.mk hk;clear A z hs hb0 hk)
   |(go_at_call 91;(try rw[G.out]);replace h:=bI h;obtain⟨⟨t1,t2,t3,t4,t5,t6,t7⟩,A,h⟩:=h;(try dsimp only at h);refine(kp.c _ _ _ _ _ _ _ _ _ _ _ _ _ Rd.out af.out A).mono ?_;rintro e w2 ⟨v0,v1,v2,rfl,z,D,F,hb⟩;obtain⟨I,b0,rfl,j0,q0⟩:=av z;obtain⟨B1,b1,rfl,j1,q1⟩:=av D;obtain⟨B2,b2,rfl,j2,q2⟩:=av F;have V:=au.mk hb;clear A z D F hb)
   |(go_at_call 94;(try rw[G.out]);replace h:=bI h;obtain⟨⟨t1,t2,t3,t4⟩,A,h⟩:=h;(try dsimp only at h);refine(lL.c _ _ _ _ _ _ _ _ _ _ St.out From.out A).mono ?_;rintro e w2 ⟨rfl,hs,hb0,hk⟩;have U:=St.mk hs;have J:=From.mk hb0;have O:=Kb.mk hk;clear A hs hb0 hk)
   |(go_at_call 74;(try rw[G.out]);replace h:=bI h;obtain⟨⟨t1,t2,t3,t4,t5,t6,t7⟩,A,h⟩:=h;(try dsimp only at h);refine(kv.c _ _ _ _ _ _ _ _ _ _ _ _ _ _ _ _ _ _ _ _ _ Rd.out af.out Rd.out af.out Rd.out af.out A).mono ?_;rintro e w2 ⟨v0,v1,v2,rfl,z,D,F,hb⟩;obtain⟨I,b0,rfl,j0,q0⟩:=av z;obtain⟨B1,b1,rfl,j1,q1⟩:=av D;obtain⟨B2,b2,rfl,j2,q2⟩:=av F;have V:=au.mk hb;clear A z D F hb)
   |(refine kR (gC:=g) (id:=9) (ds:=[7]) (l:= #[false,false,false,false,false,false,false,false]) bT.mD bT.lX ?_;intro u H w3 ak u0 X hHeld;refine kA 1 (some 36) u ?_;refine kT 0 (some 35) u H hHeld ?_;replace h:=bI h;obtain⟨⟨t1,t2,t3⟩,A,h⟩:=h;(try dsimp only at h);refine kC 2 37 Tryz.func26 u fun K hK=> ?_;refine(ct.c _ _ _ _ _ _ _ _ _ _ St.out From.out A).mono ?_;rintro e w2 ⟨rfl,hs,hb0,hk⟩;have U:=St.mk hs;have J:=From.mk hb0;have O:=Kb.mk hk;clear A hs hb0 hk;refine⟨_,rfl,hK _ _ dh.out fun hHeld=> ?_⟩;clear hK K;refine kN ?_;replace h:=bI h;obtain⟨⟨t1,t2,t3,t4,t5,t6,t7⟩,A,h⟩:=h;(try dsimp only at h);refine kC 3 38 Tryz.func75 u fun K hK=> ?_;refine(ky.c _ _ _ _ _ _ _ _ _ _ _ _ _ _ _ _ _ _ _ _ _ _ Rd.out af.out Rd.out af.out Rd.out af.out A).mono ?_;rintro e w2 ⟨v0,v1,v2,rfl,z,D,F,hb⟩;obtain⟨I,b0,rfl,j0,q0⟩:=av z;obtain⟨B1,b1,rfl,j1,q1⟩:=av D;obtain⟨B2,b2,rfl,j2,q2⟩:=av F;have V:=au.mk hb;clear A z D F hb;refine⟨_,rfl,hK _ _ dh.out fun hHeld=> ?_⟩;clear hK K;refine kN ?_;refine kA 4 (some 34) u ?_;refine kA 5 (some 39) u ?_;refine kA 6 (some 40) u ?_;refine kL 7 u ?_;refine kD u ?_)
   |(refine kR (gC:=g) (id:=12) (ds:=[8]) (l:= #[false,false,false,false,false,false,false,false,false]) bT.qg bT.pj ?_;intro u H w3 ak u0 X hHeld;refine kA 2 (some 48) u ?_;refine kT 0 (some 46) u H hHeld ?_;refine kT 1 (some 47) u H hHeld ?_;replace h:=bI h;obtain⟨⟨t1,t2,t3⟩,A,h⟩:=h;(try dsimp only at h);refine kC 3 49 Tryz.func26 u fun K hK=> ?_;refine(ct.c _ _ _ _ _ _ _ _ _ _ St.out From.out A).mono ?_;rintro e w2 ⟨rfl,hs,hb0,hk⟩;have U:=St.mk hs;have J:=From.mk hb0;have O:=Kb.mk hk;clear A hs hb0 hk;refine⟨_,rfl,hK _ _ dh.out fun hHeld=> ?_⟩;clear hK K;refine kN ?_;replace h:=bI h;obtain⟨⟨t1,t2,t3,t4,t5,t6,t7⟩,A,h⟩:=h;(try dsimp only at h);refine kC 4 50 Tryz.func76 u fun K hK=> ?_;refine(kr.c _ _ _ _ _ _ _ _ _ _ _ _ _ _ _ _ _ _ _ _ _ _ _ _ Rd.out af.out Rd.out af.out Rd.out af.out A).mono ?_;rintro e w2 ⟨v0,v1,v2,rfl,z,D,F,hb⟩;obtain⟨I,b0,rfl,j0,q0⟩:=av z;obtain⟨B1,b1,rfl,j1,q1⟩:=av D;obtain⟨B2,b2,rfl,j2,q2⟩:=av F;have V:=au.mk hb;clear A z D F hb;refine⟨_,rfl,hK _ _ dh.out fun hHeld=> ?_⟩;clear hK K;refine kN ?_;refine kA 5 (some 45) u ?_;refine kA 6 (some 51) u ?_;refine kA 7 (some 52) u ?_;refine kL 8 u ?_;refine kD u ?_)
   |(refine kR (gC:=g) (id:=15) (ds:=[9]) (l:= #[false,false,false,false,false,false,false,false,false,false]) bT.qh bT.pk ?_;intro u H w3 ak u0 X hHeld;refine kA 1 (some 59) u ?_;refine kA 2 (some 60) u ?_;refine kT 0 (some 58) u H hHeld ?_;replace h:=bI h;obtain⟨⟨t1,t2,t3⟩,A,h⟩:=h;(try dsimp only at h);refine kC 3 61 Tryz.func26 u fun K hK=> ?_;refine(ct.c _ _ _ _ _ _ _ _ _ _ St.out From.out A).mono ?_;rintro e w2 ⟨rfl,hs,hb0,hk⟩;have U:=St.mk hs;have J:=From.mk hb0;have O:=Kb.mk hk;clear A hs hb0 hk;refine⟨_,rfl,hK _ _ dh.out fun hHeld=> ?_⟩;clear hK K;refine kN ?_;refine kA 4 (some 62) u ?_;replace h:=bI h;obtain⟨⟨t1,t2,t3,t4,t5,t6,t7⟩,A,h⟩:=h;(try dsimp only at h);refine kC 5 63 Tryz.func77 u fun K hK=> ?_;refine(ku.c _ _ _ _ _ _ _ _ _ _ _ _ _ _ _ _ _ _ _ _ _ _ _ Rd.out af.out Rd.out af.out Rd.out af.out A).mono ?_;rintro e w2 ⟨v0,v1,v2,rfl,z,D,F,hb⟩;obtain⟨I,b0,rfl,j0,q0⟩:=av z;obtain⟨B1,b1,rfl,j1,q1⟩:=av D;obtain⟨B2,b2,rfl,j2,q2⟩:=av F;have V:=au.mk hb;clear A z D F hb;refine⟨_,rfl,hK _ _ dh.out fun hHeld=> ?_⟩;clear hK K;refine kN ?_;refine kA 6 (some 57) u ?_;refine kA 7 (some 64) u ?_;refine kA 8 (some 65) u ?_;refine kL 9 u ?_;refine kD u ?_));(repeat' first|((with_reducible replace h:=bC h);rcases h with ⟨hc,h⟩|⟨hc,h⟩<;>first|exact(bo h).elim|exact absurd hc (by decide)|subst hc|(replace hc:=aM hc;subst hc)|(replace hc:=bR hc;subst hc)|(replace hc:=bS hc;subst hc)|(have hd:(_==_)=true:=hc)|(have hd:(_==_)=false:=aM hc)|(have hd:=bw hc;have he:=bz hc;clear hc)|(have hd:=bA hc;have he:=bB hc)|(have hd:=ax hc)|(have hd:=ah hc;(try(have hn:=Int.natCast_pos.mp hc;have hm:=ah hn;replace hn:=aw hn));first|(obtain⟨a4,e_,i_⟩:=bQ (by assumption) (by first|assumption|decide) hc;cases e_)|(obtain⟨a3,e_,c_⟩:=bO (by assumption) (by first|assumption|decide) hc;cases e_))|(have hd:=ah hc)|skip)|((with_reducible replace h:=bP h);obtain⟨G,h⟩:=h;replace G:=A_ G;(try dsimp only at h))))
  all_goals first
   |(go_roundg k1;(case measure=>have:=aZ.out;omega);(case rel=>exact⟨_,_,_,_,_,_,_,_,_,_,_,_,(by first|rfl|(simp;done)),⟨h⟩,⟨by have:=aZ.out;omega⟩,⟨by first|exact dG|exact bG|exact dG (by simp)|exact Kd.aY _ _ _ _ _⟩,⟨by first|exact dG|exact bG|exact dG (by simp)|exact Kd.aY _ _ _ _ _⟩,⟨by first|exact dG|exact bG|exact dG (by simp)|exact Kd.aY _ _ _ _ _⟩,⟨aJ.out⟩,⟨aJ.out⟩,⟨St.out⟩,⟨dh.out⟩,⟨From.out⟩⟩))
   |((try simp only[Option.some.injEq,Prod.mk.injEq]at h);(try obtain⟨rfl,rfl,rfl,rfl,rfl,rfl,rfl,rfl⟩:=h);refine bodyPost_ret (results_cell_row rfl _ _ _ _ _ (0,0) _ rfl aJ.out Tryz.underlying30 rfl (by kernel_rfl)) rfl ?_;exact⟨_,_,_,rfl,(by first|exact bG|exact dG|exact dG (by simp)|exact Kd.aY _ _ _ _ _),(by first|exact bG|exact dG|exact dG (by simp)|exact Kd.aY _ _ _ _ _),(by first|exact bG|exact dG|exact dG (by simp)|exact Kd.aY _ _ _ _ _),St.out,From.out,dh.out⟩)
def mC.f (k:Nat) (F:List Int) (G:Int) (H:Int):Option ((List (ag))×Int×List Int×Int×Int×(List (S64))×Int×Int):=(kz.f F G H 2).bind fun D=>(if D.1=true then((mA.f k).bind fun z=>(some (z.1,z.2.1,z.2.2.1,z.2.2.2.1,z.2.2.2.2.1,z.2.2.2.2.2,D.2.1,D.2.2)))else((bT.f k F D.2.1 D.2.2).bind fun u=>(some (u.1,u.2.1,u.2.2.1,u.2.2.2.1,u.2.2.2.2.1,u.2.2.2.2.2.1,u.2.2.2.2.2.2.1,u.2.2.2.2.2.2.2))))
theorem mC.c (k:Nat) (g:Nat) (G:List Int) (U:Int) (V:Int) (r1:List (ag)) (r2:Int) (r3:List Int) (H:Int) (I:Int) (J:List (S64)) (K:Int) (O:Int) (w0 w:World) (hI:aX w0 w g G U V) (hB:Below w0.heap.size w0 w) (h:mC.f k G U V=some (r1,r2,r3,H,I,J,K,O)):
  Calls Tryz.prog 24 #[.pointer (some ⟨g,0,none⟩)] w fun e w'=>∃X ad af:Value,e= .returned (.agg #[X,.int .i64 r2,ad,.int .i64 H,.int .i64 I,af])∧Kd.R aN 110 w' w.heap.size (fun _=>True) X r1∧Kd.R (Kd.int .i64) 3 w' w.heap.size (fun _=>True) ad r3∧Kd.R aK 64 w' w.heap.size (fun _=>True) af J∧aX w0 w' g G K O∧Below w0.heap.size w0 w'∧bh w w' g none:=by
 replace hI:=St.mk hI;have iS:Sz w0 w:=⟨hB.size⟩;replace hB:=From.mk hB;have aG:=bK.mk (d:=aN) (e:=110) (t:=3) (by decide);have aH:=bK.mk (d:=aN) (e:=110) (t:=30) (by decide);have aI:=bK.mk (d:=aK) (e:=64) (t:=3) (by decide);have aL:=bK.mk (d:=aK) (e:=64) (t:=30) (by decide);have aF:=ij.mk (e:=30) (t:=82) (by decide);unfold mC.f at h;have aB:=Tryz.underlying30
 all_goals go_enter Tryz.func24,Tryz.ntmps24
 all_goals go_wp2_with ((first
  |((with_reducible refine aC (N:=2) rfl ?_);refine lY rfl (N:=2) rfl (cs:= #[.slice none 0 0,.int .i64 0,.slice none 0 0,.int .i64 0,.int .i64 0,.slice none 0 0]) (t:=30) (by first|(go_simp;done)|(go_simp;rfl)) ?_;intro ar hg w1 hk hb;have j1:=fY.mk hg;have j2:=au.mk hb;have aD:=aJ.mk hk;clear hg hb hk)
  |(go_at_call 49;(try rw[u.out]);replace h:=bI h;obtain⟨⟨t1,t2,t3⟩,A,h⟩:=h;(try dsimp only at h);refine(kz.c _ _ _ _ _ _ _ _ _ _ St.out From.out A).mono ?_;rintro e w2 ⟨rfl,hs,hb0,hk⟩;have ao:=St.mk hs;have al:=From.mk hb0;have am:=Kb.mk hk;clear A hs hb0 hk)
  |(go_at_call 47;(try rw[u.out]);replace h:=bI h;obtain⟨⟨t1,t2,t3,t4,t5,t6⟩,A,h⟩:=h;(try dsimp only at h);refine(mA.c _ _ _ _ _ _ _ _ A).mono ?_;rintro e w2 ⟨v0,v1,v2,rfl,z,D,F,hb⟩;obtain⟨ak,b0,rfl,j0,q0⟩:=av z;obtain⟨B1,b1,rfl,j1,q1⟩:=av D;obtain⟨B2,b2,rfl,j2,q2⟩:=av F;have aE:=au.mk hb;clear A z D F hb)
  |(go_at_call 50;(try rw[u.out]);replace h:=bI h;obtain⟨⟨t1,t2,t3,t4,t5,t6,t7,t8⟩,A,h⟩:=h;(try dsimp only at h);refine(bT.c _ _ _ _ _ _ _ _ _ _ _ _ _ _ _ St.out From.out A).mono ?_;rintro e w2 ⟨v0,v1,v2,rfl,z,D,F,hs,hb0,hk⟩;obtain⟨ak,b0,rfl,j0,q0⟩:=av z;obtain⟨B1,b1,rfl,j1,q1⟩:=av D;obtain⟨B2,b2,rfl,j2,q2⟩:=av F;have ao:=St.mk hs;have al:=From.mk hb0;have am:=Kb.mk hk;clear A z D F hs hb0 hk));(repeat' first|((with_reducible replace h:=bC h);rcases h with ⟨hc,h⟩|⟨hc,h⟩<;>first|exact(bo h).elim|exact absurd hc (by decide)|subst hc|(replace hc:=aM hc;subst hc)|(replace hc:=bR hc;subst hc)|(replace hc:=bS hc;subst hc)|(have hd:(_==_)=true:=hc)|(have hd:(_==_)=false:=aM hc)|(have hd:=bw hc;have he:=bz hc;clear hc)|(have hd:=bA hc;have he:=bB hc)|(have hd:=ax hc)|(have hd:=ah hc;(try(have hn:=Int.natCast_pos.mp hc;have hm:=ah hn;replace hn:=aw hn));first|(obtain⟨aq,e_,i_⟩:=bQ (by assumption) (by first|assumption|decide) hc;cases e_)|(obtain⟨ap,e_,c_⟩:=bO (by assumption) (by first|assumption|decide) hc;cases e_))|(have hd:=ah hc)|skip)|((with_reducible replace h:=bP h);obtain⟨u,h⟩:=h;replace u:=A_ u;(try dsimp only at h))))
 all_goals simp only[Option.some.injEq,Prod.mk.injEq]at h
 all_goals obtain⟨rfl,rfl,rfl,rfl,rfl,rfl,rfl,rfl⟩:=h
 all_goals refine bodyPost_ret (results_cell_row rfl _ _ _ _ _ (0,0) _ rfl aJ.out Tryz.underlying30 rfl (by kernel_rfl)) rfl ?_
 all_goals exact⟨_,_,_,(by first|rfl|(simp_all;done)),(by first|exact dG|exact Kd.aY _ _ _ _ _),(by first|exact dG|exact Kd.aY _ _ _ _ _),(by first|exact dG|exact Kd.aY _ _ _ _ _),St.out,From.out,dh.out⟩
def my.f (k:Nat) (l0:List Int):Option ((List (ag))×Int×List Int×Int×Int×(List (S64))×(List (cd))):=(fG.f k l0).bind fun z=>((mC.f k z.1 z.2.1 z.2.2).bind fun u=>((fW.f k z.1 u.2.2.2.2.2.2.1 u.2.2.2.2.2.2.2).bind fun D=>(some (u.1,u.2.1,u.2.2.1,u.2.2.2.1,u.2.2.2.2.1,u.2.2.2.2.2.1,D.1))))
theorem my.c (k:Nat) (A0:Option Addr) (c0:Nat) (l0:List Int) (r1:List (ag)) (r2:Int) (r3:List Int) (J:Int) (K:Int) (O:List (S64)) (U:List (cd)) (w:World) (G:Kd.C (Kd.int .u8) w A0 l0.length l0) (hc0:l0.length≤c0) (h:my.f k l0=some (r1,r2,r3,J,K,O,U)):
  Calls Tryz.prog 7 #[.slice A0 l0.length c0] w fun e w'=>∃V X ad ak:Value,e= .returned (.tuple #[.agg #[V,.int .i64 r2,X,.int .i64 J,.int .i64 K,ad],ak])∧Kd.R aN 110 w' w.heap.size (fun _=>True) V r1∧Kd.R (Kd.int .i64) 3 w' w.heap.size (fun _=>True) X r3∧Kd.R aK 64 w' w.heap.size (fun _=>True) ad O∧Kd.R gZ 57 w' w.heap.size (fun _=>True) ak U∧Below w.heap.size w w':=by
 replace G:=a6.mk G;replace hc0:=af.mk hc0;have aF:=bK.mk (d:=aN) (e:=110) (t:=3) (by decide);have aG:=bK.mk (d:=aN) (e:=110) (t:=30) (by decide);have aL:=bK.mk (d:=aK) (e:=64) (t:=3) (by decide);have aO:=bK.mk (d:=aK) (e:=64) (t:=30) (by decide);have aH:=bK.mk (d:=gZ) (e:=57) (t:=3) (by decide);have aI:=bK.mk (d:=gZ) (e:=57) (t:=30) (by decide);have aE:=ij.mk (e:=30) (t:=82) (by decide);unfold my.f at h;have ar:=Tryz.underlying30
 all_goals go_enter Tryz.func7,Tryz.ntmps7
 all_goals go_wp2_with ((first
  |((with_reducible refine aC (N:=2) rfl ?_);refine lY rfl (N:=2) rfl (cs:= #[.slice none 0 0,.int .i64 0,.slice none 0 0,.int .i64 0,.int .i64 0,.slice none 0 0]) (t:=30) (by first|(go_simp;done)|(go_simp;rfl)) ?_;intro aq hg w1 hk hb;have j1:=fY.mk hg;have j2:=au.mk hb;have aB:=aJ.mk hk;clear hg hb hk)
  |(go_at_call 23;(try rw[u.out]);replace h:=bI h;obtain⟨⟨t1,t2,t3⟩,A,h⟩:=h;(try dsimp only at h);refine(fG.c _ _ _ _ _ _ _ w _ From.out Rd.out af.out A).mono ?_;rintro e w2 ⟨gC,rfl,hs,hb0,hb⟩;have I:=St.mk hs;have H:=From.mk hb0;have aD:=au.mk hb;clear A hs hb0 hb)
  |(go_at_call 24;(try rw[u.out]);replace h:=bI h;obtain⟨⟨t1,t2,t3,t4,t5,t6,t7,t8⟩,A,h⟩:=h;(try dsimp only at h);refine(mC.c _ _ _ _ _ _ _ _ _ _ _ _ _ _ _ St.out From.out A).mono ?_;rintro e w2 ⟨v0,v1,v2,rfl,z,D,F,hs,hb0,hk⟩;obtain⟨al,b0,rfl,j0,q0⟩:=av z;obtain⟨B1,b1,rfl,j1,q1⟩:=av D;obtain⟨B2,b2,rfl,j2,q2⟩:=av F;have I:=St.mk hs;have H:=From.mk hb0;have am:=Kb.mk hk;clear A z D F hs hb0 hk)
  |(go_at_call 25;(try rw[u.out]);replace h:=bI h;obtain⟨⟨t1,t2,t3⟩,A,h⟩:=h;(try dsimp only at h);refine(fW.c _ _ _ _ _ _ _ _ _ _ St.out From.out A).mono ?_;rintro e w2 ⟨v0,rfl,z,hs,hb0,hk⟩;obtain⟨al,b0,rfl,j0,q0⟩:=av z;have I:=St.mk hs;have H:=From.mk hb0;have am:=Kb.mk hk;clear A z hs hb0 hk));(repeat' first|((with_reducible replace h:=bC h);rcases h with ⟨hc,h⟩|⟨hc,h⟩<;>first|exact(bo h).elim|exact absurd hc (by decide)|subst hc|(replace hc:=aM hc;subst hc)|(replace hc:=bR hc;subst hc)|(replace hc:=bS hc;subst hc)|(have hd:(_==_)=true:=hc)|(have hd:(_==_)=false:=aM hc)|(have hd:=bw hc;have he:=bz hc;clear hc)|(have hd:=bA hc;have he:=bB hc)|(have hd:=ax hc)|(have hd:=ah hc;(try(have hn:=Int.natCast_pos.mp hc;have hm:=ah hn;replace hn:=aw hn));first|(obtain⟨ap,e_,i_⟩:=bQ (by assumption) (by first|assumption|decide) hc;cases e_)|(obtain⟨ao,e_,c_⟩:=bO (by assumption) (by first|assumption|decide) hc;cases e_))|(have hd:=ah hc)|skip)|((with_reducible replace h:=bP h);obtain⟨u,h⟩:=h;replace u:=A_ u;(try dsimp only at h))))
 all_goals simp only[Option.some.injEq,Prod.mk.injEq]at h
 all_goals obtain⟨rfl,rfl,rfl,rfl,rfl,rfl,rfl⟩:=h
 all_goals refine bodyPost_ret (dW rfl _ _ _ _ _ (0,0) _ rfl aJ.out Tryz.underlying30 rfl (by kernel_rfl)) rfl ?_
 all_goals exact⟨_,_,_,_,(by first|rfl|(simp_all;done)),(by first|exact dG|exact Kd.aY _ _ _ _ _),(by first|exact dG|exact Kd.aY _ _ _ _ _),(by first|exact dG|exact Kd.aY _ _ _ _ _),(by first|exact dG|exact Kd.aY _ _ _ _ _),From.out⟩
def gN.f (k:Nat) (H:List (ag)) (F:Int) (u:List Int) (z:Int) (G:Int) (D:List (S64)) (a1:Int):Option (Int):=(a7.f k H F u z G D).bind fun I=>(if I=true then((cA.f a1 0 11).bind fun J=>(if J=true then((dX.f k D 0 a1).bind fun K=>(if K=1 then(some 0)else(if 0≤a1 then(if a1<(u.length:Int)then((nz.f (rd u a1) z).bind fun O=>(some O))else(none))else(none))))else(some 0)))else(some 0))
noncomputable def gN.T3:Bool×List (List Nat×List Nat):=aW .any (opsOf Tryz.f80 3)
def gN.B3:List Nat:=[0,1,3,0,15,31,0,64,255,511]
theorem gN.jR:aW .any (opsOf Tryz.f80 3)=gN.T3:=rfl
theorem gN.jH:bL gN.T3.2 gN.B3=true:=by kernel_rfl
theorem gN.c (k:Nat) (H:Option Addr) (ad:Nat) (D:List (ag)) (U:Int) (I:Option Addr) (ak:Nat) (F:List Int) (V:Int) (X:Int) (J:Option Addr) (al:Nat) (G:List (S64)) (a1:Int) (r:Int) (w:World) (aq:Kd.C aN w H D.length D) (am:D.length≤ad) (ar:Kd.C (Kd.int .i64) w I F.length F) (ao:F.length≤ak) (av:Kd.C aK w J G.length G) (ap:G.length≤al) (h:gN.f k D U F V X G a1=some r):
  Calls Tryz.prog 80 #[.agg #[.slice H D.length ad,.int .i64 U,.slice I F.length ak,.int .i64 V,.int .i64 X,.slice J G.length al],.int .i64 a1] w fun e w'=>e= .returned (.int .i64 r)∧Below w.heap.size w w':=by
 replace aq:=a6.mk aq;replace am:=af.mk am;replace ar:=a6.mk ar;replace ao:=af.mk ao;replace av:=a6.mk av;replace ap:=af.mk ap;unfold gN.f at h;have aG:=Tryz.underlying30;have aH:=Tryz.underlying62
 all_goals go_enter Tryz.func80,Tryz.ntmps80
 all_goals go_wp2_with ((first
  |((with_reducible refine aC (N:=2) rfl ?_);refine bV #[.slice H D.length ad,.int .i64 U,.slice I F.length ak,.int .i64 V,.int .i64 X,.slice J G.length al] 30 fun g w1 j1 j2 aJ=> ?_)
  |(go_at_call 31;(try rw[z.out]);replace h:=bI h;obtain⟨t,A,h⟩:=h;(try dsimp only at h);refine(a7.calls _ _ _ _ _ _ _ _ _ _ _ _ _ _ _ Rd.out af.out Rd.out af.out Rd.out af.out A).mono ?_;rintro e w2 ⟨rfl,hb⟩;have aF:=au.mk hb;clear A hb)
  |(go_at_call 72;(try rw[z.out]);replace h:=bI h;obtain⟨t,A,h⟩:=h;(try dsimp only at h);refine(cA.c _ _ _ _ _ A).mono ?_;rintro e w2 ⟨rfl,n,rfl⟩;clear A)
  |(go_at_call 118;(try rw[z.out]);replace h:=bI h;obtain⟨t,A,h⟩:=h;(try dsimp only at h);refine(dX.c _ _ _ _ _ _ _ _ Rd.out af.out A).mono ?_;rintro e w2 ⟨rfl,hb⟩;have aF:=au.mk hb;clear A hb)
  |(refine qR (id:=3) (ds:=[]) (l:= #[false,false,false,false,false,false,false,false,false,false]) gN.jR gN.jH ?_;intro u O w3 aL u0 aI hHeld;replace h:=bI h;obtain⟨aO,aB,h⟩:=h;(try dsimp only at h);refine qA 0 (some 21) u ?_;refine qA 1 (some 22) u ?_;refine qT 2 (some 23) u O hHeld ?_;refine qA 3 (some 24) u ?_;refine qA 4 (some 25) u ?_;refine qT 5 (some 26) u O hHeld ?_;refine qA 6 (some 27) u ?_;refine qT 7 (some 28) u O hHeld ?_;refine gK 8 (some 29) u fun K hK=> ?_;refine cG Tryz.func119 (by kernel_rfl) rfl _ (by rfl) rfl rfl (by(try simp only[List.map_toArray,List.map_cons,List.map_nil]);rfl) ?_;refine(nz.c _ _ _ _ aB).mono ?_;rintro e u8 ⟨rfl,n,rfl⟩;refine⟨_,rfl,hK.out _ _ From.out fun hHeld=> ?_⟩;clear hK K;refine qN ?_;refine qA 9 (some 4) u ?_;refine qD u ?_;all_goals((try simp only[az]at h);(repeat' first|((with_reducible replace h:=bC h);rcases h with ⟨hc,h⟩|⟨hc,h⟩<;>first|exact(bo h).elim|exact absurd hc (by decide)|subst hc|(replace hc:=aM hc;subst hc)|(replace hc:=bR hc;subst hc)|(replace hc:=bS hc;subst hc)|(have hd:(_==_)=true:=hc)|(have hd:(_==_)=false:=aM hc)|(have hd:=bw hc;have he:=bz hc;clear hc)|(have hd:=bA hc;have he:=bB hc)|(have hd:=ax hc)|(have hd:=ah hc;(try(have hn:=Int.natCast_pos.mp hc;have hm:=ah hn;replace hn:=aw hn));first|(obtain⟨aE,e_,i_⟩:=bQ (by assumption) (by first|assumption|decide) hc;cases e_)|(obtain⟨aD,e_,c_⟩:=bO (by assumption) (by first|assumption|decide) hc;cases e_))|(have hd:=ah hc)|skip)|((with_reducible replace h:=bP h);obtain⟨z,h⟩:=h;replace z:=A_ z;(try dsimp only at h))))));(repeat' first|((with_reducible replace h:=bC h);rcases h with ⟨hc,h⟩|⟨hc,h⟩<;>first|exact(bo h).elim|exact absurd hc (by decide)|subst hc|(replace hc:=aM hc;subst hc)|(replace hc:=bR hc;subst hc)|(replace hc:=bS hc;subst hc)|(have hd:(_==_)=true:=hc)|(have hd:(_==_)=false:=aM hc)|(have hd:=bw hc;have he:=bz hc;clear hc)|(have hd:=bA hc;have he:=bB hc)|(have hd:=ax hc)|(have hd:=ah hc;(try(have hn:=Int.natCast_pos.mp hc;have hm:=ah hn;replace hn:=aw hn));first|(obtain⟨aE,e_,i_⟩:=bQ (by assumption) (by first|assumption|decide) hc;cases e_)|(obtain⟨aD,e_,c_⟩:=bO (by assumption) (by first|assumption|decide) hc;cases e_))|(have hd:=ah hc)|skip)|((with_reducible replace h:=bP h);obtain⟨z,h⟩:=h;replace z:=A_ z;(try dsimp only at h))))
 all_goals obtain rfl:=aA h
 all_goals go_ret
 all_goals exact⟨(by first|rfl|(simp_all;done)),From.out⟩
end P
namespace P
set_option maxHeartbeats 8000000
set_option maxRecDepth 100000
open Go.RowKit WW.bc WW.bY WW.bZ
attribute [local go_sem] cP cT cS cW cR cV cQ cU
def ic.f (k:Nat) (z:List (ag)) (u:Int) (D:List Int) (F:Int) (G:Int) (H:List (S64)):Option (Int):=(a7.f k z u D F G H).bind fun I=>(if I=true then((dz.f k z u D).bind fun J=>(some (wrap64 ((wrap64 ((z.length:Int)-u))+(J.length:Int)))))else(some 0))
def ic.T3:Bool×List (List Nat×List Nat):=(true,[([],[]),([0],[0]),([1],[1]),([2],[2]),([],[]),([4],[4]),([5],[5]),([3,6],[3,6]),([],[]),([8],[8]),([9],[9]),([10],[10]),([7,11],[7,11]),([12,10,0,1,2,3,4,5,6,7,8,9,10,11,12],[12])])
def ic.B3:List Nat:=[0,1,3,7,0,16,48,127,0,256,768,1792,4095,8191]
theorem ic.jR:aW .any (opsOf Tryz.f79 3)=ic.T3:=by kernel_rfl
theorem ic.jH:bL ic.T3.2 ic.B3=true:=by kernel_rfl
theorem ic.c (k:Nat) (af:Option Addr) (al:Nat) (D:List (ag)) (O:Int) (ak:Option Addr) (am:Nat) (I:List Int) (X:Int) (ad:Int) (ap:Option Addr) (aq:Nat) (U:List (S64)) (r:Int) (w:World) (a1:Kd.C aN w af D.length D) (aS:D.length≤al) (a2:Kd.C (Kd.int .i64) w ak I.length I) (aW:I.length≤am) (a3:Kd.C aK w ap U.length U) (aY:U.length≤aq) (h:ic.f k D O I X ad U=some r):
  Calls Tryz.prog 79 #[.agg #[.slice af D.length al,.int .i64 O,.slice ak I.length am,.int .i64 X,.int .i64 ad,.slice ap U.length aq]] w fun e w'=>e= .returned (.int .i64 r)∧Below w.heap.size w w':=by
 have bN:=Tryz.underlying30;have bL:=Tryz.underlying27;have aE:=A_ a1;have av:=A_ aS;clear a1 aS;have aF:=A_ a2;have aB:=A_ aW;clear a2 aW;have aO:=A_ a3;have aM:=A_ aY;clear a3 aY;have z:=A_ (Below.refl w.heap.size w);have H:((a7.f k D O I X ad U).bind fun aH=>(if aH=true then((dz.f k D O I).bind fun aI=>(some (wrap64 ((wrap64 ((D.length:Int)-O))+(aI.length:Int)))))else(some 0)))=some r:=h;clear h;replace H:=ay H;obtain⟨aH,aJ,H⟩:=H
 (try dsimp only at H)
 have A2:=A_ aJ;clear aJ;by_cases c3:aH=true
 ·subst c3;rw[ai rfl]at H;replace H:=ay H;obtain⟨aI,aL,H⟩:=H
  (try dsimp only at H)
  have a4:=A_ aL;clear aL;obtain rfl:=aA H;go_enter Tryz.func79,Tryz.ntmps79
  try go_wp2_with (first|((with_reducible refine aC (N:=1) rfl ?_);refine bX (N:=1) (cs:= #[.slice af D.length al,.int .i64 O,.slice ak I.length am,.int .i64 X,.int .i64 ad,.slice ap U.length aq]) (t:=30) ?_;intro V hg bR ar hb;have F:=A_ (aV (oB z) hb);have G:=A_ (ar);have ao:=A_ ((by rw[hg];exact(aZ (oB z)):w.heap.size≤V));have au:=A_ ((by rw[hg];exact(aZ (oB z)):w.heap.size≤V));clear z;have z:=F;have u:=G;have a6:=ao;have a5:=au;clear F G ao au hb ar hg;have bq:=cz u 0;have br:=cz u 1;have bs:=cz u 2;have bt:=cz u 3;have bu:=cz u 4;have bv:=cz u 5;have bD:=aD u.out 0;have bE:=aD u.out 1;have bG:=aD u.out 2;have bH:=aD u.out 3;have bI:=aD u.out 4;have bK:=aD u.out 5)|((with_reducible refine bp (f:=31) rfl ?_);refine gL (some 4) Tryz.func31 #[.agg #[.slice af D.length al,.int .i64 O,.slice ak I.length am,.int .i64 X,.int .i64 ad,.slice ap U.length aq]] ?_;(with_reducible refine(a7.calls k _ _ D O _ _ I X ad _ _ U true _ ?aT ?aU ?dH ?dO ?gj ?ib A2.out).mono ?_);(case aT=>exact bF aE.out);(case aU=>exact av.out);(case dH=>exact bF aF.out);(case dO=>exact aB.out);(case gj=>exact bF aO.out);(case ib=>exact aM.out);rintro e w7 ⟨rfl,hb⟩;refine⟨_,rfl,?_⟩;have F:=A_ (bb u hb);have G:=A_ (aV (oB z) hb);clear u z;have u:=F;have z:=G;clear F G;(try clear hb);(try clear hb2);(try clear hk);(try clear hi)))
  have F:=A_ (bn u.out);have G:=A_ (cv z.out);clear u z;have u:=F;have z:=G;clear F G;refine fX (n:=14) (S:=fun w'=>w'.cell? ⟨V,0,none⟩=some (.slice af D.length al)∧w'.cell? ⟨V,1,none⟩=some (.int .i64 O)∧w'.cell? ⟨V,2,none⟩=some (.slice ak I.length am)∧w'.cell? ⟨V,3,none⟩=some (.int .i64 X)∧w'.cell? ⟨V,4,none⟩=some (.int .i64 ad)∧w'.cell? ⟨V,5,none⟩=some (.slice ap U.length aq)) (ds:=[]) #[false,false,false,false,false,false,false,false,false,false,false,false,false,false] (by kernel_rfl) rfl rfl ⟨cz u 0,cz u 1,cz u 2,cz u 3,cz u 4,cz u 5⟩ (fun hHeld=> ?_);refine gQ ic.jR ic.jH (fun J aG=> ?_);generalize w7.drew=bS at u z hHeld ⊢;refine pA 0 (some 6) J.out ?_;refine pA 1 (some 7) J.out ?_;refine pA 4 (some 10) J.out ?_;refine pA 5 (some 11) J.out ?_;refine pA 8 (some 14) J.out ?_;refine pT 2 (some 8) J.out aG.out hHeld ?_;refine pA 3 (some 9) J.out ?_;refine pT 6 (some 12) J.out aG.out hHeld ?_;refine pA 7 (some 13) J.out ?_;refine pT 9 (some 15) J.out aG.out hHeld ?_;refine dN (i:=10) (N:=some 16) #[true,true,true,true,true,true,true,true,true,true,true,false,false,false] rfl rfl (dF J.out (by kernel_rfl)) (by decide) (fun K hK=> ?_);refine cG Tryz.func112 (by kernel_rfl) rfl #[.agg #[.slice af D.length al,.int .i64 O,.slice ak I.length am]] (by rfl) rfl rfl (by(try simp only[List.map_toArray,List.map_cons,List.map_nil]);first|done|rfl|(simp only[List.length_drop,List.length_take];rfl)) ?_
  with_reducible refine(dz.c k _ _ D O _ _ I aI _ ?aT ?aU ?dH ?dO a4.out).mono ?_
  (case aT=>exact bF aE.out)
  (case aU=>exact av.out)
  (case dH=>exact bF aF.out)
  (case dO=>exact aB.out)
  rintro e bT ⟨bO,rfl,a0,hb⟩;refine⟨_,rfl,?_⟩;have F:=A_ (Kd.cD a0 (aZ (oB z)));have G:=A_ (bb u hb);have ao:=A_ (aV (oB z) hb);clear u z;have a9:=F;have u:=G;have z:=ao;clear F G ao
  (try clear hb)
  (try clear hb2)
  (try clear hk)
  (try clear hi)
  (try clear a0)
  obtain⟨be,bf,aP⟩:=Kd.cJ a9.out
  (first|subst aP|(injection aP with aQ a_ aR;have bc:=aQ.symm;have bd:=aR.symm;clear aQ a_ aR;subst bc;subst bd))
  refine hK.out _ _ ⟨cz u 0,cz u 1,cz u 2,cz u 3,cz u 4,cz u 5⟩ (fun hHeld=> ?_);clear hK K;refine dS (a':= ?_) ?_ ?_;rotate_left
  ·show Act.put _ (some 16) _=_;simp only[Act.put,List.setIfInBounds_toArray,List.set_cons_zero,List.set_cons_succ,bJ,cu];rfl
  refine pA 11 (some 17) J.out ?_;refine pA 12 (some 18) J.out ?_;refine pA 13 (some 2) J.out ?_;refine fH (gb J.out (by kernel_rfl)) ?_
  try go_wp2
  go_ret;exact⟨eR,oB z⟩
 ·replace c3:=Bool.eq_false_iff.mpr c3;subst c3;rw[aj (show¬(false=true)by decide)]at H;obtain rfl:=aA H;go_enter Tryz.func79,Tryz.ntmps79
  go_wp2_with (first|((with_reducible refine aC (N:=1) rfl ?_);refine bX (N:=1) (cs:= #[.slice af D.length al,.int .i64 O,.slice ak I.length am,.int .i64 X,.int .i64 ad,.slice ap U.length aq]) (t:=30) ?_;intro V hg bP ar hb;have F:=A_ (aV (oB z) hb);have G:=A_ (ar);have ao:=A_ ((by rw[hg];exact(aZ (oB z)):w.heap.size≤V));have au:=A_ ((by rw[hg];exact(aZ (oB z)):w.heap.size≤V));clear z;have z:=F;have u:=G;have a6:=ao;have a5:=au;clear F G ao au hb ar hg;have bg:=cz u 0;have bj:=cz u 1;have bk:=cz u 2;have bl:=cz u 3;have bm:=cz u 4;have bo:=cz u 5;have bw:=aD u.out 0;have bx:=aD u.out 1;have bz:=aD u.out 2;have bA:=aD u.out 3;have bB:=aD u.out 4;have bC:=aD u.out 5)|((with_reducible refine bp (f:=31) rfl ?_);refine gL (some 4) Tryz.func31 #[.agg #[.slice af D.length al,.int .i64 O,.slice ak I.length am,.int .i64 X,.int .i64 ad,.slice ap U.length aq]] ?_;(with_reducible refine(a7.calls k _ _ D O _ _ I X ad _ _ U false _ ?aT ?aU ?dH ?dO ?gj ?ib A2.out).mono ?_);(case aT=>exact bF aE.out);(case aU=>exact av.out);(case dH=>exact bF aF.out);(case dO=>exact aB.out);(case gj=>exact bF aO.out);(case ib=>exact aM.out);rintro e bQ ⟨rfl,hb⟩;refine⟨_,rfl,?_⟩;have F:=A_ (bb u hb);have G:=A_ (aV (oB z) hb);clear u z;have u:=F;have z:=G;clear F G;(try clear hb);(try clear hb2);(try clear hk);(try clear hi)))
  go_ret;exact⟨eR,oB z⟩
def dT.l0:Nat→List ByteArray→Int→List (ag)→Int→List Int→Int→Int→List (S64)→Option (List ByteArray)
 |0,_,_,_,_,_,_,_,_=>none
 |k+1,x3,u,F,G,H,I,J,z=>if u<(z.length:Int)then(if 0≤u then((fq.f k (([(aq z u).f0.f0,(aq z u).f0.f1,(aq z u).f1,(aq z u).f2]:List Int))).bind fun D=>(if x3.length<8796093022208 then(dT.l0 k (x3++[D]) (wrap64 (u+1)) F G H I J z)else(none)))else(none))else(some x3)
def dT.f (k:Nat) (G:List (ag)) (u:Int) (F:List Int) (z:Int) (D:Int) (H:List (S64)):Option (List ByteArray):=(a7.f k G u F z D H).bind fun U=>(if U=true then((fq.f k F).bind fun I=>(if 8+I.size≤9223372036854775807 then((dE.f k u).bind fun J=>(if 5+J.size≤9223372036854775807 then((dE.f k z).bind fun K=>(if 7+K.size≤9223372036854775807 then((dE.f k D).bind fun O=>(if 7+O.size≤9223372036854775807 then(dT.l0 k (([(⟨#[112,105,116,99,104,101,115,32]⟩:ByteArray)++I,(⟨#[100,111,110,101,32]⟩:ByteArray)++J,(⟨#[119,97,114,109,116,104,32]⟩:ByteArray)++K,(⟨#[109,111,109,101,110,116,32]⟩:ByteArray)++O]:List ByteArray)) 0 G u F z D H)else(none)))else(none)))else(none)))else(none)))else(some (([]:List ByteArray))))
def dT.T3:Bool×List (List Nat×List Nat):=(true,[([],[]),([0],[0]),([1],[1]),([2],[2]),([3],[3]),([],[]),([5],[5]),([6],[6]),([7,3],[7]),([8],[8]),([],[]),([10],[10]),([11,8],[11]),([12],[12]),([],[]),([14],[14]),([15,12],[15]),([16],[16]),([4,9,13,17],[4,9,13,17]),([18,16,0,1,2,3,4,5,6,7,8,9,10,11,12,13,14,15,16,17,18],[18])])
def dT.B3:List Nat:=[0,1,3,7,15,0,32,96,239,495,0,1024,3567,7663,0,16384,56815,122351,262143,524287]
theorem dT.jR:aW .any (opsOf Tryz.f13 3)=dT.T3:=by kernel_rfl
theorem dT.jH:bL dT.T3.2 dT.B3=true:=by kernel_rfl
theorem dT.c (k:Nat) (aM:Option Addr) (aR:Nat) (af:List (ag)) (V:Int) (aH:Option Addr) (aJ:Nat) (J:List Int) (X:Int) (ad:Int) (aY:Option Addr) (aW:Nat) (D:List (S64)) (r:List ByteArray) (w:World) (bW:Kd.C aN w aM af.length af) (bT:af.length≤aR) (bY:Kd.C (Kd.int .i64) w aH J.length J) (bU:J.length≤aJ) (bZ:Kd.C aK w aY D.length D) (bV:D.length≤aW) (h:dT.f k af V J X ad D=some r):
  Calls Tryz.prog 13 #[.agg #[.slice aM af.length aR,.int .i64 V,.slice aH J.length aJ,.int .i64 X,.int .i64 ad,.slice aY D.length aW]] w fun e w'=>∃b9:Value,e= .returned (b9)∧Kd.R Kd.string 9 w' w.heap.size (fun _=>True) b9 r∧Below w.heap.size w w':=by
 have d':=Tryz.underlying30;have hu64:=Tryz.underlying64;have bP:=A_ bW;have bL:=A_ bT;clear bW bT;have bv:=A_ bY;have bu:=A_ bU;clear bY bU;have bw:=A_ bZ;have bN:=A_ bV;clear bZ bV;have z:=A_ (Below.refl w.heap.size w);have H:((a7.f k af V J X ad D).bind fun bA=>(if bA=true then((fq.f k J).bind fun ar=>(if 8+ar.size≤9223372036854775807 then((dE.f k V).bind fun au=>(if 5+au.size≤9223372036854775807 then((dE.f k X).bind fun av=>(if 7+av.size≤9223372036854775807 then((dE.f k ad).bind fun aE=>(if 7+aE.size≤9223372036854775807 then(dT.l0 k (([(⟨#[112,105,116,99,104,101,115,32]⟩:ByteArray)++ar,(⟨#[100,111,110,101,32]⟩:ByteArray)++au,(⟨#[119,97,114,109,116,104,32]⟩:ByteArray)++av,(⟨#[109,111,109,101,110,116,32]⟩:ByteArray)++aE]:List ByteArray)) 0 af V J X ad D)else(none)))else(none)))else(none)))else(none)))else(some (([]:List ByteArray)))))=some r:=h;clear h;replace H:=ay H;obtain⟨bA,bE,H⟩:=H
 (try dsimp only at H)
 have A2:=A_ bE;clear bE;by_cases c3:bA=true
 ·subst c3;rw[ai rfl]at H;replace H:=ay H;obtain⟨ar,bH,H⟩:=H
  (try dsimp only at H)
  have cc:=A_ bH;clear bH;by_cases c5:8+ar.size≤9223372036854775807
  ·rw[ai c5]at H;have cA:=aw c5;have cB:decide (8+ar.size≤9223372036854775807)=true:=ah c5
   try have cF:(9223372036854775807<8+ar.size)=False:=il (Nat.not_lt.2 c5)
   replace H:=ay H;obtain⟨au,bI,H⟩:=H
   (try dsimp only at H)
   have cd:=A_ bI;clear bI;by_cases c7:5+au.size≤9223372036854775807
   ·rw[ai c7]at H;have cH:=aw c7;have cI:decide (5+au.size≤9223372036854775807)=true:=ah c7
    try have cK:(9223372036854775807<5+au.size)=False:=il (Nat.not_lt.2 c7)
    replace H:=ay H;obtain⟨av,bK,H⟩:=H
    (try dsimp only at H)
    have ce:=A_ bK;clear bK;by_cases c9:7+av.size≤9223372036854775807
    ·rw[ai c9]at H;have cL:=aw c9;have cN:decide (7+av.size≤9223372036854775807)=true:=ah c9
     try have cO:(9223372036854775807<7+av.size)=False:=il (Nat.not_lt.2 c9)
     replace H:=ay H;obtain⟨aE,bC,H⟩:=H
     (try dsimp only at H)
     have ca:=A_ bC;clear bC;by_cases c11:7+aE.size≤9223372036854775807
     ·rw[ai c11]at H;have ct:=aw c11;have cw:decide (7+aE.size≤9223372036854775807)=true:=ah c11
      try have cx:(9223372036854775807<7+aE.size)=False:=il (Nat.not_lt.2 c11)
      obtain⟨b_,bj⟩:∃a3:List ByteArray,a3=(([(⟨#[112,105,116,99,104,101,115,32]⟩:ByteArray)++ar,(⟨#[100,111,110,101,32]⟩:ByteArray)++au,(⟨#[119,97,114,109,116,104,32]⟩:ByteArray)++av,(⟨#[109,111,109,101,110,116,32]⟩:ByteArray)++aE]:List ByteArray)):=⟨_,rfl⟩;replace H:(dT.l0 k b_ 0 af V J X ad D)=some r:=by first|(rw[bj];with_reducible exact H)|(have am:=(az _ _).symm.trans H;rw[bj];with_reducible exact am)|(have am:=(az _ _).symm.trans H;with_reducible exact am)|with_reducible exact H|(rw[bj];exact H)|exact H
      have bR:=A_ bj;clear bj;have H':=A_ H;clear H;go_enter Tryz.func13,Tryz.ntmps13
      try go_wp2_with (first|((with_reducible refine aC (N:=1) rfl ?_);refine bX (N:=1) (cs:= #[.slice aM af.length aR,.int .i64 V,.slice aH J.length aJ,.int .i64 X,.int .i64 ad,.slice aY D.length aW]) (t:=30) ?_;intro ap hg eg a0 hb;have G:=A_ (aV (oB z) hb);have I:=A_ (a0);have O:=A_ ((by rw[hg];exact(aZ (oB z)):w.heap.size≤ap));have al:=A_ ((by rw[hg];exact(aZ (oB z)):w.heap.size≤ap));clear z;have z:=G;have u:=I;have ch:=O;have cg:=al;clear G I O al hb a0 hg;have cS:=cz u 0;have cT:=cz u 1;have cU:=cz u 2;have cV:=cz u 3;have cW:=cz u 4;have cX:=cz u 5;have cY:=aD u.out 0;have cZ:=aD u.out 1;have c0:=aD u.out 2;have c4:=aD u.out 3;have c6:=aD u.out 4;have c8:=aD u.out 5)|((with_reducible refine bp (f:=31) rfl ?_);refine gL (some 7) Tryz.func31 #[.agg #[.slice aM af.length aR,.int .i64 V,.slice aH J.length aJ,.int .i64 X,.int .i64 ad,.slice aY D.length aW]] ?_;(with_reducible refine(a7.calls k _ _ af V _ _ J X ad _ _ D true _ ?aT ?aU ?dH ?dO ?gj ?ib A2.out).mono ?_);(case aT=>exact bF bP.out);(case aU=>exact bL.out);(case dH=>exact bF bv.out);(case dO=>exact bu.out);(case gj=>exact bF bw.out);(case ib=>exact bN.out);rintro e c_ ⟨rfl,hb⟩;refine⟨_,rfl,?_⟩;have G:=A_ (bb u hb);have I:=A_ (aV (oB z) hb);clear u z;have u:=G;have z:=I;clear G I;(try clear hb);(try clear hb2);(try clear hk);(try clear hi)))
      have G:=A_ (bn u.out);have I:=A_ (cv z.out);clear u z;have u:=G;have z:=I;clear G I;refine fX (n:=20) (S:=fun w'=>w'.cell? ⟨ap,0,none⟩=some (.slice aM af.length aR)∧w'.cell? ⟨ap,1,none⟩=some (.int .i64 V)∧w'.cell? ⟨ap,2,none⟩=some (.slice aH J.length aJ)∧w'.cell? ⟨ap,3,none⟩=some (.int .i64 X)∧w'.cell? ⟨ap,4,none⟩=some (.int .i64 ad)∧w'.cell? ⟨ap,5,none⟩=some (.slice aY D.length aW)) (ds:=[]) #[false,false,false,false,false,false,false,false,false,false,false,false,false,false,false,false,false,false,false,false] (by kernel_rfl) rfl rfl ⟨cz u 0,cz u 1,cz u 2,cz u 3,cz u 4,cz u 5⟩ (fun hHeld=> ?_);refine gQ dT.jR dT.jH (fun U bo=> ?_);generalize c_.drew=ei at u z hHeld ⊢;refine pA 0 (some 10) U.out ?_;refine pA 1 (some 11) U.out ?_;refine pA 5 (some 15) U.out ?_;refine pA 6 (some 16) U.out ?_;refine pA 10 (some 20) U.out ?_;refine pA 14 (some 24) U.out ?_;refine pT 2 (some 12) U.out bo.out hHeld ?_;refine pT 7 (some 17) U.out bo.out hHeld ?_;refine pT 11 (some 21) U.out bo.out hHeld ?_;refine pT 15 (some 25) U.out bo.out hHeld ?_;refine dN (i:=3) (N:=some 13) #[true,true,true,true,false,true,true,true,false,false,true,true,false,false,true,true,false,false,false,false] rfl rfl (dF U.out (by kernel_rfl)) (by decide) (fun K hK=> ?_);refine cG Tryz.func34 (by kernel_rfl) rfl #[.slice aH J.length aJ] (by rfl) rfl rfl (by(try simp only[List.map_toArray,List.map_cons,List.map_nil]);first|done|rfl|(simp only[List.length_drop,List.length_take];rfl)) ?_
      with_reducible refine(fq.c k _ _ J ar _ ?aT ?aU cc.out).mono ?_
      (case aT=>exact bF bv.out)
      (case aU=>exact bu.out)
      rintro e ej ⟨rfl,hb⟩;refine⟨_,rfl,?_⟩;have G:=A_ (bb u hb);have I:=A_ (aV (oB z) hb);clear u z;have u:=G;have z:=I;clear G I
      (try clear hb)
      (try clear hb2)
      (try clear hk)
      (try clear hi)
      refine hK.out _ _ ⟨cz u 0,cz u 1,cz u 2,cz u 3,cz u 4,cz u 5⟩ (fun hHeld=> ?_);clear hK K;refine dS (a':= ?_) ?_ ?_;rotate_left
      ·show Act.put _ (some 13) _=_;simp only[Act.put,List.setIfInBounds_toArray,List.set_cons_zero,List.set_cons_succ,bJ,cu];rfl
      refine pA 4 (some 14) U.out ?_;refine dN (i:=8) (N:=some 18) #[true,true,true,true,true,true,true,true,true,false,true,true,false,false,true,true,false,false,false,false] rfl rfl (dF U.out (by kernel_rfl)) (by decide) (fun K hK=> ?_);refine cG Tryz.func35 (by kernel_rfl) rfl #[.int .i64 V] (by rfl) rfl rfl (by(try simp only[List.map_toArray,List.map_cons,List.map_nil]);first|done|rfl|(simp only[List.length_drop,List.length_take];rfl)) ?_
      with_reducible refine(dE.c k V au _ cd.out).mono ?_
      rintro e el ⟨rfl,hb⟩;refine⟨_,rfl,?_⟩;have G:=A_ (bb u hb);have I:=A_ (aV (oB z) hb);clear u z;have u:=G;have z:=I;clear G I
      (try clear hb)
      (try clear hb2)
      (try clear hk)
      (try clear hi)
      refine hK.out _ _ ⟨cz u 0,cz u 1,cz u 2,cz u 3,cz u 4,cz u 5⟩ (fun hHeld=> ?_);clear hK K;refine dS (a':= ?_) ?_ ?_;rotate_left
      ·show Act.put _ (some 18) _=_;simp only[Act.put,List.setIfInBounds_toArray,List.set_cons_zero,List.set_cons_succ,bJ,cu];rfl
      refine pA 9 (some 19) U.out ?_;refine dN (i:=12) (N:=some 22) #[true,true,true,true,true,true,true,true,true,true,true,true,true,false,true,true,false,false,false,false] rfl rfl (dF U.out (by kernel_rfl)) (by decide) (fun K hK=> ?_);refine cG Tryz.func35 (by kernel_rfl) rfl #[.int .i64 X] (by rfl) rfl rfl (by(try simp only[List.map_toArray,List.map_cons,List.map_nil]);first|done|rfl|(simp only[List.length_drop,List.length_take];rfl)) ?_
      with_reducible refine(dE.c k X av _ ce.out).mono ?_
      rintro e em ⟨rfl,hb⟩;refine⟨_,rfl,?_⟩;have G:=A_ (bb u hb);have I:=A_ (aV (oB z) hb);clear u z;have u:=G;have z:=I;clear G I
      (try clear hb)
      (try clear hb2)
      (try clear hk)
      (try clear hi)
      refine hK.out _ _ ⟨cz u 0,cz u 1,cz u 2,cz u 3,cz u 4,cz u 5⟩ (fun hHeld=> ?_);clear hK K;refine dS (a':= ?_) ?_ ?_;rotate_left
      ·show Act.put _ (some 22) _=_;simp only[Act.put,List.setIfInBounds_toArray,List.set_cons_zero,List.set_cons_succ,bJ,cu];rfl
      refine pA 13 (some 23) U.out ?_;refine dN (i:=16) (N:=some 26) #[true,true,true,true,true,true,true,true,true,true,true,true,true,true,true,true,true,false,false,false] rfl rfl (dF U.out (by kernel_rfl)) (by decide) (fun K hK=> ?_);refine cG Tryz.func35 (by kernel_rfl) rfl #[.int .i64 ad] (by rfl) rfl rfl (by(try simp only[List.map_toArray,List.map_cons,List.map_nil]);first|done|rfl|(simp only[List.length_drop,List.length_take];rfl)) ?_
      with_reducible refine(dE.c k ad aE _ ca.out).mono ?_
      rintro e en ⟨rfl,hb⟩;refine⟨_,rfl,?_⟩;have G:=A_ (bb u hb);have I:=A_ (aV (oB z) hb);clear u z;have u:=G;have z:=I;clear G I
      (try clear hb)
      (try clear hb2)
      (try clear hk)
      (try clear hi)
      refine hK.out _ _ ⟨cz u 0,cz u 1,cz u 2,cz u 3,cz u 4,cz u 5⟩ (fun hHeld=> ?_);clear hK K;refine dS (a':= ?_) ?_ ?_;rotate_left
      ·show Act.put _ (some 26) _=_;simp only[Act.put,List.setIfInBounds_toArray,List.set_cons_zero,List.set_cons_succ,bJ,cu];rfl
      refine pA 17 (some 27) U.out ?_;refine dN (i:=18) (N:=some 28) #[true,true,true,true,true,true,true,true,true,true,true,true,true,true,true,true,true,true,true,false] rfl rfl (dF U.out (by kernel_rfl)) (by decide) (fun K hK=> ?_);refine Kd.kI Kd.string _ 9 ?hg (N:=28) ?hd (xs:=([(⟨#[112,105,116,99,104,101,115,32]⟩:ByteArray)++ar,(⟨#[100,111,110,101,32]⟩:ByteArray)++au,(⟨#[119,97,114,109,116,104,32]⟩:ByteArray)++av,(⟨#[109,111,109,101,110,116,32]⟩:ByteArray)++aE]:List ByteArray)) (inner:=[.string ((⟨#[112,105,116,99,104,101,115,32]⟩:ByteArray)++ar),.string ((⟨#[100,111,110,101,32]⟩:ByteArray)++au),.string ((⟨#[119,97,114,109,116,104,32]⟩:ByteArray)++av),.string ((⟨#[109,111,109,101,110,116,32]⟩:ByteArray)++aE)]) (ok:=fun _=>True) (bD:=fun _=>True) ?hr ?hp (fun _ hk=>hk) trivial (Below.refl _ _) (Nat.le_refl _) (by simp) ?_;(case hd=>rfl);(case hg=>rfl);(case hr=>first|(go_simp;done)|(go_simp;rfl));(case hp=>exact(aI.one (show Kd.M Kd.string _ _ _ ((⟨#[112,105,116,99,104,101,115,32]⟩:ByteArray)++ar) [.string ((⟨#[112,105,116,99,104,101,115,32]⟩:ByteArray)++ar)]from rfl) (aI.one (show Kd.M Kd.string _ _ _ ((⟨#[100,111,110,101,32]⟩:ByteArray)++au) [.string ((⟨#[100,111,110,101,32]⟩:ByteArray)++au)]from rfl) (aI.one (show Kd.M Kd.string _ _ _ ((⟨#[119,97,114,109,116,104,32]⟩:ByteArray)++av) [.string ((⟨#[119,97,114,109,116,104,32]⟩:ByteArray)++av)]from rfl) (aI.one (show Kd.M Kd.string _ _ _ ((⟨#[109,111,109,101,110,116,32]⟩:ByteArray)++aE) [.string ((⟨#[109,111,109,101,110,116,32]⟩:ByteArray)++aE)]from rfl) (aI.none _ _))))));intro eb eo bc hb a9 a_;clear a9 a_
      (first|rw[←bR.out]at bc|(simp only[Int.reduceToNat]at bc;rw[←bR.out]at bc))
      have G:=A_ (Kd.cD bc (aZ (oB z)));have I:=A_ (bb u hb);have O:=A_ (aV (oB z) hb);clear u z;have cj:=G;have u:=I;have z:=O;clear G I O hb bc;refine hK.out _ _ ⟨cz u 0,cz u 1,cz u 2,cz u 3,cz u 4,cz u 5⟩ (fun hHeld=> ?_);clear hK K;refine dS (a':= ?_) ?_ ?_;rotate_left
      ·show Act.put _ (some 28) _=_;simp only[Act.put,List.setIfInBounds_toArray,List.set_cons_zero,List.set_cons_succ,bJ,cu];rfl
      refine pA 19 (some 3) U.out ?_;refine fH (gb U.out (by kernel_rfl)) ?_
      try go_wp2
      go_loopg [3,4] k (fun b4 v3 v4 w'=>∃(a1:List ByteArray) (F:Int),v4= .int .i64 F∧ae (dT.l0 b4 a1 F af V J X ad D=some r)∧ae (b4≤k)∧ae (Kd.R Kd.string 9 w' w.heap.size (fun _=>True) v3 a1)∧ae (w'.heap[ap]? =some (.cells #[(.slice aM af.length aR),.int .i64 V,(.slice aH J.length aJ),.int .i64 X,.int .i64 ad,(.slice aY D.length aW)] 30 (0,0)))∧ae (Below w.heap.size w w'))
      case atStart=>exact⟨(b_),(0),eS,H',⟨Nat.le_refl _⟩,⟨oR cj⟩,⟨oK u⟩,⟨oB z⟩⟩
      case round=>
       clear H'
       try clear c1
       try clear p2
       try clear c3
       try clear c5
       try clear cA
       try clear cB
       try clear cF
       try clear c7
       try clear cH
       try clear cI
       try clear cK
       try clear c9
       try clear cL
       try clear cN
       try clear cO
       try clear c11
       try clear ct
       try clear cw
       try clear cx
       try clear c13
       try clear cS
       try clear cT
       try clear cU
       try clear cV
       try clear cW
       try clear cX
       try clear cY
       try clear cZ
       try clear c0
       try clear c4
       try clear c6
       try clear c8
       obtain⟨a1,F,rfl,bs,bO,ao,u,z⟩:=hrel;cases gk with
       |zero=>exact absurd bs.out (by simp[dT.l0])
       |succ k1=>
        have H:=bs.out;clear bs;simp only[dT.l0]at H;by_cases a4:F<(D.length:Int)
        ·rw[ai a4]at H;have cy:decide (F<(D.length:Int))=true:=ah a4;clear a4;by_cases bq:0≤F
         ·rw[ai bq]at H;have dc:decide (0≤F)=true:=ah bq;clear bq;obtain⟨bB,bk⟩:∃a3:List Int,a3=(([(aq D F).f0.f0,(aq D F).f0.f1,(aq D F).f1,(aq D F).f2]:List Int)):=⟨_,rfl⟩;replace H:((fq.f k1 bB).bind fun a5=>(if a1.length<8796093022208 then(dT.l0 k1 (a1++[a5]) (wrap64 (F+1)) af V J X ad D)else(none)))=some r:=by first|(rw[bk];with_reducible exact H)|(have am:=(az _ _).symm.trans H;rw[bk];with_reducible exact am)|(have am:=(az _ _).symm.trans H;with_reducible exact am)|with_reducible exact H|(rw[bk];exact H)|exact H
          have bS:=A_ bk;clear bk;replace H:=ay H;obtain⟨a5,bG,H⟩:=H
          (try dsimp only at H)
          have cb:=A_ bG;clear bG;by_cases br:a1.length<8796093022208
          ·rw[ai br]at H;have cl:=A_ br;clear br;obtain⟨b',bm⟩:∃a3:List ByteArray,a3=(a1++[a5]):=⟨_,rfl⟩;replace H:(dT.l0 k1 b' (wrap64 (F+1)) af V J X ad D)=some r:=by first|(rw[bm];with_reducible exact H)|(have am:=(az _ _).symm.trans H;rw[bm];with_reducible exact am)|(have am:=(az _ _).symm.trans H;with_reducible exact am)|with_reducible exact H|(rw[bm];exact H)|exact H
           have co:=A_ bm;clear bm;have H':=A_ H;clear H;have dd:=cz u 0;have de:=cz u 1;have df:=cz u 2;have dg:=cz u 3;have dh:=cz u 4;have di:=cz u 5;have dD:=aD u.out 0;have dG:=aD u.out 1;have dI:=aD u.out 2;have dJ:=aD u.out 3;have dK:=aD u.out 4;have dL:=aD u.out 5;have bx:0≤(F:Int):=oD;have bz:F<(D.length:Int):=oD;obtain⟨cp,cQ,b0,b1,b2,b3⟩:=eA bw.out F bx bz;cases cQ;replace b0:=hW z b0;replace b1:=hW z b1;replace b2:=hW z b2;replace b3:=hW z b3;replace bx:=aw bx;replace bz:=aw bz
           go_wp2_with (first|((with_reducible refine aC (N:=5) rfl ?_);refine bX (N:=5) (cs:= #[.int .i64 0,.int .i64 0,.int .i64 0,.int .i64 0]) (t:=64) ?_;intro a2 hg ep a0 hb;have G:=A_ (Kd.b6 (oR ao) hb);have I:=A_ (bb u hb);have O:=A_ (aV (oB z) hb);have al:=A_ (a0);have aG:=A_ ((by rw[hg];exact(aZ (oB z)):w.heap.size≤a2));have b5:=A_ ((by rw[hg];exact(aZ (oB z)):w.heap.size≤a2));have b7:=A_ (nL u hg);have b8:=A_ (nG u hg);clear ao u z;have ao:=G;have u:=I;have z:=O;have ak:=al;have db:=aG;have da:=b5;have a6:=b7;have cn:=b8;clear G I O al aG b5 b7 b8 hb a0 hg;have d9:=cn.out;have d_:=a6.out;have dj:=cz ak 0;have dk:=cz ak 1;have dl:=cz ak 2;have dm:=cz ak 3;have dP:=aD ak.out 0;have dQ:=aD ak.out 1;have dU:=aD ak.out 2;have dV:=aD ak.out 3)|((with_reducible refine aC (N:=52) rfl ?_);refine Kd.dR (Kd.int .i64) _ 3 ?hg (N:=52) ?hd (xs:=([(aq D F).f0.f0,(aq D F).f0.f1,(aq D F).f1,(aq D F).f2]:List Int)) (inner:=[.int .i64 ((aq D F).f0.f0),.int .i64 ((aq D F).f0.f1),.int .i64 ((aq D F).f1),.int .i64 ((aq D F).f2)]) (ok:=fun _=>True) (bD:=fun _=>True) ?hr ?hp (fun _ hk=>hk) trivial (Below.refl _ _) (Nat.le_refl _) (by simp) ?_;(case hd=>rfl);(case hg=>rfl);(case hr=>first|(go_simp;done)|(go_simp;rfl));(case hp=>exact(aI.one (show Kd.M (Kd.int .i64) _ _ _ ((aq D F).f0.f0) [.int .i64 ((aq D F).f0.f0)]from rfl) (aI.one (show Kd.M (Kd.int .i64) _ _ _ ((aq D F).f0.f1) [.int .i64 ((aq D F).f0.f1)]from rfl) (aI.one (show Kd.M (Kd.int .i64) _ _ _ ((aq D F).f1) [.int .i64 ((aq D F).f1)]from rfl) (aI.one (show Kd.M (Kd.int .i64) _ _ _ ((aq D F).f2) [.int .i64 ((aq D F).f2)]from rfl) (aI.none _ _))))));intro ec er bd hb a9 a_;clear a9 a_;(first|rw[←bS.out]at bd|(simp only[Int.reduceToNat]at bd;rw[←bS.out]at bd));have G:=A_ (Kd.b6 (by(with_reducible repeat(first|apply Kd.cC|apply Kd.cM|apply Kd.cq));exact(Kd.cm (Kd.dM (p:=⟨a2,3,none⟩) (Kd.dM (p:=⟨a2,2,none⟩) (Kd.dM (p:=⟨a2,1,none⟩) (Kd.dM (p:=⟨a2,0,none⟩) (Kd.lz ao.out ak.out (by decide)) (fun _ hk=>hk.2) (.int .i64 ((aq D F).f0.f0))) (fun _ hk=>hk.2) (.int .i64 ((aq D F).f0.f1))) (fun _ hk=>hk.2) (.int .i64 ((aq D F).f1))) (fun _ hk=>hk.2) (.int .i64 ((aq D F).f2))) (fun _ h_=>h_.1))) hb);have I:=A_ (Kd.cD bd (aZ (oB z)));have O:=A_ (iU (g:=ap) (o:= .cells #[.slice aM af.length aR,.int .i64 V,.slice aH J.length aJ,.int .i64 X,.int .i64 ad,.slice (some cp) D.length aW] 30 (0,0)) (by(with_reducible repeat(first|refine bt ?_ _|refine bn ?_|refine bl ?_ _));refine eO ?_ a6.out _;(with_reducible repeat(first|refine bt ?_ _|refine bn ?_|refine bl ?_ _));refine eO ?_ a6.out _;(with_reducible repeat(first|refine bt ?_ _|refine bn ?_|refine bl ?_ _));refine eO ?_ a6.out _;(with_reducible repeat(first|refine bt ?_ _|refine bn ?_|refine bl ?_ _));refine eO ?_ a6.out _;(with_reducible repeat(first|refine bt ?_ _|refine bn ?_|refine bl ?_ _));exact u.out) hb);have al:=A_ (iU (g:=a2) (o:= .cells #[.int .i64 ((aq D F).f0.f0),.int .i64 ((aq D F).f0.f1),.int .i64 ((aq D F).f1),.int .i64 ((aq D F).f2)] 64 (0,0)) (by(with_reducible repeat(first|refine bt ?_ _|refine bn ?_|refine bl ?_ _));refine cE (cs:= #[.int .i64 ((aq D F).f0.f0),.int .i64 ((aq D F).f0.f1),.int .i64 ((aq D F).f1),.int .i64 0]) ?_ 3 _ rfl;(with_reducible repeat(first|refine bt ?_ _|refine bn ?_|refine bl ?_ _));refine cE (cs:= #[.int .i64 ((aq D F).f0.f0),.int .i64 ((aq D F).f0.f1),.int .i64 0,.int .i64 0]) ?_ 2 _ rfl;(with_reducible repeat(first|refine bt ?_ _|refine bn ?_|refine bl ?_ _));refine cE (cs:= #[.int .i64 ((aq D F).f0.f0),.int .i64 0,.int .i64 0,.int .i64 0]) ?_ 1 _ rfl;(with_reducible repeat(first|refine bt ?_ _|refine bn ?_|refine bl ?_ _));refine cE (cs:= #[.int .i64 0,.int .i64 0,.int .i64 0,.int .i64 0]) ?_ 0 _ rfl;(with_reducible repeat(first|refine bt ?_ _|refine bn ?_|refine bl ?_ _));exact ak.out) hb);have aG:=A_ (aV (oB z) hb);clear ao u ak z;have ao:=G;have aQ:=I;have u:=O;have ak:=al;have z:=aG;clear G I O al aG hb bd;obtain⟨cf,cP,cR⟩:=Kd.cJ aQ.out;subst cR)|((with_reducible refine bp (f:=34) rfl ?_);refine gL (some 53) Tryz.func34 #[.slice cf bB.length cP] ?_;(with_reducible refine(fq.c k1 _ _ bB a5 _ ?aT ?aU cb.out).mono ?_);(case aT=>repeat(first|exact(Kd.cr aQ.out).2.2|(with_reducible refine Kd.lv ?_ _)|(with_reducible refine Kd.lT ?_ _)|(with_reducible refine Kd.lS ?_)));(case aU=>exact(Kd.cr aQ.out).2.1);rintro e es ⟨rfl,hb⟩;refine⟨_,rfl,?_⟩;have G:=A_ (Kd.b6 (oR ao) hb);have I:=A_ (Kd.b6 (oR aQ) hb);have O:=A_ (bb u hb);have al:=A_ (bb ak hb);have aG:=A_ (aV (oB z) hb);clear ao aQ u ak z;have ao:=G;have aQ:=I;have u:=O;have ak:=al;have z:=aG;clear G I O al aG;(try clear hb);(try clear hb2);(try clear hk);(try clear hi))|((with_reducible refine fI (b:= .append) (xs:= #[.tmp 41,.tmp 54]) rfl ?_);at_builtin;refine Kd.gS Kd.string (w0:=w) w.heap.size rfl (.tmp 41) (.tmp 54) 38 9 (.string ⟨#[]⟩) 16 rfl Tryz.underlying38 rq rfl (by decide) (by omega) u3 a1 a5 [.string a5] (fun _=>True) (fun _=>False) rfl rfl ?aP (fun _ hk=>hk.elim) ?aF ?aO ?aB ?aS ?aL ?_;(case aP=>exact rfl);(case aB=>exact(oB z));(case aF=>exact(fun _ _=>trivial));(case aO=>exact(oR ao));(case aS=>exact(aZ (oB z)));(case aL=>have:=cl.out;omega);intro ef et ho hb hg hat;rw[←co.out]at ho;have G:=A_ (bg u hg (Kd.jY ao.out u.out (by decide)));have I:=A_ (bg ak hg (Kd.jY ao.out ak.out (by decide)));have O:=A_ (Kd.mN (oR aQ) (Kd.mR (oR ao)) (by decide) hg);have al:=A_ (hb);have aG:=A_ (ho);clear u ak aQ z ao;have u:=G;have ak:=I;have aQ:=O;have z:=al;have ck:=aG;clear G I O al aG ho hb hg hat))
           go_roundg k1
           case measure=>have:=bO.out;omega
           case rel=>exact⟨(b'),(wrap64 (F+1)),eS,H',⟨by have:=bO.out;omega⟩,⟨oR ck⟩,⟨oK u⟩,⟨oB z⟩⟩
          ·rw[aj br]at H;exact absurd H (by simp)
         ·rw[aj bq]at H;exact absurd H (by simp)
        ·rw[aj a4]at H;have cy:decide (F<(D.length:Int))=false:=ax a4;clear a4;obtain rfl:=aA H;have dn:=cz u 0;have dq:=cz u 1;have dt:=cz u 2;have du:=cz u 3;have dv:=cz u 4;have dw:=cz u 5;have dW:=aD u.out 0;have dX:=aD u.out 1;have dY:=aD u.out 2;have d0:=aD u.out 3;have d1:=aD u.out 4;have d2:=aD u.out 5;go_wp2;go_ret;exact⟨_,eR,oR ao,oB z⟩
     ·rw[aj c11]at H;exact absurd H (by simp)
    ·rw[aj c9]at H;exact absurd H (by simp)
   ·rw[aj c7]at H;exact absurd H (by simp)
  ·rw[aj c5]at H;exact absurd H (by simp)
 ·replace c3:=Bool.eq_false_iff.mpr c3;subst c3;rw[aj (show¬(false=true)by decide)]at H;obtain⟨c',bf⟩:∃a3:List ByteArray,a3=(([]:List ByteArray)):=⟨_,rfl⟩;replace H:(some c')=some r:=by first|(rw[bf];with_reducible exact H)|(have am:=(az _ _).symm.trans H;rw[bf];with_reducible exact am)|(have am:=(az _ _).symm.trans H;with_reducible exact am)|with_reducible exact H|(rw[bf];exact H)|exact H
  have bQ:=A_ bf;clear bf;obtain rfl:=aA H;go_enter Tryz.func13,Tryz.ntmps13
  go_wp2_with (first|((with_reducible refine aC (N:=1) rfl ?_);refine bX (N:=1) (cs:= #[.slice aM af.length aR,.int .i64 V,.slice aH J.length aJ,.int .i64 X,.int .i64 ad,.slice aY D.length aW]) (t:=30) ?_;intro ap hg eu a0 hb;have G:=A_ (aV (oB z) hb);have I:=A_ (a0);have O:=A_ ((by rw[hg];exact(aZ (oB z)):w.heap.size≤ap));have al:=A_ ((by rw[hg];exact(aZ (oB z)):w.heap.size≤ap));clear z;have z:=G;have u:=I;have ch:=O;have cg:=al;clear G I O al hb a0 hg;have dx:=cz u 0;have dy:=cz u 1;have dz:=cz u 2;have dA:=cz u 3;have dB:=cz u 4;have dC:=cz u 5;have d3:=aD u.out 0;have d4:=aD u.out 1;have d5:=aD u.out 2;have d6:=aD u.out 3;have d7:=aD u.out 4;have d8:=aD u.out 5)|((with_reducible refine bp (f:=31) rfl ?_);refine gL (some 7) Tryz.func31 #[.agg #[.slice aM af.length aR,.int .i64 V,.slice aH J.length aJ,.int .i64 X,.int .i64 ad,.slice aY D.length aW]] ?_;(with_reducible refine(a7.calls k _ _ af V _ _ J X ad _ _ D false _ ?aT ?aU ?dH ?dO ?gj ?ib A2.out).mono ?_);(case aT=>exact bF bP.out);(case aU=>exact bL.out);(case dH=>exact bF bv.out);(case dO=>exact bu.out);(case gj=>exact bF bw.out);(case ib=>exact bN.out);rintro e ev ⟨rfl,hb⟩;refine⟨_,rfl,?_⟩;have G:=A_ (bb u hb);have I:=A_ (aV (oB z) hb);clear u z;have u:=G;have z:=I;clear G I;(try clear hb);(try clear hb2);(try clear hk);(try clear hi))|((with_reducible refine aC (N:=9) rfl ?_);refine Kd.dR Kd.string _ 9 ?hg (N:=9) ?hd (xs:=([]:List ByteArray)) (inner:=[]) (ok:=fun _=>True) (bD:=fun _=>True) ?hr ?hp (fun _ hk=>hk) trivial (Below.refl _ _) (Nat.le_refl _) (by simp) ?_;(case hd=>rfl);(case hg=>rfl);(case hr=>first|(go_simp;done)|(go_simp;rfl));(case hp=>exact(aI.none _ _));intro ea ew be hb a9 a_;clear a9 a_;(first|rw[←bQ.out]at be|(simp only[Int.reduceToNat]at be;rw[←bQ.out]at be));have G:=A_ (Kd.cD be (aZ (oB z)));have I:=A_ (bb u hb);have O:=A_ (aV (oB z) hb);clear u z;have ci:=G;have u:=I;have z:=O;clear G I O hb be))
  go_ret;exact⟨_,eR,oR ci,oB z⟩
end P
namespace P
set_option maxHeartbeats 8000000
set_option maxRecDepth 100000
set_option synthInstance.maxHeartbeats 400000
set_option synthInstance.maxSize 100000
open Go.RowKit WW.bc WW.bY WW.bZ V
attribute [local go_sem] dB dC gT iV iW jI jJ
attribute [local go_sem] cP cT cS cW cR cV cQ cU
def cw.j0:Nat→Bool→List (ag)→Int→List Int→Int→Int→List (S64)→Int→Int→Int→Int→List (ag)→Int→List Int→Int→Int→List (S64)→Option ((List (ag))×Int×List Int×Int×Int×(List (S64))×Int)
 |0,_,_,_,_,_,_,_,_,_,_,_,_,_,_,_,_,_=>none
 |k+1,aG,J,K,O,U,G,H,I,al,ap,aF,V,X,ad,af,ak,am=>if aG=true then(some (V,X,ad,af,ak,am,(-1)))else(if I=1 then((kv.f k J K O U G H).bind fun u=>((jP.f u.2.2.2.2.2.2).bind fun aq=>(some (u.1,u.2.1,u.2.2.1,u.2.2.2.1,u.2.2.2.2.1,u.2.2.2.2.2.1,aq))))else(if I=2 then((ky.f k J K O U G H al).bind fun z=>((jP.f z.2.2.2.2.2.2).bind fun ar=>(some (z.1,z.2.1,z.2.2.1,z.2.2.2.1,z.2.2.2.2.1,z.2.2.2.2.2.1,ar))))else(if I=3 then((kr.f k J K O U G H al ap aF).bind fun D=>((jP.f D.2.2.2.2.2.2).bind fun au=>(some (D.1,D.2.1,D.2.2.1,D.2.2.2.1,D.2.2.2.2.1,D.2.2.2.2.2.1,au))))else(if I=4 then((ku.f k J K O U G H al ap).bind fun F=>((jP.f F.2.2.2.2.2.2).bind fun av=>(some (F.1,F.2.1,F.2.2.1,F.2.2.2.1,F.2.2.2.2.1,F.2.2.2.2.2.1,av))))else(if I=5 then((mz.f k H G).bind fun ao=>((jP.f ao.2).bind fun aB=>(some (V,X,ad,af,ak,ao.1,aB))))else(if I=6 then((ic.f k J K O U G H).bind fun aC=>(some (V,X,ad,af,ak,am,aC)))else(if I=7 then((gN.f k J K O U G H al).bind fun aD=>(some (V,X,ad,af,ak,am,aD)))else((jP.f false).bind fun aE=>(some (V,X,ad,af,ak,am,aE))))))))))
def cw.f (k:Nat) (G:List (ag)) (z:Int) (H:List Int) (D:Int) (F:Int) (I:List (S64)) (J:Int) (K:Int) (O:Int) (U:Int):Option ((List (ag))×Int×List Int×Int×Int×(List (S64))×Int):=(fp.f G z H D F I).bind fun u=>((a7.f k G z H D F I).bind fun V=>(if V=true then((gl.f k J K O U).bind fun X=>(cw.j0 k (!X) G z H D F I J K O U u.1 u.2.1 u.2.2.1 u.2.2.2.1 u.2.2.2.2.1 u.2.2.2.2.2))else(cw.j0 k true G z H D F I J K O U u.1 u.2.1 u.2.2.1 u.2.2.2.1 u.2.2.2.2.1 u.2.2.2.2.2)))
noncomputable def cw.sK:Bool×List (List Nat×List Nat):=aW .any (opsOf Tryz.f32 17)
def cw.v_:List Nat:=[0,0,2,7,15]
theorem cw.BP:aW .any (opsOf Tryz.f32 17)=cw.sK:=rfl
theorem cw.xB:bL cw.sK.2 cw.v_=true:=by kernel_rfl
noncomputable def cw.sL:Bool×List (List Nat×List Nat):=aW .any (opsOf Tryz.f32 19)
def cw.wa:List Nat:=[0,0,0,4,14,31,63]
theorem cw.BQ:aW .any (opsOf Tryz.f32 19)=cw.sL:=rfl
theorem cw.xC:bL cw.sL.2 cw.wa=true:=by kernel_rfl
noncomputable def cw.nQ:Bool×List (List Nat×List Nat):=aW .any (opsOf Tryz.f32 20)
def cw.qy:List Nat:=[0,0,2,7,15]
theorem cw.rW:aW .any (opsOf Tryz.f32 20)=cw.nQ:=rfl
theorem cw.qX:bL cw.nQ.2 cw.qy=true:=by kernel_rfl
theorem cw.c (k:Nat) (X:Option Addr) (aD:Nat) (J:List (ag)) (al:Int) (ad:Option Addr) (aE:Nat) (O:List Int) (am:Int) (ao:Int) (ak:Option Addr) (aF:Nat) (U:List (S64)) (ap:Int) (aq:Int) (ar:Int) (aB:Int) (r1:List (ag)) (r2:Int) (r3:List Int) (aT:Int) (aU:Int) (aV:List (S64)) (aW:Int) (w:World) (aO:Kd.C aN w X J.length J) (aH:J.length≤aD) (aP:Kd.C (Kd.int .i64) w ad O.length O) (aI:O.length≤aE) (aQ:Kd.C aK w ak U.length U) (aL:U.length≤aF) (h:cw.f k J al O am ao U ap aq ar aB=some (r1,r2,r3,aT,aU,aV,aW)):
  Calls Tryz.prog 32 #[.agg #[.slice X J.length aD,.int .i64 al,.slice ad O.length aE,.int .i64 am,.int .i64 ao,.slice ak U.length aF],.agg #[.int .i64 ap,.int .i64 aq,.int .i64 ar,.int .i64 aB]] w fun e w'=>∃aZ a0 a1:Value,e= .returned (.tuple #[.agg #[aZ,.int .i64 r2,a0,.int .i64 aT,.int .i64 aU,a1],.int .i64 aW])∧Kd.R aN 110 w' w.heap.size (fun _=>True) aZ r1∧Kd.R (Kd.int .i64) 3 w' w.heap.size (fun _=>True) a0 r3∧Kd.R aK 64 w' w.heap.size (fun _=>True) a1 aV∧Below w.heap.size w w':=by
 replace aO:=a6.mk aO;replace aH:=af.mk aH;replace aP:=a6.mk aP;replace aI:=af.mk aI;replace aQ:=a6.mk aQ;replace aL:=af.mk aL;have a_:=bK.mk (d:=aN) (e:=110) (t:=3) (by decide);have bb:=bK.mk (d:=aN) (e:=110) (t:=30) (by decide);have bc:=bK.mk (d:=aN) (e:=110) (t:=57) (by decide);have bd:=bK.mk (d:=aK) (e:=64) (t:=3) (by decide);have be:=bK.mk (d:=aK) (e:=64) (t:=30) (by decide);have bf:=bK.mk (d:=aK) (e:=64) (t:=57) (by decide);unfold cw.f at h;have a4:=Tryz.underlying30;have a5:=Tryz.underlying57;have a9:=Tryz.underlying62
 all_goals go_enter Tryz.func32,Tryz.ntmps32
 all_goals go_wp2_with ((first
  |((with_reducible refine aC (N:=2) rfl ?_);refine bV #[.slice X J.length aD,.int .i64 al,.slice ad O.length aE,.int .i64 am,.int .i64 ao,.slice ak U.length aF] 30 fun g w1 j1 j2 aG=> ?_)
  |((with_reducible refine aC (N:=3) rfl ?_);refine bV #[.int .i64 ap,.int .i64 aq,.int .i64 ar,.int .i64 aB] 57 fun g w1 j1 j2 aG=> ?_)
  |((with_reducible refine aC (N:=4) rfl ?_);refine bV #[.slice none 0 0,.int .i64 0,.slice none 0 0,.int .i64 0,.int .i64 0,.slice none 0 0] 30 fun g w1 j1 j2 aG=> ?_)
  |((with_reducible refine aC (N:=6) rfl ?_);refine bV #[.slice none 0 0,.int .i64 0,.slice none 0 0,.int .i64 0,.int .i64 0,.slice none 0 0] 30 fun g w1 j1 j2 aG=> ?_)
  |(go_at_call 30;(try rw[G.out]);replace h:=bI h;obtain⟨⟨t1,t2,t3,t4,t5,t6⟩,A,h⟩:=h;(try dsimp only at h);refine(fp.c _ _ _ _ _ _ _ _ _ _ _ _ _ _ _ _ _ _ _ Rd.out af.out Rd.out af.out Rd.out af.out A).mono ?_;rintro e w2 ⟨v0,v1,v2,rfl,z,D,F,hb⟩;obtain⟨V,b0,rfl,j0,q0⟩:=av z;obtain⟨B1,b1,rfl,j1,q1⟩:=av D;obtain⟨B2,b2,rfl,j2,q2⟩:=av F;have H:=au.mk hb;clear A z D F hb)
  |(go_at_call 31;(try rw[G.out]);replace h:=bI h;obtain⟨t,A,h⟩:=h;(try dsimp only at h);refine(a7.calls _ _ _ _ _ _ _ _ _ _ _ _ _ _ _ Rd.out af.out Rd.out af.out Rd.out af.out A).mono ?_;rintro e w2 ⟨rfl,hb⟩;have H:=au.mk hb;clear A hb)
  |(go_at_call 73;(try rw[G.out]);replace h:=bI h;obtain⟨t,A,h⟩:=h;(try dsimp only at h);refine(gl.c _ _ _ _ _ _ _ A).mono ?_;rintro e w2 ⟨rfl,hb⟩;have H:=au.mk hb;clear A hb)
  |(go_at_call 74;(try rw[G.out]);replace h:=bI h;obtain⟨⟨t1,t2,t3,t4,t5,t6,t7⟩,A,h⟩:=h;(try dsimp only at h);refine(kv.c _ _ _ _ _ _ _ _ _ _ _ _ _ _ _ _ _ _ _ _ _ Rd.out af.out Rd.out af.out Rd.out af.out A).mono ?_;rintro e w2 ⟨v0,v1,v2,rfl,z,D,F,hb⟩;obtain⟨V,b0,rfl,j0,q0⟩:=av z;obtain⟨B1,b1,rfl,j1,q1⟩:=av D;obtain⟨B2,b2,rfl,j2,q2⟩:=av F;have H:=au.mk hb;clear A z D F hb)
  |(go_at_call 75;(try rw[G.out]);replace h:=bI h;obtain⟨⟨t1,t2,t3,t4,t5,t6,t7⟩,A,h⟩:=h;(try dsimp only at h);refine(ky.c _ _ _ _ _ _ _ _ _ _ _ _ _ _ _ _ _ _ _ _ _ _ Rd.out af.out Rd.out af.out Rd.out af.out A).mono ?_;rintro e w2 ⟨v0,v1,v2,rfl,z,D,F,hb⟩;obtain⟨V,b0,rfl,j0,q0⟩:=av z;obtain⟨B1,b1,rfl,j1,q1⟩:=av D;obtain⟨B2,b2,rfl,j2,q2⟩:=av F;have H:=au.mk hb;clear A z D F hb)
  |(go_at_call 76;(try rw[G.out]);replace h:=bI h;obtain⟨⟨t1,t2,t3,t4,t5,t6,t7⟩,A,h⟩:=h;(try dsimp only at h);refine(kr.c _ _ _ _ _ _ _ _ _ _ _ _ _ _ _ _ _ _ _ _ _ _ _ _ Rd.out af.out Rd.out af.out Rd.out af.out A).mono ?_;rintro e w2 ⟨v0,v1,v2,rfl,z,D,F,hb⟩;obtain⟨V,b0,rfl,j0,q0⟩:=av z;obtain⟨B1,b1,rfl,j1,q1⟩:=av D;obtain⟨B2,b2,rfl,j2,q2⟩:=av F;have H:=au.mk hb;clear A z D F hb)
  |(go_at_call 77;(try rw[G.out]);replace h:=bI h;obtain⟨⟨t1,t2,t3,t4,t5,t6,t7⟩,A,h⟩:=h;(try dsimp only at h);refine(ku.c _ _ _ _ _ _ _ _ _ _ _ _ _ _ _ _ _ _ _ _ _ _ _ Rd.out af.out Rd.out af.out Rd.out af.out A).mono ?_;rintro e w2 ⟨v0,v1,v2,rfl,z,D,F,hb⟩;obtain⟨V,b0,rfl,j0,q0⟩:=av z;obtain⟨B1,b1,rfl,j1,q1⟩:=av D;obtain⟨B2,b2,rfl,j2,q2⟩:=av F;have H:=au.mk hb;clear A z D F hb)
  |(go_at_call 78;(try rw[G.out]);replace h:=bI h;obtain⟨⟨t1,t2⟩,A,h⟩:=h;(try dsimp only at h);refine(mz.c _ _ _ _ _ _ _ _ Rd.out af.out A).mono ?_;rintro e w2 ⟨v0,rfl,z,hb⟩;obtain⟨V,b0,rfl,j0,q0⟩:=av z;have H:=au.mk hb;clear A z hb)
  |(refine qR (id:=17) (ds:=[3]) (l:= #[false,false,false,false,false]) cw.BP cw.xB ?_;intro u I w3 aS u0 aR hHeld;refine qT 0 (some 75) u I hHeld ?_;refine qT 1 (some 76) u I hHeld ?_;replace h:=bI h;obtain⟨t,A,h⟩:=h;(try dsimp only at h);refine qC 2 77 Tryz.func79 u fun K hK=> ?_;refine(ic.c _ _ _ _ _ _ _ _ _ _ _ _ _ _ _ Rd.out af.out Rd.out af.out Rd.out af.out A).mono ?_;rintro e w2 ⟨rfl,hb⟩;have H:=au.mk hb;clear A hb;refine⟨_,rfl,hK _ _ From.out fun hHeld=> ?_⟩;clear hK K;refine qN ?_;refine qL 3 u ?_;refine qA 4 (some 5) u ?_;refine qD u ?_)
  |(refine qR (id:=19) (ds:=[5]) (l:= #[false,false,false,false,false,false,false]) cw.BQ cw.xC ?_;intro u I w3 aS u0 aR hHeld;refine qA 2 (some 82) u ?_;refine qT 0 (some 80) u I hHeld ?_;refine qT 1 (some 81) u I hHeld ?_;refine qT 3 (some 83) u I hHeld ?_;replace h:=bI h;obtain⟨t,A,h⟩:=h;(try dsimp only at h);refine qC 4 84 Tryz.func80 u fun K hK=> ?_;refine(gN.c _ _ _ _ _ _ _ _ _ _ _ _ _ _ _ _ Rd.out af.out Rd.out af.out Rd.out af.out A).mono ?_;rintro e w2 ⟨rfl,hb⟩;have H:=au.mk hb;clear A hb;refine⟨_,rfl,hK _ _ From.out fun hHeld=> ?_⟩;clear hK K;refine qN ?_;refine qL 5 u ?_;refine qA 6 (some 5) u ?_;refine qD u ?_)
  |(refine qR (id:=20) (ds:=[3]) (l:= #[false,false,false,false,false]) cw.rW cw.qX ?_;intro u I w3 aS u0 aR hHeld;refine qA 1 (some 86) u ?_;refine qT 0 (some 85) u I hHeld ?_;replace h:=bI h;obtain⟨t,A,h⟩:=h;(try dsimp only at h);refine qC 2 87 Tryz.func81 u fun K hK=> ?_;refine(jP.c _ _ _ A).mono ?_;rintro e w2 ⟨rfl,n,rfl⟩;clear A;refine⟨_,rfl,hK _ _ From.out fun hHeld=> ?_⟩;clear hK K;refine qN ?_;refine qL 3 u ?_;refine qA 4 (some 5) u ?_;refine qD u ?_));(repeat' first|((with_reducible replace h:=bC h);rcases h with ⟨hc,h⟩|⟨hc,h⟩<;>first|exact(bo h).elim|exact absurd hc (by decide)|subst hc|(replace hc:=aM hc;subst hc)|(replace hc:=bR hc;subst hc)|(replace hc:=bS hc;subst hc)|(have hd:(_==_)=true:=hc)|(have hd:(_==_)=false:=aM hc)|(have hd:=bw hc;have he:=bz hc;clear hc)|(have hd:=bA hc;have he:=bB hc)|(have hd:=ax hc)|(have hd:=ah hc;(try(have hn:=Int.natCast_pos.mp hc;have hm:=ah hn;replace hn:=aw hn));first|(obtain⟨a3,e_,i_⟩:=bQ (by assumption) (by first|assumption|decide) hc;cases e_)|(obtain⟨a2,e_,c_⟩:=bO (by assumption) (by first|assumption|decide) hc;cases e_))|(have hd:=ah hc)|skip)|((with_reducible have hj:cw.j0 k _ _ _ _ _ _ _ _ _ _ _ _ _ _ _ _ _=_:=h);clear hj;rcases k with _|k<;>rw[cw.j0]at h<;>first|exact(bo h).elim|skip)|((with_reducible replace h:=bP h);obtain⟨G,h⟩:=h;replace G:=A_ G;(try dsimp only at h))))
 all_goals simp only[Option.some.injEq,Prod.mk.injEq]at h
 all_goals obtain⟨rfl,rfl,rfl,rfl,rfl,rfl,rfl⟩:=h
 all_goals refine bodyPost_ret (dW rfl _ _ _ _ _ (0,0) _ rfl aJ.out Tryz.underlying30 rfl (by kernel_rfl)) rfl ?_
 all_goals exact⟨_,_,_,rfl,(by first|exact a8|exact Kd.aY _ _ _ _ _|exact bG|exact dD (by simp)),(by first|exact a8|exact Kd.aY _ _ _ _ _|exact bG|exact dD (by simp)),(by first|exact a8|exact Kd.aY _ _ _ _ _|exact bG|exact dD (by simp)),From.out⟩
mutual
def cB.j0:Nat→List (cd)→List Int→Bool→List (ag)→Int→List Int→Int→Int→List (S64)→Option ((List (ag))×Int×List Int×Int×Int×(List (S64))×List Int)
 |0,_,_,_,_,_,_,_,_,_=>none
 |k+1,x1,I,J,u,z,D,F,G,H=>if J=true then(some (u,z,D,F,G,H,I))else(cB.l0 k x1 I 0 u z D F G H)
def cB.l0:Nat→List (cd)→List Int→Int→List (ag)→Int→List Int→Int→Int→List (S64)→Option ((List (ag))×Int×List Int×Int×Int×(List (S64))×List Int)
 |0,_,_,_,_,_,_,_,_,_=>none
 |k+1,x1,D,z,F,G,H,I,J,K=>if z<(x1.length:Int)then(if 0≤z then((cw.f k F G H I J K ((iw x1 z).f0) ((iw x1 z).f1) ((iw x1 z).f2) ((iw x1 z).f3)).bind fun u=>(if D.length<17592186044416 then(cB.l0 k x1 (D++[u.2.2.2.2.2.2]) (wrap64 (z+1)) u.1 u.2.1 u.2.2.1 u.2.2.2.1 u.2.2.2.2.1 u.2.2.2.2.2.1)else(none)))else(none))else(some (F,G,H,I,J,K,D))
end
def cB.f (k:Nat) (G:List (ag)) (z:Int) (H:List Int) (D:Int) (F:Int) (I:List (S64)) (l1:List (cd)):Option ((List (ag))×Int×List Int×Int×Int×(List (S64))×List Int):=(fp.f G z H D F I).bind fun u=>((some (([]:List Int):List Int)).bind fun J=>((a7.f k G z H D F I).bind fun K=>(if K=true then(cB.j0 k l1 J (decide ((l1.length:Int)>40)) u.1 u.2.1 u.2.2.1 u.2.2.2.1 u.2.2.2.2.1 u.2.2.2.2.2)else(cB.j0 k l1 J true u.1 u.2.1 u.2.2.1 u.2.2.2.1 u.2.2.2.2.1 u.2.2.2.2.2))))
def cB.T8:Bool×List (List Nat×List Nat):=(true,[([],[]),([],[]),([],[]),([1,2],[1,2]),([3],[3]),([0,4],[0,4]),([5],[5]),([6],[6]),([6],[6]),([],[]),([9,7,5,0,1,2,3,4,5,6,7,9],[7,9]),([8,10,0,1,2,3,4,5,6,7,8,9,10],[8])])
def cB.B8:List Nat:=[0,0,0,6,14,31,63,127,127,0,767,2047]
theorem cB.ju:aW .any (opsOf Tryz.f10 8)=cB.T8:=by kernel_rfl
theorem cB.iT:bL cB.T8.2 cB.B8=true:=by kernel_rfl
theorem cB.c (k:Nat) (ap:Option Addr) (aQ:Nat) (V:List (ag)) (aE:Int) (aq:Option Addr) (aR:Nat) (X:List Int) (aG:Int) (aH:Int) (ar:Option Addr) (aT:Nat) (ad:List (S64)) (A1:Option Addr) (c1:Nat) (l1:List (cd)) (r1:List (ag)) (r2:Int) (r3:List Int) (be:Int) (bf:Int) (bg:List (S64)) (bk:List Int) (w:World) (b8:Kd.C aN w ap V.length V) (b5:V.length≤aQ) (b9:Kd.C (Kd.int .i64) w aq X.length X) (b6:X.length≤aR) (b_:Kd.C aK w ar ad.length ad) (b7:ad.length≤aT) (hr1:Kd.C gZ w A1 l1.length l1) (hc1:l1.length≤c1) (h:cB.f k V aE X aG aH ad l1=some (r1,r2,r3,be,bf,bg,bk)):
  Calls Tryz.prog 10 #[.agg #[.slice ap V.length aQ,.int .i64 aE,.slice aq X.length aR,.int .i64 aG,.int .i64 aH,.slice ar ad.length aT],.slice A1 l1.length c1] w fun e w'=>∃ci bq cj br:Value,e= .returned (.tuple #[.agg #[ci,.int .i64 r2,bq,.int .i64 be,.int .i64 bf,cj],br])∧Kd.R aN 110 w' w.heap.size (fun _=>True) ci r1∧Kd.R (Kd.int .i64) 3 w' w.heap.size (fun k_=>some k_≠(br:Value).ownBlock) bq r3∧Kd.R aK 64 w' w.heap.size (fun _=>True) cj bg∧Kd.R (Kd.int .i64) 3 w' w.heap.size (fun k_=>some k_≠(bq:Value).ownBlock) br bk∧Below w.heap.size w w':=by
 have cW:=a6.mk b8;have cS:=af.mk b5;have cX:=a6.mk b9;have cT:=af.mk b6;have cY:=a6.mk b_;have cU:=af.mk b7;have cZ:=a6.mk hr1;have cV:=af.mk hc1;clear b8 b5 b9 b6 b_ b7 hr1 hc1;have c':=bK.mk (d:=(Kd.int .i64)) (e:=3) (t:=30) (by decide);have c9:=bK.mk (d:=aN) (e:=110) (t:=30) (by decide);have da:=bK.mk (d:=aK) (e:=64) (t:=30) (by decide);have c8:=ij.mk (e:=3) (t:=30) (by decide);unfold cB.f at h
 (try simp only[az]at h)
 have cQ:=Tryz.underlying30;have cR:=Tryz.underlying57
 all_goals go_enter Tryz.func10,Tryz.ntmps10
 all_goals go_wp2_with ((first
  |((with_reducible refine aC (N:=2) rfl ?_);refine bV #[.slice ap V.length aQ,.int .i64 aE,.slice aq X.length aR,.int .i64 aG,.int .i64 aH,.slice ar ad.length aT] 30 fun g2 w1 aU aV aW=> ?_)
  |((with_reducible refine aC (N:=4) rfl ?_);refine bV #[.slice none 0 0,.int .i64 0,.slice none 0 0,.int .i64 0,.int .i64 0,.slice none 0 0] 30 fun g4 w1 aU aV aW=> ?_)
  |((with_reducible refine aC (N:=6) rfl ?_);refine bV #[.slice none 0 0,.int .i64 0,.slice none 0 0,.int .i64 0,.int .i64 0,.slice none 0 0] 30 fun g6 w1 aU aV aW=> ?_)
  |((with_reducible refine aC (N:=13) rfl ?_);refine Kd.dR (Kd.int .i64) _ 3 ?hg (N:=13) ?hd (xs:=([]:List Int)) (inner:=[]) (ok:=fun _=>True) (bD:=fun _=>True) ?hr ?hp (fun _ hk=>hk) trivial (Below.refl _ _) (Nat.le_refl _) (by simp) ?_;(case hd=>rfl);(case hg=>rfl);(case hr=>first|(go_simp;done)|(go_simp;rfl));(case hp=>exact(aI.none _ _));intro v5 cC ho hb a4 a5;obtain⟨ak,c5,rfl⟩:=Kd.cJ ho;have a9:=dt.mk ho;have q5:=af.mk (ia a9);have cm:=au.mk hb;clear a4 a5 ho hb)
  |(go_at_call 30;(try rw[H.out]);replace h:=bI h;obtain⟨⟨t1,t2,t3,t4,t5,t6⟩,A,h⟩:=h;(try dsimp only at h);refine(fp.c _ _ _ _ _ _ _ _ _ _ _ _ _ _ _ _ _ _ _ Rd.out af.out Rd.out af.out Rd.out af.out A).mono ?_;rintro e w2 ⟨v0,v1,v2,rfl,I,J,O,hb⟩;obtain⟨al,b0,rfl,j0,q0⟩:=av I;obtain⟨B1,b1,rfl,j1,q1⟩:=av J;obtain⟨B2,b2,rfl,j2,q2⟩:=av O;have am:=au.mk hb;clear A I J O hb)
  |(go_at_call 31;(try rw[H.out]);replace h:=bI h;obtain⟨t,A,h⟩:=h;(try dsimp only at h);refine(a7.calls _ _ _ _ _ _ _ _ _ _ _ _ _ _ _ Rd.out af.out Rd.out af.out Rd.out af.out A).mono ?_;rintro e w2 ⟨rfl,hb⟩;have am:=au.mk hb;clear A hb)
  |(refine qR (id:=8) (ds:=[]) (l:= #[false,false,false,false,false,false,false,false,false,false,false,false]) cB.ju cB.iT ?_;intro u aD w3 cx u0 cl hHeld;replace h:=bI h;obtain⟨⟨cf,cy,cg,cz,cA,ch,aZ⟩,ak,h⟩:=h;(try dsimp only at h);refine qT 0 (some 31) u aD hHeld ?_;refine qA 1 (some 32) u ?_;refine qA 2 (some 33) u ?_;refine qA 3 (some 34) u ?_;refine qT 4 (some 35) u aD hHeld ?_;refine ld 5 9 (some 36) (some 9) u (fun K hK=> ?_) (fun K hK=> ?_);(focus (refine cG Tryz.func32 (by kernel_rfl) rfl _ (by rfl) rfl rfl (by(try simp only[List.map_toArray,List.map_cons,List.map_nil]);rfl) ?_;refine(cw.c _ _ _ _ _ _ _ _ _ _ _ _ _ _ _ _ _ _ _ _ _ _ _ _ _ Rd.out af.out Rd.out af.out Rd.out af.out ak).mono ?_;rintro e bn ⟨v0,v1,v2,rfl,I,J,O,hb⟩;obtain⟨al,b0,rfl,j0,q0⟩:=av I;obtain⟨B1,b1,rfl,j1,q1⟩:=av J;obtain⟨B2,b2,rfl,j2,q2⟩:=av O;have am:=au.mk hb;(try clear I J O hb);refine⟨_,rfl,hK.out _ _ From.out fun hHeld=> ?_⟩;clear hK K;refine qN ?_;refine qA 6 (some 30) u ?_;refine qA 7 (some 37) u ?_;refine qA 8 (some 38) u ?_;refine gK 9 (some 9) u fun K hK=> ?_;refine iL 9 #[.slice none 0 0,.int .i64 0,.slice none 0 0,.int .i64 0,.int .i64 0,.slice none 0 0] 30 ?_;intro g9 a_ bp bb bc;refine hK.out _ _ From.out fun hHeld=> ?_;clear hK K;refine qN ?_;refine qS 10 u fun hHeld=> ?_;refine qA 11 (some 10) u ?_;refine qD u ?_));rotate_left 1;(focus (refine iL 9 #[.slice none 0 0,.int .i64 0,.slice none 0 0,.int .i64 0,.int .i64 0,.slice none 0 0] 30 ?_;intro g9 a_ bp bb bc;refine hK.out _ _ From.out fun hHeld=> ?_;clear hK K;refine qN ?_;refine gK 5 (some 36) u fun K hK=> ?_;refine cG Tryz.func32 (by kernel_rfl) rfl _ (by rfl) rfl rfl (by(try simp only[List.map_toArray,List.map_cons,List.map_nil]);rfl) ?_;refine(cw.c _ _ _ _ _ _ _ _ _ _ _ _ _ _ _ _ _ _ _ _ _ _ _ _ _ Rd.out af.out Rd.out af.out Rd.out af.out ak).mono ?_;rintro e bn ⟨v0,v1,v2,rfl,I,J,O,hb⟩;obtain⟨al,b0,rfl,j0,q0⟩:=av I;obtain⟨B1,b1,rfl,j1,q1⟩:=av J;obtain⟨B2,b2,rfl,j2,q2⟩:=av O;have am:=au.mk hb;(try clear I J O hb);refine⟨_,rfl,hK.out _ _ From.out fun hHeld=> ?_⟩;clear hK K;refine qN ?_;refine qA 6 (some 30) u ?_;refine qA 7 (some 37) u ?_;refine qA 8 (some 38) u ?_;refine qS 10 u fun hHeld=> ?_;refine qA 11 (some 10) u ?_;refine qD u ?_));all_goals((try simp only[az]at h);(repeat' first|((with_reducible replace h:=bC h);rcases h with ⟨hc,h⟩|⟨hc,h⟩<;>first|exact(bo h).elim|exact absurd hc (by decide)|subst hc|(replace hc:=aM hc;subst hc)|(replace hc:=bR hc;subst hc)|(replace hc:=bS hc;subst hc)|(have hd:(_==_)=true:=hc)|(have hd:(_==_)=false:=aM hc)|(have hd:=bw hc;have he:=bz hc;clear hc)|(have hd:=bA hc;have he:=bB hc)|(have hd:=ax hc)|(have hd:=ah hc;(try(have hn:=Int.natCast_pos.mp hc;have hm:=ah hn;replace hn:=aw hn));first|(have hz:=bQ (by assumption) (by first|assumption|decide) hc;obtain⟨a0,e_,i_⟩:=hz;cases e_)|(have hz:=bO (by assumption) (by first|assumption|decide) hc;obtain⟨U,e_,c_⟩:=hz;cases e_)|(have hz:=gF (a6.out (self:=by assumption)) _ (by first|assumption|decide) hc;obtain⟨U,e_,z,D,F,G⟩:=hz;cases e_;replace z:=bj.mk z;replace D:=bj.mk D;replace F:=bj.mk F;replace G:=bj.mk G)|(have hz:=gF (a6.out (self:=by assumption)) _ hc (by assumption);obtain⟨U,e_,z,D,F,G⟩:=hz;cases e_;replace z:=bj.mk z;replace D:=bj.mk D;replace F:=bj.mk F;replace G:=bj.mk G))|(have hd:=ah hc)|skip)|((with_reducible have hj:cB.j0 k _ _ _ _ _ _ _ _ _=_:=h);clear hj;rcases k with _|k<;>rw[cB.j0]at h<;>first|exact(bo h).elim|skip)|((with_reducible replace h:=bP h);obtain⟨H,h⟩:=h;replace H:=A_ H;(try dsimp only at h)))))
  |((with_reducible refine fI (b:= .append) (xs:= #[.tmp 40,.tmp 42]) rfl ?_);(try(refine iY (by rfl) ?_;dsimp only));at_builtin;refine Kd.gS (Kd.int .i64) (w0:=w) w.heap.size rfl (.tmp 40) (.tmp 42) 25 3 (.int .i64 0) 8 rfl Tryz.underlying25 info3 rfl (by decide) (by omega) (.slice bH ao.length b4) ao aZ [.int .i64 aZ] (fun _=>True) (fun _=>False) rfl (by first|(go_simp;done)|(go_simp;rfl)) ?aP (fun _ hk=>hk.elim) ?aF ?aO ?aB ?aS ?aL ?_;(case aP=>exact rfl);(case aO=>exact bG);(case aB=>exact From.out);(case aF=>exact(fun _ _=>trivial));(case aS=>exact(From.out (w0:=w)).size);(case aL=>omega);intro v7 w7 ho hb hg hat;have cq:=pG hg;obtain⟨ck,c7,rfl⟩:=Kd.cJ ho;have cr:=pM j0 hg;have bd:=py j1 hat;have co:=pz bd;have cn:=At.mk ho;have cp:From w w7:=⟨hb⟩;have ct:Sz w w7:=⟨hb.size⟩;clear ho hb hg hat));(repeat' first|((with_reducible replace h:=bC h);rcases h with ⟨hc,h⟩|⟨hc,h⟩<;>first|exact(bo h).elim|exact absurd hc (by decide)|subst hc|(replace hc:=aM hc;subst hc)|(replace hc:=bR hc;subst hc)|(replace hc:=bS hc;subst hc)|(have hd:(_==_)=true:=hc)|(have hd:(_==_)=false:=aM hc)|(have hd:=bw hc;have he:=bz hc;clear hc)|(have hd:=bA hc;have he:=bB hc)|(have hd:=ax hc)|(have hd:=ah hc;(try(have hn:=Int.natCast_pos.mp hc;have hm:=ah hn;replace hn:=aw hn));first|(have hz:=bQ (by assumption) (by first|assumption|decide) hc;obtain⟨a0,e_,i_⟩:=hz;cases e_)|(have hz:=bO (by assumption) (by first|assumption|decide) hc;obtain⟨U,e_,c_⟩:=hz;cases e_)|(have hz:=gF (a6.out (self:=by assumption)) _ (by first|assumption|decide) hc;obtain⟨U,e_,z,D,F,G⟩:=hz;cases e_;replace z:=bj.mk z;replace D:=bj.mk D;replace F:=bj.mk F;replace G:=bj.mk G)|(have hz:=gF (a6.out (self:=by assumption)) _ hc (by assumption);obtain⟨U,e_,z,D,F,G⟩:=hz;cases e_;replace z:=bj.mk z;replace D:=bj.mk D;replace F:=bj.mk F;replace G:=bj.mk G))|(have hd:=ah hc)|skip)|((with_reducible have hj:cB.j0 k _ _ _ _ _ _ _ _ _=_:=h);clear hj;rcases k with _|k<;>rw[cB.j0]at h<;>first|exact(bo h).elim|skip)|((with_reducible replace h:=bP h);obtain⟨H,h⟩:=h;replace H:=A_ H;(try dsimp only at h))))
 all_goals first
  |((try simp only[Option.some.injEq,Prod.mk.injEq]at h);(try obtain⟨rfl,rfl,rfl,rfl,rfl,rfl,rfl⟩:=h);refine bodyPost_ret (dW rfl _ _ _ _ _ (0,0) _ rfl aJ.out Tryz.underlying30 rfl (by kernel_rfl)) rfl ?_;exact⟨_,_,_,_,rfl,(by first|exact a8|exact bN rfl|exact bN (by simp)|exact Kd.aY _ _ _ _ _|exact bG|exact dD (by simp)),(by first|exact Kd.aY _ _ _ _ _|exact gG (ok:=fun _=>True) (by first|exact a8|exact bG|exact gD (by simp)|exact bN (by simp))),(by first|exact a8|exact bN rfl|exact bN (by simp)|exact Kd.aY _ _ _ _ _|exact bG|exact dD (by simp)),(by first|exact Kd.aY _ _ _ _ _|exact gG (ok:=fun _=>True) (by first|exact a8|exact bG|exact gD (by simp)|exact bN (by simp))),From.out⟩)
  |(exfalso;simp at hd;omega)
  |skip
 go_loopg [7,8] k (fun b' v7 v8 w'=>∃(ao:List Int) (bF:Int) (bs:List (ag)) (bt:Int) (bu:List Int) (bv:Int) (bx:Int) (bE:List (S64)) (bl:Value) (a1:Value) (bm:Value),v8= .int .i64 bF∧ae (cB.l0 b' l1 ao bF bs bt bu bv bx bE=some (r1,r2,r3,be,bf,bg,bk))∧ae (b'≤k)∧ae (Kd.R (Kd.int .i64) 3 w' w.heap.size (fun k_=>some k_≠(a1:Value).ownBlock) v7 ao)∧ae (Kd.R aN 110 w' w.heap.size (fun _=>True) bl bs)∧ae (Kd.R (Kd.int .i64) 3 w' w.heap.size (fun k_=>some k_≠(v7:Value).ownBlock) a1 bu)∧ae (Kd.R aK 64 w' w.heap.size (fun _=>True) bm bE)∧ae (w'.heap[g2]? =some (.cells #[(.slice ap V.length aQ),.int .i64 aE,(.slice aq X.length aR),.int .i64 aG,.int .i64 aH,(.slice ar ad.length aT)] 30 (0,0)))∧ae (w'.heap[g4]? =some (.cells #[(.slice none 0 0),.int .i64 0,(.slice none 0 0),.int .i64 0,.int .i64 0,(.slice none 0 0)] 30 (0,0)))∧ae (w'.heap[g6]? =some (.cells #[bl,.int .i64 bt,a1,.int .i64 bv,.int .i64 bx,bm] 30 (0,0)))∧ae (Below w.heap.size w w'))
 case atStart=>exact⟨_,_,_,_,_,_,_,_,(.slice al t1.length b0),(.slice B1 t3.length b1),(.slice B2 t6.length b2),(by first|rfl|(simp;done)),⟨h⟩,⟨Nat.le_refl _⟩,⟨gG (ok:=fun _=>True) (by first|exact a8|exact bG|exact gD (by simp)|exact bN (by simp))⟩,⟨by first|exact a8|exact bN rfl|exact bN (by simp)|exact Kd.aY _ _ _ _ _⟩,⟨gG (ok:=fun _=>True) (by first|exact a8|exact bG|exact gD (by simp)|exact bN (by simp))⟩,⟨by first|exact a8|exact bN rfl|exact bN (by simp)|exact Kd.aY _ _ _ _ _⟩,⟨aJ.out⟩,⟨aJ.out⟩,⟨aJ.out⟩,⟨From.out⟩⟩
 case round=>
  clear h;obtain⟨ao,bF,bs,bt,bu,bv,bx,bE,bl,a1,bm,rfl,a2,bW,b3,bX,bY,bZ,bL,bT,bU,a3⟩:=hrel;rcases gk with _|k1
  ·exact absurd a2.out (by simp[cB.l0])
  have h:=a2.out;clear a2;simp only[cB.l0]at h;obtain⟨bH,b4,rfl,c0,db,ca⟩:=jF b3.out;clear b3;obtain⟨cD,cN,rfl,c3,dc,cb⟩:=jF bX.out;clear bX;obtain⟨cE,cO,rfl,c4,dd,cc⟩:=jF bY.out;clear bY;obtain⟨cF,cP,rfl,c6,de,ce⟩:=jF bZ.out;clear bZ;have cH:=aJ.mk bL.out;clear bL;have cI:=aJ.mk bT.out;clear bT;have cK:=aJ.mk bU.out;clear bU;have cL:From w wr:=⟨a3.out⟩;have cM:Sz w wr:=⟨a3.out.size⟩;clear a3
  (try have d90:=lB ca);(try have d91:=lB cb);(try have d92:=lB cc);(try have d93:=lB ce);clear ca cb cc ce
  (repeat' first|((with_reducible replace h:=bC h);rcases h with ⟨hc,h⟩|⟨hc,h⟩<;>first|exact(bo h).elim|exact absurd hc (by decide)|subst hc|(replace hc:=aM hc;subst hc)|(replace hc:=bR hc;subst hc)|(replace hc:=bS hc;subst hc)|(have hd:(_==_)=true:=hc)|(have hd:(_==_)=false:=aM hc)|(have hd:=bw hc;have he:=bz hc;clear hc)|(have hd:=bA hc;have he:=bB hc)|(have hd:=ax hc)|(have hd:=ah hc;(try(have hn:=Int.natCast_pos.mp hc;have hm:=ah hn;replace hn:=aw hn));first|(have hz:=bQ (by assumption) (by first|assumption|decide) hc;obtain⟨a0,e_,i_⟩:=hz;cases e_)|(have hz:=bO (by assumption) (by first|assumption|decide) hc;obtain⟨U,e_,c_⟩:=hz;cases e_)|(have hz:=gF (a6.out (self:=by assumption)) _ (by first|assumption|decide) hc;obtain⟨U,e_,z,D,F,G⟩:=hz;cases e_;replace z:=bj.mk z;replace D:=bj.mk D;replace F:=bj.mk F;replace G:=bj.mk G)|(have hz:=gF (a6.out (self:=by assumption)) _ hc (by assumption);obtain⟨U,e_,z,D,F,G⟩:=hz;cases e_;replace z:=bj.mk z;replace D:=bj.mk D;replace F:=bj.mk F;replace G:=bj.mk G))|(have hd:=ah hc)|skip)|((with_reducible have hj:cB.j0 k _ _ _ _ _ _ _ _ _=_:=h);clear hj;rcases k with _|k<;>rw[cB.j0]at h<;>first|exact(bo h).elim|skip)|((with_reducible replace h:=bP h);obtain⟨H,h⟩:=h;replace H:=A_ H;(try dsimp only at h)))
  all_goals go_wp2_with ((first
   |((with_reducible refine aC (N:=2) rfl ?_);refine bV #[.slice ap V.length aQ,.int .i64 aE,.slice aq X.length aR,.int .i64 aG,.int .i64 aH,.slice ar ad.length aT] 30 fun g2 w1 aU aV aW=> ?_)
   |((with_reducible refine aC (N:=4) rfl ?_);refine bV #[.slice none 0 0,.int .i64 0,.slice none 0 0,.int .i64 0,.int .i64 0,.slice none 0 0] 30 fun g4 w1 aU aV aW=> ?_)
   |((with_reducible refine aC (N:=6) rfl ?_);refine bV #[.slice none 0 0,.int .i64 0,.slice none 0 0,.int .i64 0,.int .i64 0,.slice none 0 0] 30 fun g6 w1 aU aV aW=> ?_)
   |((with_reducible refine aC (N:=13) rfl ?_);refine Kd.dR (Kd.int .i64) _ 3 ?hg (N:=13) ?hd (xs:=([]:List Int)) (inner:=[]) (ok:=fun _=>True) (bD:=fun _=>True) ?hr ?hp (fun _ hk=>hk) trivial (Below.refl _ _) (Nat.le_refl _) (by simp) ?_;(case hd=>rfl);(case hg=>rfl);(case hr=>first|(go_simp;done)|(go_simp;rfl));(case hp=>exact(aI.none _ _));intro v5 cC ho hb a4 a5;obtain⟨ak,c5,rfl⟩:=Kd.cJ ho;have a9:=dt.mk ho;have q5:=af.mk (ia a9);have cm:=au.mk hb;clear a4 a5 ho hb)
   |(go_at_call 30;(try rw[H.out]);replace h:=bI h;obtain⟨⟨t1,t2,t3,t4,t5,t6⟩,A,h⟩:=h;(try dsimp only at h);refine(fp.c _ _ _ _ _ _ _ _ _ _ _ _ _ _ _ _ _ _ _ Rd.out af.out Rd.out af.out Rd.out af.out A).mono ?_;rintro e w2 ⟨v0,v1,v2,rfl,I,J,O,hb⟩;obtain⟨al,b0,rfl,j0,q0⟩:=av I;obtain⟨B1,b1,rfl,j1,q1⟩:=av J;obtain⟨B2,b2,rfl,j2,q2⟩:=av O;have am:=au.mk hb;clear A I J O hb)
   |(go_at_call 31;(try rw[H.out]);replace h:=bI h;obtain⟨t,A,h⟩:=h;(try dsimp only at h);refine(a7.calls _ _ _ _ _ _ _ _ _ _ _ _ _ _ _ Rd.out af.out Rd.out af.out Rd.out af.out A).mono ?_;rintro e w2 ⟨rfl,hb⟩;have am:=au.mk hb;clear A hb)
   |(refine qR (id:=8) (ds:=[]) (l:= #[false,false,false,false,false,false,false,false,false,false,false,false]) cB.ju cB.iT ?_;intro u aD w3 cx u0 cl hHeld;replace h:=bI h;obtain⟨⟨cf,cy,cg,cz,cA,ch,aZ⟩,ak,h⟩:=h;(try dsimp only at h);refine qT 0 (some 31) u aD hHeld ?_;refine qA 1 (some 32) u ?_;refine qA 2 (some 33) u ?_;refine qA 3 (some 34) u ?_;refine qT 4 (some 35) u aD hHeld ?_;refine ld 5 9 (some 36) (some 9) u (fun K hK=> ?_) (fun K hK=> ?_);(focus (refine cG Tryz.func32 (by kernel_rfl) rfl _ (by rfl) rfl rfl (by(try simp only[List.map_toArray,List.map_cons,List.map_nil]);rfl) ?_;refine(cw.c _ _ _ _ _ _ _ _ _ _ _ _ _ _ _ _ _ _ _ _ _ _ _ _ _ Rd.out af.out Rd.out af.out Rd.out af.out ak).mono ?_;rintro e bn ⟨v0,v1,v2,rfl,I,J,O,hb⟩;obtain⟨al,b0,rfl,j0,q0⟩:=av I;obtain⟨B1,b1,rfl,j1,q1⟩:=av J;obtain⟨B2,b2,rfl,j2,q2⟩:=av O;have am:=au.mk hb;(try clear I J O hb);refine⟨_,rfl,hK.out _ _ From.out fun hHeld=> ?_⟩;clear hK K;refine qN ?_;refine qA 6 (some 30) u ?_;refine qA 7 (some 37) u ?_;refine qA 8 (some 38) u ?_;refine gK 9 (some 9) u fun K hK=> ?_;refine iL 9 #[.slice none 0 0,.int .i64 0,.slice none 0 0,.int .i64 0,.int .i64 0,.slice none 0 0] 30 ?_;intro g9 a_ bp bb bc;refine hK.out _ _ From.out fun hHeld=> ?_;clear hK K;refine qN ?_;refine qS 10 u fun hHeld=> ?_;refine qA 11 (some 10) u ?_;refine qD u ?_));rotate_left 1;(focus (refine iL 9 #[.slice none 0 0,.int .i64 0,.slice none 0 0,.int .i64 0,.int .i64 0,.slice none 0 0] 30 ?_;intro g9 a_ bp bb bc;refine hK.out _ _ From.out fun hHeld=> ?_;clear hK K;refine qN ?_;refine gK 5 (some 36) u fun K hK=> ?_;refine cG Tryz.func32 (by kernel_rfl) rfl _ (by rfl) rfl rfl (by(try simp only[List.map_toArray,List.map_cons,List.map_nil]);rfl) ?_;refine(cw.c _ _ _ _ _ _ _ _ _ _ _ _ _ _ _ _ _ _ _ _ _ _ _ _ _ Rd.out af.out Rd.out af.out Rd.out af.out ak).mono ?_;rintro e bn ⟨v0,v1,v2,rfl,I,J,O,hb⟩;obtain⟨al,b0,rfl,j0,q0⟩:=av I;obtain⟨B1,b1,rfl,j1,q1⟩:=av J;obtain⟨B2,b2,rfl,j2,q2⟩:=av O;have am:=au.mk hb;(try clear I J O hb);refine⟨_,rfl,hK.out _ _ From.out fun hHeld=> ?_⟩;clear hK K;refine qN ?_;refine qA 6 (some 30) u ?_;refine qA 7 (some 37) u ?_;refine qA 8 (some 38) u ?_;refine qS 10 u fun hHeld=> ?_;refine qA 11 (some 10) u ?_;refine qD u ?_));all_goals((try simp only[az]at h);(repeat' first|((with_reducible replace h:=bC h);rcases h with ⟨hc,h⟩|⟨hc,h⟩<;>first|exact(bo h).elim|exact absurd hc (by decide)|subst hc|(replace hc:=aM hc;subst hc)|(replace hc:=bR hc;subst hc)|(replace hc:=bS hc;subst hc)|(have hd:(_==_)=true:=hc)|(have hd:(_==_)=false:=aM hc)|(have hd:=bw hc;have he:=bz hc;clear hc)|(have hd:=bA hc;have he:=bB hc)|(have hd:=ax hc)|(have hd:=ah hc;(try(have hn:=Int.natCast_pos.mp hc;have hm:=ah hn;replace hn:=aw hn));first|(have hz:=bQ (by assumption) (by first|assumption|decide) hc;obtain⟨a0,e_,i_⟩:=hz;cases e_)|(have hz:=bO (by assumption) (by first|assumption|decide) hc;obtain⟨U,e_,c_⟩:=hz;cases e_)|(have hz:=gF (a6.out (self:=by assumption)) _ (by first|assumption|decide) hc;obtain⟨U,e_,z,D,F,G⟩:=hz;cases e_;replace z:=bj.mk z;replace D:=bj.mk D;replace F:=bj.mk F;replace G:=bj.mk G)|(have hz:=gF (a6.out (self:=by assumption)) _ hc (by assumption);obtain⟨U,e_,z,D,F,G⟩:=hz;cases e_;replace z:=bj.mk z;replace D:=bj.mk D;replace F:=bj.mk F;replace G:=bj.mk G))|(have hd:=ah hc)|skip)|((with_reducible have hj:cB.j0 k _ _ _ _ _ _ _ _ _=_:=h);clear hj;rcases k with _|k<;>rw[cB.j0]at h<;>first|exact(bo h).elim|skip)|((with_reducible replace h:=bP h);obtain⟨H,h⟩:=h;replace H:=A_ H;(try dsimp only at h)))))
   |((with_reducible refine fI (b:= .append) (xs:= #[.tmp 40,.tmp 42]) rfl ?_);(try(refine iY (by rfl) ?_;dsimp only));at_builtin;refine Kd.gS (Kd.int .i64) (w0:=w) w.heap.size rfl (.tmp 40) (.tmp 42) 25 3 (.int .i64 0) 8 rfl Tryz.underlying25 info3 rfl (by decide) (by omega) (.slice bH ao.length b4) ao aZ [.int .i64 aZ] (fun _=>True) (fun _=>False) rfl (by first|(go_simp;done)|(go_simp;rfl)) ?aP (fun _ hk=>hk.elim) ?aF ?aO ?aB ?aS ?aL ?_;(case aP=>exact rfl);(case aO=>exact bG);(case aB=>exact From.out);(case aF=>exact(fun _ _=>trivial));(case aS=>exact(From.out (w0:=w)).size);(case aL=>omega);intro v7 w7 ho hb hg hat;have cq:=pG hg;obtain⟨ck,c7,rfl⟩:=Kd.cJ ho;have cr:=pM j0 hg;have bd:=py j1 hat;have co:=pz bd;have cn:=At.mk ho;have cp:From w w7:=⟨hb⟩;have ct:Sz w w7:=⟨hb.size⟩;clear ho hb hg hat));(repeat' first|((with_reducible replace h:=bC h);rcases h with ⟨hc,h⟩|⟨hc,h⟩<;>first|exact(bo h).elim|exact absurd hc (by decide)|subst hc|(replace hc:=aM hc;subst hc)|(replace hc:=bR hc;subst hc)|(replace hc:=bS hc;subst hc)|(have hd:(_==_)=true:=hc)|(have hd:(_==_)=false:=aM hc)|(have hd:=bw hc;have he:=bz hc;clear hc)|(have hd:=bA hc;have he:=bB hc)|(have hd:=ax hc)|(have hd:=ah hc;(try(have hn:=Int.natCast_pos.mp hc;have hm:=ah hn;replace hn:=aw hn));first|(have hz:=bQ (by assumption) (by first|assumption|decide) hc;obtain⟨a0,e_,i_⟩:=hz;cases e_)|(have hz:=bO (by assumption) (by first|assumption|decide) hc;obtain⟨U,e_,c_⟩:=hz;cases e_)|(have hz:=gF (a6.out (self:=by assumption)) _ (by first|assumption|decide) hc;obtain⟨U,e_,z,D,F,G⟩:=hz;cases e_;replace z:=bj.mk z;replace D:=bj.mk D;replace F:=bj.mk F;replace G:=bj.mk G)|(have hz:=gF (a6.out (self:=by assumption)) _ hc (by assumption);obtain⟨U,e_,z,D,F,G⟩:=hz;cases e_;replace z:=bj.mk z;replace D:=bj.mk D;replace F:=bj.mk F;replace G:=bj.mk G))|(have hd:=ah hc)|skip)|((with_reducible have hj:cB.j0 k _ _ _ _ _ _ _ _ _=_:=h);clear hj;rcases k with _|k<;>rw[cB.j0]at h<;>first|exact(bo h).elim|skip)|((with_reducible replace h:=bP h);obtain⟨H,h⟩:=h;replace H:=A_ H;(try dsimp only at h))))
  all_goals first
   |(go_roundg k1;(case measure=>have:=bW.out;omega);(case rel=>exact⟨_,_,_,_,_,_,_,_,(.slice al cf.length b0),(.slice B1 cg.length b1),(.slice B2 ch.length b2),(by first|rfl|(simp;done)),⟨h⟩,⟨by have:=bW.out;omega⟩,⟨gG (ok:=fun _=>True) (by first|exact a8|exact bG|exact gD (by simp)|exact bN (by simp))⟩,⟨by first|exact a8|exact bN rfl|exact bN (by simp)|exact Kd.aY _ _ _ _ _⟩,⟨gG (ok:=fun _=>True) (by first|exact a8|exact bG|exact gD (by simp)|exact bN (by simp))⟩,⟨by first|exact a8|exact bN rfl|exact bN (by simp)|exact Kd.aY _ _ _ _ _⟩,⟨aJ.out⟩,⟨aJ.out⟩,⟨aJ.out⟩,⟨From.out⟩⟩))
   |((try simp only[Option.some.injEq,Prod.mk.injEq]at h);(try obtain⟨rfl,rfl,rfl,rfl,rfl,rfl,rfl⟩:=h);refine bodyPost_ret (dW rfl _ _ _ _ _ (0,0) _ rfl aJ.out Tryz.underlying30 rfl (by kernel_rfl)) rfl ?_;exact⟨_,_,_,_,rfl,(by first|exact a8|exact bN rfl|exact bN (by simp)|exact Kd.aY _ _ _ _ _|exact bG|exact dD (by simp)),(by first|exact Kd.aY _ _ _ _ _|exact gG (ok:=fun _=>True) (by first|exact a8|exact bG|exact gD (by simp)|exact bN (by simp))),(by first|exact a8|exact bN rfl|exact bN (by simp)|exact Kd.aY _ _ _ _ _|exact bG|exact dD (by simp)),(by first|exact Kd.aY _ _ _ _ _|exact gG (ok:=fun _=>True) (by first|exact a8|exact bG|exact gD (by simp)|exact bN (by simp))),From.out⟩)
end P
namespace P
set_option maxHeartbeats 8000000
set_option maxRecDepth 100000
set_option synthInstance.maxHeartbeats 400000
set_option synthInstance.maxSize 100000
open Go.RowKit WW.bc WW.bY WW.bZ V
attribute [local go_sem] dB dC
attribute [local go_sem] cP cT cS cW cR cV cQ cU
def fB.f (k:Nat) (l0:List (S64)):Option (Bool):=some (Q.cO l0)
attribute [local go_sem] gT
theorem fB.c (k:Nat) (A0:Option Addr) (c0:Nat) (l0:List (S64)) (r:Bool) (w:World) (ag:Kd.C aK w A0 l0.length l0) (hc0:l0.length≤c0) (h:fB.f k l0=some r):
  Calls Tryz.prog 56 #[.slice A0 l0.length c0] w fun e w'=>e= .returned (.bool r)∧Below w.heap.size w w':=by
 have win:∀(a b c:Int) (d:Bool),decide (b≤a∧a≤c)=d→ae (∀W:World,Calls Tryz.prog 58 #[.int .i64 a,.int .i64 b,.int .i64 c] W fun e w'=>e= .returned (.bool d)∧bf W w'):=fun a b c d hd=>
  ⟨fun W=>cx.c a b c d W (by rw[←hd];unfold cx.f;by_cases hh:b≤a<;>simp[hh])⟩
 have hm:l0.length≤9223372036854775807:=Kd.nH ag;have u:ae ((Q.fg (Q.eE l0 0) (l0.drop 0)&&decide (l0.length≤30))=r):=⟨aA h⟩;have F:=A_ ag;have K:=A_ win;clear ag h win;have hu:=Tryz.underlying64;go_enter Tryz.func56,Tryz.ntmps56;go_wp2
 go_loopg [7] (l0.length+1) (fun ar v7 w'=>∃(i:Nat),v7= .int .i64 (i:Int)∧ae (i+ar=l0.length+1)∧ae (i≤l0.length)∧ae ((Q.fg (Q.eE l0 i) (l0.drop i)&&decide (l0.length≤30))=r)∧ae (Below w.heap.size w w'))
 case atStart=>exact⟨0,rfl,⟨by omega⟩,⟨by omega⟩,u,⟨by repeat(first|exact Below.refl _ _|apply bM|apply dp|apply cv)⟩⟩
 case round=>
  clear u;obtain⟨i,rfl,ak,al,u,G⟩:=hrel;have aB:From w wr:=⟨G.out⟩;have aD:Sz w wr:=⟨G.out.size⟩;by_cases hlt:i<l0.length;rotate_left
  ·have hb3:decide ((i:Int)<(l0.length:Int))=false:=ax (by omega);have hb4:decide (i<l0.length)=false:=ax (by omega);obtain rfl:i=l0.length:=(by have:=al.out;omega);have am:ae (decide (l0.length≤30)=r):=⟨by rw[←u.out,List.drop_eq_nil_of_le (Nat.le_refl _)];simp[Q.fg]⟩;have hx1:decide ((l0.length:Int)≤30)=r:=(by rw[←am.out];exact decide_eq_decide.mpr (by omega));clear u F K;go_wp2;go_ret;exact⟨by first|rfl|(simp[hx1];done),G.out⟩
  ·have hb3:decide ((i:Int)<(l0.length:Int))=true:=ah (by omega);have hb4:decide (i<l0.length)=true:=ah hlt;obtain⟨ad,e,hx0,hx1,hx2,hx3⟩:=eA F.out (i:Int) (by omega) (by omega);cases e;obtain⟨x,hx⟩:∃x,aq l0 (i:Int)=x:=⟨_,rfl⟩;rw[hx]at hx0 hx1 hx2 hx3;simp only[Int.toNat_natCast]at hx0 hx1 hx2 hx3;have j0:dP wr _ _:=⟨hW G hx0⟩;have j1:dP wr _ _:=⟨hW G hx1⟩;have j2:dP wr _ _:=⟨hW G hx2⟩;have J:dP wr _ _:=⟨hW G hx3⟩;have e0:l0[i]=x:=(by rw[←hx];simp[aq,List.getD_eq_getElem?_getD,hlt]);have HD:=A_ (Q.tX l0 i hlt);rw[e0]at HD;obtain⟨b1,hb1⟩:∃b,decide (0≤x.f0.f0∧x.f0.f0≤3)=b:=⟨_,rfl⟩;obtain⟨b2,hb2⟩:∃b,decide (0≤x.f0.f1∧x.f0.f1≤39)=b:=⟨_,rfl⟩;obtain⟨b3,af⟩:∃b,decide (0≤x.f1∧x.f1≤2)=b:=⟨_,rfl⟩;obtain⟨b4,U⟩:∃b,decide (0≤x.f2∧x.f2≤100000)=b:=⟨_,rfl⟩;have W1:=K.out _ _ _ _ hb1;have W2:=K.out _ _ _ _ hb2;have W3:=K.out _ _ _ _ af;have D:=K.out _ _ _ _ U;have z:ae (Q.lZ x=(b1&&(b2&&(b3&&b4)))):=⟨by rw[←hb1,←hb2,←af,←U];rfl⟩;have I:ae (0<i→Q.eE l0 i=(aq l0 ((i-1:Nat):Int)).f2):=⟨fun h0=>by rw[Q.uK l0 i h0 hlt];simp[aq,List.getD_eq_getElem?_getD,show i-1<l0.length by omega]⟩;have H:ae (b4=true→i=0→Q.eE l0 i≤x.f2):=⟨fun h4 h0=>by subst h0;rw[h4,decide_eq_true_eq]at U;exact U.1⟩;clear hx hx0 hx1 hx2 hx3 e0 K hb1 hb2 af U;cases b1 with
   |false=>
    obtain rfl:false=r:=(by rw[←u.out,HD.out,z.out];rfl);clear F u HD z I H
    go_wp2_with (first|((with_reducible refine aC (N:=4) rfl ?_);refine bV #[.int .i64 0,.int .i64 0,.int .i64 0,.int .i64 0] 64 fun g w1 j1 j2 J=> ?_)|(go_at_call 58;(first|(with_reducible refine(W1.out _).mono ?_)|(with_reducible refine(W2.out _).mono ?_)|(with_reducible refine(W3.out _).mono ?_)|(with_reducible refine(D.out _).mono ?_));rintro e w' ⟨rfl,⟨nd,rfl⟩⟩))
    repeat(go_quiet (first|(go_at_call 58;(first|(with_reducible refine(W1.out _).mono ?_)|(with_reducible refine(W2.out _).mono ?_)|(with_reducible refine(W3.out _).mono ?_)|(with_reducible refine(D.out _).mono ?_));rintro e w' ⟨rfl,⟨nd,rfl⟩⟩;exact⟨rfl,_,World.drewN_drewN _ _ _⟩));try go_wp2)
    go_ret;exact⟨rfl,From.out⟩
   |true=>
    cases b2 with
    |false=>
     obtain rfl:false=r:=(by rw[←u.out,HD.out,z.out];rfl);clear F u HD z I H
     go_wp2_with (first|((with_reducible refine aC (N:=4) rfl ?_);refine bV #[.int .i64 0,.int .i64 0,.int .i64 0,.int .i64 0] 64 fun g w1 j1 j2 J=> ?_)|(go_at_call 58;(first|(with_reducible refine(W1.out _).mono ?_)|(with_reducible refine(W2.out _).mono ?_)|(with_reducible refine(W3.out _).mono ?_)|(with_reducible refine(D.out _).mono ?_));rintro e w' ⟨rfl,⟨nd,rfl⟩⟩))
     repeat(go_quiet (first|(go_at_call 58;(first|(with_reducible refine(W1.out _).mono ?_)|(with_reducible refine(W2.out _).mono ?_)|(with_reducible refine(W3.out _).mono ?_)|(with_reducible refine(D.out _).mono ?_));rintro e w' ⟨rfl,⟨nd,rfl⟩⟩;exact⟨rfl,_,World.drewN_drewN _ _ _⟩));try go_wp2)
     go_ret;exact⟨rfl,From.out⟩
    |true=>
     cases b3 with
     |false=>
      obtain rfl:false=r:=(by rw[←u.out,HD.out,z.out];rfl);clear F u HD z I H
      go_wp2_with (first|((with_reducible refine aC (N:=4) rfl ?_);refine bV #[.int .i64 0,.int .i64 0,.int .i64 0,.int .i64 0] 64 fun g w1 j1 j2 J=> ?_)|(go_at_call 58;(first|(with_reducible refine(W1.out _).mono ?_)|(with_reducible refine(W2.out _).mono ?_)|(with_reducible refine(W3.out _).mono ?_)|(with_reducible refine(D.out _).mono ?_));rintro e w' ⟨rfl,⟨nd,rfl⟩⟩))
      repeat(go_quiet (first|(go_at_call 58;(first|(with_reducible refine(W1.out _).mono ?_)|(with_reducible refine(W2.out _).mono ?_)|(with_reducible refine(W3.out _).mono ?_)|(with_reducible refine(D.out _).mono ?_));rintro e w' ⟨rfl,⟨nd,rfl⟩⟩;exact⟨rfl,_,World.drewN_drewN _ _ _⟩));try go_wp2)
      go_ret;exact⟨rfl,From.out⟩
     |true=>
      cases b4 with
      |false=>
       obtain rfl:false=r:=(by rw[←u.out,HD.out,z.out];rfl);clear F u HD z I H
       go_wp2_with (first|((with_reducible refine aC (N:=4) rfl ?_);refine bV #[.int .i64 0,.int .i64 0,.int .i64 0,.int .i64 0] 64 fun g w1 j1 j2 J=> ?_)|(go_at_call 58;(first|(with_reducible refine(W1.out _).mono ?_)|(with_reducible refine(W2.out _).mono ?_)|(with_reducible refine(W3.out _).mono ?_)|(with_reducible refine(D.out _).mono ?_));rintro e w' ⟨rfl,⟨nd,rfl⟩⟩))
       repeat(go_quiet (first|(go_at_call 58;(first|(with_reducible refine(W1.out _).mono ?_)|(with_reducible refine(W2.out _).mono ?_)|(with_reducible refine(W3.out _).mono ?_)|(with_reducible refine(D.out _).mono ?_));rintro e w' ⟨rfl,⟨nd,rfl⟩⟩;exact⟨rfl,_,World.drewN_drewN _ _ _⟩));try go_wp2)
       go_ret;exact⟨rfl,From.out⟩
      |true=>
       have hs:(i:Int)+1≤9223372036854775807:=(by omega);by_cases hz:i=0
       ·have hz1:decide ((i:Int)>0)=false:=ax (by omega);have hz2:decide ((0:Int)<(i:Int))=false:=ax (by omega);have hz3:decide (0<i)=false:=ax (by omega);have X:ae ((Q.fg (Q.eE l0 (i+1)) (l0.drop (i+1))&&decide (l0.length≤30))=r):=⟨by rw[←u.out,HD.out,z.out,show decide (Q.eE l0 i≤x.f2)=true from ah (H.out rfl hz)];rfl⟩;clear u HD z I H hz
        go_wp2_with (first|((with_reducible refine aC (N:=4) rfl ?_);refine bV #[.int .i64 0,.int .i64 0,.int .i64 0,.int .i64 0] 64 fun g w1 j1 j2 J=> ?_)|(go_at_call 58;(first|(with_reducible refine(W1.out _).mono ?_)|(with_reducible refine(W2.out _).mono ?_)|(with_reducible refine(W3.out _).mono ?_)|(with_reducible refine(D.out _).mono ?_));rintro e w' ⟨rfl,⟨nd,rfl⟩⟩))
        repeat(go_quiet (first|(go_at_call 58;(first|(with_reducible refine(W1.out _).mono ?_)|(with_reducible refine(W2.out _).mono ?_)|(with_reducible refine(W3.out _).mono ?_)|(with_reducible refine(D.out _).mono ?_));rintro e w' ⟨rfl,⟨nd,rfl⟩⟩;exact⟨rfl,_,World.drewN_drewN _ _ _⟩));try go_wp2)
        go_roundg (l0.length-i)
        case measure=>have:=ak.out;omega
        case rel=>exact⟨i+1,by go_num,⟨by omega⟩,⟨by omega⟩,X,⟨From.out⟩⟩
       ·obtain⟨j,hj⟩:∃j,j=i-1:=⟨_,rfl⟩;have hz1:decide ((i:Int)>0)=true:=ah (by omega);have hz2:decide ((0:Int)<(i:Int))=true:=ah (by omega);have hz3:decide (0<i)=true:=ah (by omega);have hw1:wrap64 ((i:Int)-1)=(j:Int):=(by unfold wrap64;omega);have hw2:IntKind.i64.wrap ((i:Int)-1)=(j:Int):=(by rw[bJ];exact hw1);have hj1:(j:Int)<(l0.length:Int):=(by omega);have hj2:j<l0.length:=(by omega);have hl1:decide ((j:Int)<(l0.length:Int))=true:=ah (by omega);have hl2:decide (j<l0.length)=true:=ah (by omega);obtain⟨au,e2,_,_,_,V⟩:=eA F.out (j:Int) (by omega) (by omega);cases e2;obtain⟨y,hy⟩:∃y,aq l0 (j:Int)=y:=⟨_,rfl⟩;have O:=A_ (I.out (by omega));rw[←hj,hy]at O;rw[hy]at V;simp only[Int.toNat_natCast]at V;have av:dP wr _ _:=⟨hW G V⟩;clear hy V I hj;by_cases h5:y.f2≤x.f2
        ·have ao:decide (y.f2>x.f2)=false:=ax (by omega);have ap:decide (x.f2<y.f2)=false:=ax (by omega);have X:ae ((Q.fg (Q.eE l0 (i+1)) (l0.drop (i+1))&&decide (l0.length≤30))=r):=⟨by rw[←u.out,HD.out,z.out,show decide (Q.eE l0 i≤x.f2)=true from ah (by rw[O.out];exact h5)];rfl⟩;clear u HD z O H F
         go_wp2_with (first|((with_reducible refine aC (N:=4) rfl ?_);refine bV #[.int .i64 0,.int .i64 0,.int .i64 0,.int .i64 0] 64 fun g w1 j1 j2 J=> ?_)|(go_at_call 58;(first|(with_reducible refine(W1.out _).mono ?_)|(with_reducible refine(W2.out _).mono ?_)|(with_reducible refine(W3.out _).mono ?_)|(with_reducible refine(D.out _).mono ?_));rintro e w' ⟨rfl,⟨nd,rfl⟩⟩))
         repeat(go_quiet (first|(go_at_call 58;(first|(with_reducible refine(W1.out _).mono ?_)|(with_reducible refine(W2.out _).mono ?_)|(with_reducible refine(W3.out _).mono ?_)|(with_reducible refine(D.out _).mono ?_));rintro e w' ⟨rfl,⟨nd,rfl⟩⟩;exact⟨rfl,_,World.drewN_drewN _ _ _⟩));try go_wp2)
         go_roundg (l0.length-i)
         case measure=>have:=ak.out;omega
         case rel=>exact⟨i+1,by go_num,⟨by omega⟩,⟨by omega⟩,X,⟨From.out⟩⟩
        ·have ao:decide (y.f2>x.f2)=true:=ah (by omega);have ap:decide (x.f2<y.f2)=true:=ah (by omega);obtain rfl:false=r:=(by rw[←u.out,HD.out,z.out,show decide (Q.eE l0 i≤x.f2)=false from ax (by rw[O.out];exact h5)];rfl);clear u HD z O H F
         go_wp2_with (first|((with_reducible refine aC (N:=4) rfl ?_);refine bV #[.int .i64 0,.int .i64 0,.int .i64 0,.int .i64 0] 64 fun g w1 j1 j2 J=> ?_)|(go_at_call 58;(first|(with_reducible refine(W1.out _).mono ?_)|(with_reducible refine(W2.out _).mono ?_)|(with_reducible refine(W3.out _).mono ?_)|(with_reducible refine(D.out _).mono ?_));rintro e w' ⟨rfl,⟨nd,rfl⟩⟩))
         repeat(go_quiet (first|(go_at_call 58;(first|(with_reducible refine(W1.out _).mono ?_)|(with_reducible refine(W2.out _).mono ?_)|(with_reducible refine(W3.out _).mono ?_)|(with_reducible refine(D.out _).mono ?_));rintro e w' ⟨rfl,⟨nd,rfl⟩⟩;exact⟨rfl,_,World.drewN_drewN _ _ _⟩));try go_wp2)
         go_ret;exact⟨rfl,From.out⟩
end P
namespace P
set_option maxHeartbeats 8000000
set_option maxRecDepth 100000
set_option synthInstance.maxHeartbeats 400000
set_option synthInstance.maxSize 100000
open Go.RowKit WW.bc WW.bY WW.bZ V
attribute [local go_sem] dB dC gT iV iW jI jJ
attribute [local go_sem] cP cT cS cW cR cV cQ cU
def fP.f (k:Nat) (l0:List (S64)) (F:Int) (G:Int) (H:Int) (I:Int):Option ((List (S64))×Bool):=(im.f l0).bind fun u=>((some (([(⟨(⟨F,G⟩:bH),H,I⟩:S64)]:List (S64)):List (S64))).bind fun z=>(if u.length+z.length<4398046511104 then((some (u++z:List (S64))).bind fun D=>((fB.f k l0).bind fun J=>(if J=true then((fB.f k D).bind fun K=>(if K=true then(some (D,true))else((im.f l0).bind fun O=>(some (O,false)))))else((im.f l0).bind fun U=>(some (U,false))))))else(none)))
noncomputable def fP.T1:Bool×List (List Nat×List Nat):=aW .any (opsOf Tryz.f102 1)
def fP.B1:List Nat:=[0,1,0,4,15,31]
theorem fP.oL:aW .any (opsOf Tryz.f102 1)=fP.T1:=rfl
theorem fP.nR:bL fP.T1.2 fP.B1=true:=by kernel_rfl
theorem fP.c (k:Nat) (A0:Option Addr) (c0:Nat) (l0:List (S64)) (u:Int) (z:Int) (D:Int) (F:Int) (r1:List (S64)) (r2:Bool) (w:World) (U:Kd.C aK w A0 l0.length l0) (hc0:l0.length≤c0) (h:fP.f k l0 u z D F=some (r1,r2)):
  Calls Tryz.prog 102 #[.slice A0 l0.length c0,.agg #[.int .i64 u,.int .i64 z,.int .i64 D,.int .i64 F]] w fun e w'=>∃X:Value,e= .returned (.tuple #[X,.bool r2])∧Kd.R aK 64 w' w.heap.size (fun _=>True) X r1∧Below w.heap.size w w':=by
 replace U:=a6.mk U;replace hc0:=af.mk hc0;unfold fP.f at h;have hu64:=Tryz.underlying64
 all_goals go_enter Tryz.func102,Tryz.ntmps102
 all_goals go_wp2_with ((first
  |((with_reducible refine aC (N:=3) rfl ?_);refine bV #[.int .i64 u,.int .i64 z,.int .i64 D,.int .i64 F] 64 fun g w1 j1 j2 aD=> ?_)
  |(go_at_call 54;(try rw[I.out]);replace h:=bI h;obtain⟨t,A,h⟩:=h;(try dsimp only at h);refine(im.c _ _ _ _ _ Rd.out af.out A).mono ?_;rintro e w2 ⟨v0,rfl,H,hb⟩;obtain⟨O,b0,rfl,j0,q0⟩:=av H;have J:=au.mk hb;clear A H hb)
  |(go_at_call 56;(try rw[I.out]);replace h:=bI h;obtain⟨t,A,h⟩:=h;(try dsimp only at h);refine(fB.c _ _ _ _ _ _ Rd.out af.out A).mono ?_;rintro e w2 ⟨rfl,hb⟩;have J:=au.mk hb;clear A hb)
  |(refine qR (id:=1) (ds:=[]) (l:= #[false,false,false,false,false,false]) fP.oL fP.nR ?_;intro G ad w3 aF u0 aB hHeld;refine qA 0 (some 7) G ?_;refine qT 2 (some 9) G ad hHeld ?_;replace h:=bI h;obtain⟨t,A,h⟩:=h;(try dsimp only at h);simp only[az]at h;(repeat' first|((with_reducible replace h:=bC h);rcases h with ⟨hc,h⟩|⟨hc,h⟩<;>first|exact(bo h).elim|exact absurd hc (by decide)|subst hc|(replace hc:=aM hc;subst hc)|(replace hc:=bR hc;subst hc)|(replace hc:=bS hc;subst hc)|(have hd:(_==_)=true:=hc)|(have hd:(_==_)=false:=aM hc)|(have hd:=bw hc;have he:=bz hc;clear hc)|(have hd:=bA hc;have he:=bB hc)|(have hd:=ax hc)|(have hd:=ah hc;(try(have hn:=Int.natCast_pos.mp hc;have hm:=ah hn;replace hn:=aw hn));first|(obtain⟨al,e_,i_⟩:=bQ (by assumption) (by first|assumption|decide) hc;cases e_)|(obtain⟨ag,e_,c_⟩:=bO (by assumption) (by first|assumption|decide) hc;cases e_))|(have hd:=ah hc)|skip)|((with_reducible replace h:=bP h);obtain⟨I,h⟩:=h;replace I:=A_ I;(try dsimp only at h)));refine ld 1 3 (some 8) (some 10) G (fun K hK=> ?_) (fun K hK=> ?_);(focus (refine cG Tryz.func54 (by kernel_rfl) rfl _ (by rfl) rfl rfl (by(try simp only[List.map_toArray,List.map_cons,List.map_nil]);rfl) ?_;refine(im.c _ _ _ _ _ Rd.out af.out A).mono ?_;rintro e u1 ⟨v0,rfl,H,hb⟩;obtain⟨O,b0,rfl,j0,q0⟩:=av H;have J:=au.mk hb;(try clear H hb);refine⟨_,rfl,hK.out _ _ From.out fun hHeld=> ?_⟩;clear hK K;refine qN ?_;refine qI aK 3 64 10 ([(⟨(⟨u,z⟩:bH),D,F⟩:S64)]:List (S64)) [.int .i64 u,.int .i64 z,.int .i64 D,.int .i64 F] G hHeld (aI.c4 (show Kd.M aK _ _ _ (⟨(⟨u,z⟩:bH),D,F⟩:S64) [.int .i64 u,.int .i64 z,.int .i64 D,.int .i64 F]from(ke _ _ _ (⟨(⟨u,z⟩:bH),D,F⟩:S64))) (aI.none _ _)) ?_;intro B9 ak aq am ao hHeld));rotate_left;(focus (refine rI aK 64 10 ([(⟨(⟨u,z⟩:bH),D,F⟩:S64)]:List (S64)) [.int .i64 u,.int .i64 z,.int .i64 D,.int .i64 F] (aI.c4 (show Kd.M aK _ _ _ (⟨(⟨u,z⟩:bH),D,F⟩:S64) [.int .i64 u,.int .i64 z,.int .i64 D,.int .i64 F]from(ke _ _ _ (⟨(⟨u,z⟩:bH),D,F⟩:S64))) (aI.none _ _)) ?_;intro B9 ak aq am ao;refine hK.out _ _ From.out fun hHeld=> ?_;clear hK K;refine qN ?_;refine qC 1 8 Tryz.func54 G fun K hK=> ?_;refine(im.c _ _ _ _ _ Rd.out af.out A).mono ?_;rintro e u1 ⟨v0,rfl,H,hb⟩;obtain⟨O,b0,rfl,j0,q0⟩:=av H;have J:=au.mk hb;(try clear H hb);refine⟨_,rfl,hK _ _ From.out fun hHeld=> ?_⟩;clear hK K;refine qN ?_));all_goals(refine qP aK t ([(⟨(⟨u,z⟩:bH),D,F⟩:S64)]:List (S64)) 4 11 (.tmp 8) (.tmp 10) 28 (.agg #[(.int .i64 0),(.int .i64 0),(.int .i64 0),(.int .i64 0)]) 32 G hHeld Tryz.underlying28 m_ rfl (by decide) (by omega) (fun _ _ h=>h) (by simp at hc ⊢;omega) ?_;intro B8 ar u8 V aE hHeld;have ap:=af.mk (ia V);generalize t++([(⟨(⟨u,z⟩:bH),D,F⟩:S64)]:List (S64))=aG at h V ap ⊢;refine qA 5 (some 6) G ?_;refine qD G ?_)));(repeat' first|((with_reducible replace h:=bC h);rcases h with ⟨hc,h⟩|⟨hc,h⟩<;>first|exact(bo h).elim|exact absurd hc (by decide)|subst hc|(replace hc:=aM hc;subst hc)|(replace hc:=bR hc;subst hc)|(replace hc:=bS hc;subst hc)|(have hd:(_==_)=true:=hc)|(have hd:(_==_)=false:=aM hc)|(have hd:=bw hc;have he:=bz hc;clear hc)|(have hd:=bA hc;have he:=bB hc)|(have hd:=ax hc)|(have hd:=ah hc;(try(have hn:=Int.natCast_pos.mp hc;have hm:=ah hn;replace hn:=aw hn));first|(obtain⟨al,e_,i_⟩:=bQ (by assumption) (by first|assumption|decide) hc;cases e_)|(obtain⟨ag,e_,c_⟩:=bO (by assumption) (by first|assumption|decide) hc;cases e_))|(have hd:=ah hc)|skip)|((with_reducible replace h:=bP h);obtain⟨I,h⟩:=h;replace I:=A_ I;(try dsimp only at h)));all_goals(try have hn:decide (0<t.length)=true:=ah (by omega));all_goals(try have hn:decide (0<t.length)=false:=ax (by omega)))
 all_goals simp only[Option.some.injEq,Prod.mk.injEq]at h
 all_goals obtain⟨rfl,rfl⟩:=h
 all_goals go_ret2
 all_goals exact⟨_,rfl,(by first|exact a8|exact Kd.aY _ _ _ _ _|exact bG|exact dD (by simp)),From.out⟩
end P
namespace Q
open Go.RowKit P WW.bc WW.bZ
theorem pV (l:List S64) (hl:l.length≤1048577):Ev (fun k=>iy.f k l) (cO l):=Ev.now _
theorem pS (l:List S64) (hl:l.length≤1048577):Ev (fun k=>fB.f k l) (cO l):=Ev.now _
def aG (a b:S64):Bool:=if a.f1=b.f1 then(if a.f2=b.f2 then(if a.f0.f0=b.f0.f0 then decide (a.f0.f1<b.f0.f1)else decide (a.f0.f0<b.f0.f0))else decide (a.f2<b.f2))else decide (a.f1>b.f1)
theorem xy (a b:S64):lM.f a.f0.f0 a.f0.f1 a.f1 a.f2 b.f0.f0 b.f0.f1 b.f1 b.f2=some (aG a b):=by
  unfold lM.f aG;by_cases h1:a.f1=b.f1<;>by_cases h2:a.f2=b.f2<;>by_cases h3:a.f0.f0=b.f0.f0<;>simp[h1,h2,h3]
theorem entry_eq {a b:S64} (h0:a.f0.f0=b.f0.f0) (h1:a.f0.f1=b.f0.f1) (h2:a.f1=b.f1) (h3:a.f2=b.f2):a=b:=by
  obtain⟨⟨x,y⟩,z,u⟩:=a;obtain⟨⟨x',y'⟩,z',u'⟩:=b;simp only at h0 h1 h2 h3;rw[h0,h1,h2,h3]
theorem before_total {a b:S64} (h:a≠b):aG a b=true∨aG b a=true:=by
  unfold aG;by_cases h1:a.f1=b.f1
  · by_cases h2:a.f2=b.f2
    · by_cases h3:a.f0.f0=b.f0.f0
      · by_cases h4:a.f0.f1=b.f0.f1
        · exact absurd (entry_eq h3 h4 h1 h2) h
        · simp[h1,h2,h3];omega
      · simp[h1,h2,h3,Ne.symm h3];omega
    · simp[h1,h2,Ne.symm h2];omega
  · simp[h1,Ne.symm h1];omega
theorem xx {a b:S64} (h:aG a b=true):aG b a=false:=by
  unfold aG at h ⊢;by_cases h1:a.f1=b.f1
  · by_cases h2:a.f2=b.f2
    · by_cases h3:a.f0.f0=b.f0.f0
      · simp[h1,h2,h3]at h ⊢;omega
      · simp[h1,h2,h3,Ne.symm h3]at h ⊢;omega
    · simp[h1,h2,Ne.symm h2]at h ⊢;omega
  · simp[h1,Ne.symm h1]at h ⊢;omega
theorem before_irrefl (a:S64):aG a a=false:=by simp[aG]
theorem sV {a b:S64}:aG a b=true↔a.f1>b.f1∨(a.f1=b.f1∧(a.f2<b.f2∨(a.f2=b.f2∧(a.f0.f0<b.f0.f0∨(a.f0.f0=b.f0.f0∧a.f0.f1<b.f0.f1))))):=by
  unfold aG;by_cases h1:a.f1=b.f1
  · by_cases h2:a.f2=b.f2
    · by_cases h3:a.f0.f0=b.f0.f0
      · rw[ai h1,ai h2,ai h3,decide_eq_true_eq];omega
      · rw[ai h1,ai h2,aj h3,decide_eq_true_eq];omega
    · rw[ai h1,aj h2,decide_eq_true_eq];omega
  · rw[aj h1,decide_eq_true_eq];omega
theorem before_trans {a b c:S64} (h:aG a b=true) (k:aG b c=true):aG a c=true:=by
  rw[sV]at h k ⊢;omega
theorem vv:∀{xs ys:List S64},xs.Pairwise (fun a b=>aG a b=true)→ys.Pairwise (fun a b=>aG a b=true)→(∀a,a∈xs↔a∈ys)→xs=ys
  |[],[],_,_,_=>rfl
  |[],y::_,_,_,h=>by have:=(h y).mpr (by simp);simp at this
  |x::_,[],_,_,h=>by have:=(h x).mp (by simp);simp at this
  |x::xs,y::ys,hx,hy,h=>by
   obtain⟨hx1,hx2⟩:=List.pairwise_cons.1 hx;obtain⟨hy1,hy2⟩:=List.pairwise_cons.1 hy
   have e:x=y:=by
     rcases List.mem_cons.1 ((h x).mp (by simp))with e|e
     · exact e
     rcases List.mem_cons.1 ((h y).mpr (by simp))with e'|e'
     · exact e'.symm
     have a1:=hy1 x e;have a2:=hx1 y e';rw[xx a1]at a2;cases a2
   subst e
   rw[vv hx2 hy2 (fun a=>⟨fun ha=>by
     rcases List.mem_cons.1 ((h a).mp (List.mem_cons_of_mem _ ha))with e|e
     · subst e;have:=hx1 a ha;rw[before_irrefl]at this;cases this
     · exact e,fun ha=>by
     rcases List.mem_cons.1 ((h a).mpr (List.mem_cons_of_mem _ ha))with e|e
     · subst e;have:=hy1 a ha;rw[before_irrefl]at this;cases this
     · exact e⟩)]
def gW (x:S64) (out:List S64):Nat→List S64
  |0=>x::out
  |n+1=>if aG x (out.getD n z64)=true then gW x out n else out.take (n+1)++x::out.drop (n+1)
theorem ud (x:S64) (out:List S64) (a:S64):∀n,a∈gW x out n↔a=x∨a∈out
  |0=>by simp[gW]
  |n+1=>by
   unfold gW
   split
   · exact ud x out a n
   · rw[List.mem_append,List.mem_cons];constructor
     · rintro(h|h|h)
       · exact .inr (List.mem_of_mem_take h)
       · exact .inl h
       · exact .inr (List.mem_of_mem_drop h)
     · rintro(h|h)
       · exact .inr (.inl h)
       · rw[←List.take_append_drop (n+1) out,List.mem_append]at h;rcases h with h|h
         · exact .inl h
         · exact .inr (.inr h)
theorem tL (x:S64) (out:List S64):∀n,(gW x out n).length=out.length+1
  |0=>by simp[gW]
  |n+1=>by
   unfold gW
   split
   · exact tL x out n
   · have:=congrArg List.length (List.take_append_drop (n+1) out);simp only[List.length_append,List.length_cons]at this ⊢;omega
theorem vw (x:S64) (out:List S64) (hs:out.Pairwise (fun a b=>aG a b=true)) (hx:∀a∈out,a≠x):
    ∀n,n≤out.length→(∀a∈out.drop n,aG x a=true)→(gW x out n).Pairwise (fun a b=>aG a b=true)
  |0,_,h=>by
   unfold gW;exact List.pairwise_cons.2 ⟨fun a ha=>h a (by simpa using ha),hs⟩
  |n+1,hn,h=>by
   have hlt:n<out.length:=(by omega);have e:out.getD n z64=out[n]:=(by simp[List.getD_eq_getElem?_getD,hlt]);unfold gW;rw[e]
   split
   · rename_i hb
     refine vw x out hs hx n (by omega) fun a ha=> ?_;rw[List.drop_eq_getElem_cons hlt]at ha;rcases List.mem_cons.1 ha with rfl|ha
     · exact hb
     · exact h a ha
   · rename_i hb
     have u:aG out[n] x=true:=by
       rcases before_total (hx out[n] (List.getElem_mem hlt))with h'|h'
       · exact h'
       · exact absurd h' hb
     have hs':=hs;rw[←List.take_append_drop (n+1) out]at hs';obtain⟨p1,p2,p3⟩:=List.pairwise_append.1 hs';refine List.pairwise_append.2 ⟨p1,List.pairwise_cons.2 ⟨h,p2⟩,fun a ha b hb'=> ?_⟩
     have z:aG a x=true:=by
       rw[List.take_succ_eq_append_getElem hlt,List.mem_append,List.mem_singleton]at ha;rcases ha with ha|rfl
       · rw[List.take_succ_eq_append_getElem hlt]at p1;exact before_trans ((List.pairwise_append.1 p1).2.2 a ha out[n] (by simp)) u
       · exact u
     rcases List.mem_cons.1 hb' with rfl|hb'
     · exact z
     · exact p3 a ha b hb'
def ov (x y:S64):Bool:= !(y.f0.f0==x.f0.f0)|| !(y.f0.f1==x.f0.f1)
def nh (l:List S64) (i:Nat):Bool:=((l.getD i z64).f1 != 0)&&(l.drop (i+1)).all (ov (l.getD i z64))
def eo (l:List S64):Nat→List S64
  |0=>[]
  |i+1=>if nh l i=true then gW (l.getD i z64) (eo l i) (eo l i).length else eo l i
theorem ur (l:List S64):∀i,(eo l i).length≤i
  |0=>by simp[eo]
  |i+1=>by
   have:=ur l i;unfold eo
   split
   · rw[tL];omega
   · omega
theorem pD (x:S64):(⟨(⟨x.f0.f0,x.f0.f1⟩:bH),x.f1,x.f2⟩:S64)=x:=rfl
theorem yF (out:List S64) (y:S64) (n:Nat) (h:n<out.length):aq (out.take (n+1)++y::out.drop (n+1)) (n:Int)=out.getD n z64:=by
  unfold aq;rw[Int.toNat_natCast,List.getD_eq_getElem?_getD,List.getElem?_append_left (by rw[List.length_take];omega),List.getD_eq_getElem?_getD];simp[List.getElem?_take]
theorem tI (out:List S64) (y x:S64) (n:Nat) (h:n≤out.length):(out.take n++y::out.drop n).set n x=out.take n++x::out.drop n:=by
  have e:(out.take n).length=n:=by rw[List.length_take];omega
  rw[List.set_append_right _ _ (by omega),e,Nat.sub_self];rfl
theorem tH (out:List S64) (y:S64) (n:Nat) (h:n≤out.length):(out.take n++y::out.drop n).length=out.length+1:=by
  simp only[List.length_append,List.length_cons,List.length_take,List.length_drop];omega
theorem yG (out:List S64) (n:Nat) (h:n<out.length):out.take (n+1)++out.getD n z64::out.drop (n+1)=out.take n++out.getD n z64::out.drop n:=by
  have e:out.getD n z64=out[n]:=by simp[List.getD_eq_getElem?_getD,h]
  rw[e,List.take_succ_eq_append_getElem h,List.drop_eq_getElem_cons h,List.append_assoc];rfl
theorem uu (l:List S64) (i:Nat) (hi:i<l.length) (hl:l.length≤1048577) (out:List S64) (ho:out.length≤1048577) (R:List S64):
    ∀n,n≤out.length→Ev (fun k=>br.l0 k l (gW l[i] out n) ((i:Int)+1)) R→∀y,Ev (fun k=>br.l2 k l (out.take n++y::out.drop n) (i:Int) (n:Int)) R
  |0,hn,H,y=>by
   refine Ev.step (fun k=>by rw[br.l2]) (aH (by omega) ?_);rw[tH out y 0 (by omega)];refine ak (by omega) (ak (by omega) (ak (by omega) (ak (by omega) ?_)));rw[mo l i hi,bU (n:=(i:Int)+1) (by omega) (by omega),pD];simpa[gW]using H
  |n+1,hn,H,y=>by
   refine Ev.step (fun k=>by rw[br.l2]) ?_;have e1:((n+1:Nat):Int)-1=(n:Int):=(by omega);rw[bU (n:=((n+1:Nat):Int)-1) (by omega) (by omega),e1];rw[tH out y (n+1) hn,yF out y n (by omega)];refine ak (by omega) (ak (by omega) (ak (by omega) (ak (by omega) (ak (by omega) ?_))));rw[mo l i hi];refine aQ (xy _ _) ?_;have et:(((n+1:Nat):Int)).toNat=n+1:=(by omega);rw[et,tI out y _ (n+1) hn,tI out y _ (n+1) hn,pD,pD];by_cases hb:aG l[i] (out.getD n z64)=true
   · refine ak hb (ak (by omega) (ak (by omega) ?_));rw[yG out n (by omega)];refine uu l i hi hl out ho R n (by omega) ?_ _;unfold gW at H
     rwa [ai hb]at H
   · refine aH hb (ak (by omega) (ak (by omega) ?_));rw[bU (n:=(i:Int)+1) (by omega) (by omega)];unfold gW at H
     rwa [aj hb]at H
theorem zN (l:List S64) (hl:l.length≤1048577):Ev (fun k=>br.f k l) (if cO l=true then eo l l.length else[]):=by
  have u:=pV l hl;by_cases h0:cO l=true;rotate_left
  · rw[aj h0];replace h0:=Bool.eq_false_iff.mpr h0;rw[h0]at u;unfold br.f;by_cases hz:l.length=0
    · have:l=[]:=List.length_eq_zero_iff.mp hz;subst this;exact absurd h0 (by decide)
    refine Ev.step (fun k=>by rw[br.l0]) (ak (by omega) (Ev.bind u ?_));exact Ev.step (fun k=>by rw[br.j1]) (aH (by decide) (evs rfl))
  rw[ai h0];rw[h0]at u;obtain⟨R,hR⟩:∃R,eo l l.length=R:=⟨_,rfl⟩
  have key:∀i,i≤l.length→Ev (fun k=>br.l0 k l (eo l i) (i:Int)) R:=by
    refine down (n:=l.length) ?_ ?_
    · refine Ev.step (fun k=>by rw[br.l0]) (aH (by omega) ?_);exact Ev.step (fun k=>by rw[br.j1]) (aH (by decide) (evs hR))
    · intro i hi ih;have eg:l.getD i z64=l[i]:=(by simp[List.getD_eq_getElem?_getD,hi]);refine Ev.step (fun k=>by rw[br.l0]) (ak (by omega) (Ev.bind u ?_));refine Ev.step (fun k=>by rw[br.j1]) (ak rfl (ak (by omega) (ak (by omega) ?_)));rw[mo l i hi,bU (n:=(i:Int)+1) (by omega) (by omega)]
      have z:∀j,j≤l.length→∀b,(b&&(l.drop j).all (ov l[i]))=nh l i→Ev (fun k=>br.l1 k l (eo l i) (i:Int) b (j:Int)) R:=by
        refine down (n:=l.length) ?_ ?_
        · intro b hb;rw[kM]at hb;simp only[List.all_nil,Bool.and_true]at hb;refine Ev.step (fun k=>by rw[br.l1]) (aH (by omega) ?_);have ho:=ur l i;cases b with
          |true=>
           refine ak rfl (ak (by omega) (ak (by omega) (ak (by omega) ?_)));rw[mo l i hi,pD]
           have:=uu l i hi hl (eo l i) (by omega) R (eo l i).length (Nat.le_refl _) (by
             have e:((i+1:Nat):Int)=(i:Int)+1:=(by omega);rw[←e];unfold eo at ih;rw[ai hb.symm,eg]at ih;exact ih) l[i]
           rwa [List.take_length,kM]at this
          |false=>
           refine aH (by decide) ?_;rw[bU (n:=(i:Int)+1) (by omega) (by omega)];have e:((i+1:Nat):Int)=(i:Int)+1:=(by omega);rw[←e];unfold eo at ih;rw[aj (by rw[←hb];decide)]at ih;exact ih
        · intro j hj ih1 b hb;refine Ev.step (fun k=>by rw[br.l1]) (ak (by omega) ?_);rw[drop_cons l j hj,List.all_cons]at hb;have e:(j:Int)+1=((j+1:Nat):Int):=(by omega);rw[bU (n:=(j:Int)+1) (by omega) (by omega),e];cases b with
          |true=>
           refine ak rfl (ak (by omega) (ak (by omega) (ak (by omega) ?_)));rw[mo l j hj,mo l i hi];exact ih1 _ (by rw[←hb];simp[ov])
          |false=>exact aH (by decide) (ih1 false (by rw[←hb];simp))
      have e:(i:Int)+1=((i+1:Nat):Int):=(by omega);rw[e];exact z (i+1) hi _ (by unfold nh;rw[eg])
  rw[hR];exact key 0 (Nat.zero_le _)
theorem ui {x y:S64}:ov x y=true↔y.f0≠x.f0:=by
  have e:y.f0=x.f0↔y.f0.f0=x.f0.f0∧y.f0.f1=x.f0.f1:=by
    obtain⟨⟨a,b⟩,c,d⟩:=x;obtain⟨⟨a',b'⟩,c',d'⟩:=y;simp
  unfold ov;rw[ne_eq,e];by_cases h0:y.f0.f0=x.f0.f0<;>by_cases h1:y.f0.f1=x.f0.f1<;>simp[h0,h1]
theorem ry (l:List S64) (p:bH) (x:S64):
    ∀n,n≤l.length→(iK (l.take n) p=some x↔∃i,i<n∧l[i]? =some x∧x.f0=p∧∀j y,i<j→j<n→l[j]? =some y→y.f0≠p)
  |0,_=>by
   constructor
   · intro h;simp[iK]at h
   · rintro⟨i,hi,_⟩;omega
  |n+1,hn=>by
   have hlt:n<l.length:=(by omega);have ih:=ry l p x n (by omega);have eg:l[n]? =some l[n]:=List.getElem?_eq_getElem hlt;rw[List.take_succ_eq_append_getElem hlt,rz];by_cases hp:p=l[n].f0
   · simp only[ai hp,Option.some.injEq];constructor
     · intro e;subst e;exact⟨n,by omega,eg,hp.symm,fun j y h1 h2 _=>by omega⟩
     · rintro⟨i,hi,h1,h2,h3⟩;by_cases hin:i=n
       · subst hin;rw[eg]at h1;exact aA h1
       · exact absurd hp.symm (h3 n _ (by omega) (by omega) eg)
   · simp only[aj hp];rw[ih];constructor
     · rintro⟨i,hi,h1,h2,h3⟩;refine⟨i,by omega,h1,h2,fun j y k1 k2 k3=> ?_⟩;by_cases hjn:j=n
       · subst hjn;rw[eg]at k3;cases k3;exact fun e=>hp e.symm
       · exact h3 j y k1 (by omega) k3
     · rintro⟨i,hi,h1,h2,h3⟩;by_cases hin:i=n
       · subst hin;rw[eg]at h1;cases h1;exact absurd h2.symm hp
       · exact⟨i,by omega,h1,h2,fun j y k1 k2 k3=>h3 j y k1 (by omega) k3⟩
theorem rv (l:List S64) (i:Nat) (x:S64) (hx:l[i]? =some x):nh l i=true↔x.f1≠0∧∀j y,i<j→l[j]? =some y→y.f0≠x.f0:=by
  have eg:l.getD i z64=x:=by simp[List.getD_eq_getElem?_getD,hx]
  unfold nh;rw[eg,Bool.and_eq_true,bne_iff_ne,List.all_eq_true];constructor
  · rintro⟨h1,h2⟩;refine⟨h1,fun j y hj hy=>ui.mp (h2 y ?_)⟩;rw[List.mem_iff_getElem?];exact⟨j-(i+1),by rw[List.getElem?_drop,show i+1+(j-(i+1))=j by omega];exact hy⟩
  · rintro⟨h1,h2⟩;refine⟨h1,fun y hy=>ui.mpr ?_⟩;rw[List.mem_iff_getElem?]at hy;obtain⟨k,hk⟩:=hy;rw[List.getElem?_drop]at hk;exact h2 _ y (by omega) hk
theorem ou (l:List S64) (x:S64):∀n,n≤l.length→(x∈eo l n↔∃i,i<n∧nh l i=true∧l[i]? =some x)
  |0,_=>by
   constructor
   · intro h;simp[eo]at h
   · rintro⟨i,hi,_⟩;omega
  |n+1,hn=>by
   have hlt:n<l.length:=(by omega);have eg:l[n]? =some l[n]:=List.getElem?_eq_getElem hlt;have ed:l.getD n z64=l[n]:=(by simp[List.getD_eq_getElem?_getD,hlt]);have ih:=ou l x n (by omega);unfold eo
   split
   · rename_i hl
     rw[ud,ih,ed];constructor
     · rintro(e|⟨i,h1,h2,h3⟩)
       · exact⟨n,by omega,hl,by rw[e];exact eg⟩
       · exact⟨i,by omega,h2,h3⟩
     · rintro⟨i,h1,h2,h3⟩;by_cases hin:i=n
       · subst hin;rw[eg]at h3;exact .inl (aA h3).symm
       · exact .inr ⟨i,by omega,h2,h3⟩
   · rename_i hl
     rw[ih];constructor
     · rintro⟨i,h1,h2,h3⟩;exact⟨i,by omega,h2,h3⟩
     · rintro⟨i,h1,h2,h3⟩;by_cases hin:i=n
       · subst hin;exact absurd h2 hl
       · exact⟨i,by omega,h2,h3⟩
theorem vx (l:List S64):∀n,n≤l.length→(eo l n).Pairwise (fun a b=>aG a b=true)
  |0,_=>by simp[eo]
  |n+1,hn=>by
   have hlt:n<l.length:=(by omega);have eg:l[n]? =some l[n]:=List.getElem?_eq_getElem hlt;have ed:l.getD n z64=l[n]:=(by simp[List.getD_eq_getElem?_getD,hlt]);have ih:=vx l n (by omega);unfold eo
   split
   · refine vw _ _ ih (fun a ha e=> ?_) _ (Nat.le_refl _) (by rw[kM];intro a ha;cases ha);rw[ed]at e;obtain⟨i,h1,h2,h3⟩:=(ou l a n (by omega)).mp ha;exact((rv l i a h3).mp h2).2 n _ h1 eg (by rw[e])
   · exact ih
theorem rC (l:List S64) (x:S64):x∈eo l l.length↔iK l x.f0=some x∧x.f1≠0:=by
  rw[ou l x l.length (Nat.le_refl _)];have H:=ry l x.f0 x l.length (Nat.le_refl _);rw[List.take_length]at H;rw[H];constructor
  · rintro⟨i,h1,h2,h3⟩;obtain⟨k1,k2⟩:=(rv l i x h3).mp h2;exact⟨⟨i,h1,h3,rfl,fun j y a b c=>k2 j y a c⟩,k1⟩
  · rintro⟨⟨i,h1,h2,_,h3⟩,k1⟩;refine⟨i,h1,(rv l i x h2).mpr ⟨k1,fun j y a c=>h3 j y a ?_ c⟩,h2⟩;exact(List.getElem?_eq_some_iff.mp c).1
theorem zO (l xs:List S64) (hs:xs.Pairwise (fun a b=>aG a b=true)) (hm:∀x,x∈xs↔iK l x.f0=some x∧x.f1≠0):xs=eo l l.length:=
  vv hs (vx l l.length (Nat.le_refl _)) (fun a=>(hm a).trans (rC l a).symm)
def mX (r n f m:Int):S64:=⟨⟨r,n⟩,f,m⟩
def addEntry (l:List S64) (r n f m:Int):List S64×Bool:=if cO l=true∧cO (l++[mX r n f m])=true then(l++[mX r n f m],true)else(l,false)
theorem sS (l:List S64) (r n f m:Int) (hl:l.length≤1048576):Ev (fun k=>fP.f k l r n f m) (addEntry l r n f m):=by
  unfold fP.f addEntry;refine aQ (n4 l (by omega)) (aQ rfl (ak (by simp;omega) (aQ rfl (Ev.bind (pS l (by omega)) ?_))));by_cases h:cO l=true;rotate_left
  · exact bq (fun h2=>h h2.1)<|aH h (aQ (n4 l (by omega)) (Ev.now _))
  refine ak h (Ev.bind (pS _ (by simp;omega)) ?_);by_cases h2:cO (l++[mX r n f m])=true
  · exact bE ⟨h,h2⟩<|ak h2 (Ev.now _)
  · exact bq (fun h3=>h2 h3.2)<|aH h2 (aQ (n4 l (by omega)) (Ev.now _))
theorem sT (l:List S64) (r n f m:Int) (hl:l.length≤1048576):Ev (fun k=>fU.f k l r n f m) (addEntry l r n f m):=by
  unfold fU.f addEntry;refine aQ (oo l (by omega)) (aQ rfl (ak (by simp;omega) (aQ rfl (Ev.bind (pV l (by omega)) ?_))));by_cases h:cO l=true;rotate_left
  · exact bq (fun h2=>h h2.1)<|aH h (aQ (oo l (by omega)) (Ev.now _))
  refine ak h (Ev.bind (pV _ (by simp;omega)) ?_);by_cases h2:cO (l++[mX r n f m])=true
  · exact bE ⟨h,h2⟩<|ak h2 (Ev.now _)
  · exact bq (fun h3=>h2 h3.2)<|aH h2 (aQ (oo l (by omega)) (Ev.now _))
theorem sQ (l:List S64) (r n f m:Int):(addEntry l r n f m).1.length≤l.length+1:=by
  unfold addEntry;split<;>simp
def yv (p:bH):Prop:=0≤p.f0∧p.f0≤1∧0≤p.f1∧p.f1≤5
section
variable (b:List Int) (hb:b.length≤1048576)
include hb
theorem Ak (i h:Int) (hi:0≤i):∃r n i' h',lL.f b i h=some (r,n,i',h')∧yv ⟨r,n⟩∧0≤i':=by
  unfold lL.f;obtain⟨r,i1,h1,e1,u,r1,_,j1⟩:=e6 b hb i h 2 hi;obtain⟨n,i2,h2,e2,n0,n1,_,j2⟩:=e6 b hb i1 h1 6 j1;rw[e1,az];dsimp only;rw[e2,az];exact⟨_,_,_,_,rfl,⟨u,by have:=r1 (by omega);dsimp only;omega,n0,by have:=n1 (by omega);dsimp only;omega⟩,j2⟩
end
end Q
namespace P
open Go.RowKit WW.bc
theorem zj {l:List S64} (h:Q.cO l=true):l.length≤30∧(∀x∈l,cn x.f0.f0∧cn x.f0.f1)∧∀x∈l,0≤x.f1∧x.f1≤2:=by
  have h1:l.length≤30:=by simp[Q.cO]at h;exact h.2
  have h2:Q.fg 0 l=true:=by simp[Q.cO]at h;exact h.1
  have key:∀(l:List S64) (p:Int),Q.fg p l=true→∀x∈l,(cn x.f0.f0∧cn x.f0.f1)∧0≤x.f1∧x.f1≤2:=by
    intro l
    induction l with
    |nil=>intro p _ x hx;cases hx
    |cons e r ih=>
     intro p h x hx;simp only[Q.fg,Bool.and_eq_true]at h;rcases List.mem_cons.1 hx with rfl|hx
     · have:=h.1;simp[Q.lZ]at this;exact⟨⟨nD (by omega) (by omega),nD (by omega) (by omega)⟩,by omega,by omega⟩
     · exact ih _ h.2.2 x hx
  exact⟨h1,fun x hx=>(key l 0 h2 x hx).1,fun x hx=>(key l 0 h2 x hx).2⟩
end P
namespace P
open Go.RowKit WW.bc WW.bY WW.bZ V
open Go.Maps (Keyed)
attribute [local go_sem] dB dC
structure Found (m:bH→Option S64) (left:Lit→Bool) (xs:List S64):Prop where
  all:∀x∈xs,m x.f0=some x∧x.f1≠0∧cn x.f0.f0∧cn x.f0.f1∧left (fF x.f0.f0 x.f0.f1)=false
  nodup:xs.Pairwise (fun a b=>a.f0≠b.f0)
  got:∀(p:bH) (x:S64),cn p.f0→cn p.f1→m p=some x→x.f1≠0→left (fF p.f0 p.f1)=false→x∈xs
theorem Found.step {m:bH→Option S64} {left:Lit→Bool} {xs:List S64} (h:Found m left xs) (c:S64) (h0:cn c.f0.f0) (h1:cn c.f0.f1) (hm:m c.f0=some c)
    (hl:left (fF c.f0.f0 c.f0.f1)=true):Found m (fun z=>left z&& !z.sameKey (fF c.f0.f0 c.f0.f1)) (if c.f1≠0 then xs++[c]else xs):=by
  have hk:=mm.key (mj h0 h1);have D:(fF c.f0.f0 c.f0.f1).sameKey (fF c.f0.f0 c.f0.f1)=true:=WideAt.sameKey_self hk
  have hold:∀p x,cn p.f0→cn p.f1→m p=some x→x.f1≠0→(left (fF p.f0 p.f1)&& !(fF p.f0 p.f1).sameKey (fF c.f0.f0 c.f0.f1))=false→x∈xs∨x=c:=by
    intro p x p0 p1 hp hx hf;rw[Bool.and_eq_false_iff]at hf;rcases hf with hf|hf
    · exact .inl (h.got p x p0 p1 hp hx hf)
    · by_cases he:fF p.f0 p.f1=fF c.f0.f0 c.f0.f1
      · obtain⟨e0,e1⟩:=uA p0 p1 h0 h1 he
        have:p=c.f0:=by
          obtain⟨a,b⟩:=p;obtain⟨⟨u,v⟩,_,_⟩:=c;simp only at e0 e1;rw[e0,e1]
        subst this;rw[hm]at hp;exact .inr (aA hp).symm
      · rw[Maps.sameKey_ne he]at hf;cases hf
  by_cases hc:c.f1≠0
  · rw[ai hc];refine⟨fun x hx=> ?_,?_,fun p x p0 p1 hp hx hf=> ?_⟩
    · rcases List.mem_append.1 hx with hx|hx
      · obtain⟨a,b,u,v,w⟩:=h.all x hx;exact⟨a,b,u,v,by rw[w];rfl⟩
      · rw[List.mem_singleton]at hx;subst hx;exact⟨hm,hc,h0,h1,by rw[D];simp⟩
    · refine List.pairwise_append.2 ⟨h.nodup,List.pairwise_singleton _ _,fun a ha b hb e=> ?_⟩;rw[List.mem_singleton]at hb;subst hb;have:=(h.all a ha).2.2.2.2;rw[e,hl]at this;cases this
    · rcases hold p x p0 p1 hp hx hf with h'|h'
      · exact List.mem_append_left _ h'
      · rw[h'];simp
  · rw[aj hc];refine⟨fun x hx=> ?_,h.nodup,fun p x p0 p1 hp hx hf=> ?_⟩
    · obtain⟨a,b,u,v,w⟩:=h.all x hx;exact⟨a,b,u,v,by rw[w];rfl⟩
    · rcases hold p x p0 p1 hp hx hf with h'|h'
      · exact h'
      · rw[h']at hx;exact absurd hx hc
theorem zn {D:DataW Unit} {m:bH→Option S64} (h:ly D m) {p:bH} (h0:cn p.f0) (h1:cn p.f1) {c:S64} (hat:∀zd,D.atKey (fF p.f0 p.f1) zd=jh c):m p=some c:=by
  cases hm:m p with
  |none=>
   have a:=(h.at_ p h0 h1 (.map [])).symm.trans (hat _);rw[hm]at a;exact absurd a (by simp[jh])
  |some x=>
   have a:=(h.at_ p h0 h1 (.map [])).symm.trans (hat _);rw[hm]at a;exact congrArg some (rJ a)
end P
namespace P
set_option maxHeartbeats 8000000
set_option maxRecDepth 100000
set_option synthInstance.maxHeartbeats 400000
set_option synthInstance.maxSize 100000
open Go.RowKit WW.bc WW.bY WW.bZ V
attribute [local go_sem] dB dC
attribute [local go_sem] cP cT cS cW cR cV cQ cU
def l7.f (l0:List (S64)) (u:Int) (z:Int):Option (Int):=if cn u∧cn z∧l0.length≤1048577 then some (if Q.cO l0=true then iG l0 ⟨u,z⟩else 0)else none
theorem zl {l:List S64} (h:Q.cO l=true):l.length≤1000∧∀x∈l,cn x.f0.f0∧cn x.f0.f1:=by
 have h1:l.length≤30:=by simp[Q.cO]at h;exact h.2
 refine⟨by omega,fun x hx=> ?_⟩;have h2:Q.fg 0 l=true:=by simp[Q.cO]at h;exact h.1
 have key:∀(l:List S64) (p:Int),Q.fg p l=true→∀x∈l,cn x.f0.f0∧cn x.f0.f1:=by
  intro l
  induction l with
  |nil=>intro p _ x hx;cases hx
  |cons e r ih=>
   intro p h x hx;simp only[Q.fg,Bool.and_eq_true]at h;rcases List.mem_cons.1 hx with rfl|hx
   ·have:=h.1;simp[Q.lZ]at this;exact⟨nD (by omega) (by omega),nD (by omega) (by omega)⟩
   ·exact ih _ h.2.2 x hx
 exact key l 0 h2 x hx
theorem l7.c (A0:Option Addr) (c0:Nat) (l0:List (S64)) (u:Int) (z:Int) (r:Int) (w:World) (J:Kd.C aK w A0 l0.length l0) (hc0:l0.length≤c0) (h:l7.f l0 u z=some r):
  Calls Tryz.prog 105 #[.slice A0 l0.length c0,.agg #[.int .i64 u,.int .i64 z]] w fun e w'=>e= .returned (.int .i64 r)∧Below w.heap.size w w':=by
 unfold l7.f at h;by_cases h0:cn u∧cn z∧l0.length≤1048577;rotate_left
 ·rw[aj h0]at h;cases h
 rw[ai h0]at h;obtain⟨k,hk⟩:=Q.pS l0 h0.2.2;have A:=hk k (Nat.le_refl _);have i0:=a6.mk J;have i1:=af.mk hc0;clear hk J hc0;by_cases hb:Q.cO l0=true
 ·rw[ai hb]at h;rw[hb]at A;obtain⟨hl,hw⟩:=zl hb;obtain rfl:=aA h;have H:ae (iG l0 ⟨u,z⟩=((iK l0 ⟨u,z⟩).getD z64).f1):=⟨rfl⟩;obtain⟨res,hres⟩:∃res,iG l0 ⟨u,z⟩=res:=⟨_,rfl⟩;rw[hres]at H;rw[hres];have A:=A_ A;have HW:=A_ hw;have H0:=A_ h0;clear h hres hw h0 hb;have X:=Tryz.underlying64;have V:=Tryz.underlying62;have U:=ym;go_enter Tryz.func105,Tryz.ntmps105
  go_wp2_with (first
   |((with_reducible refine aC (N:=3) rfl ?_);refine bV #[.int .i64 u,.int .i64 z] 62 fun g w1 j1 j2 O=> ?_)
   |(go_at_call 56;refine(fB.c k _ _ _ true _ Rd.out af.out A.out).mono ?_;rintro e w2 ⟨rfl,hb⟩;have G:=au.mk hb;clear hb)
   |(go_at_call 133;refine(rp.c _ _ _ _ Rd.out af.out hl HW.out).mono ?_;rintro e w3 ⟨b,rfl,hb1,hm,hb⟩;obtain⟨D,hD,F⟩:=hm;have G:=au.mk hb;obtain⟨x,hrun,hx⟩:=ua hD F ⟨u,z⟩ H0.out.1 H0.out.2.1;have I:=A_ hx;clear hb hb1 hD F hx)
   |((with_reducible refine oF ?_);intro w3 ad;go_region_held3 (fun w'=>fz w3 w') (first|exact⟨From.out⟩|skip) (first|(go_at_call 56;refine(fB.c k _ _ _ true _ Rd.out af.out A.out).mono ?_;rintro e w2 ⟨rfl,hb⟩;have G:=au.mk hb;clear hb)|(go_at_call 133;refine(rp.c _ _ _ _ Rd.out af.out hl HW.out).mono ?_;rintro e w3 ⟨b,rfl,hb1,hm,hb⟩;obtain⟨D,hD,F⟩:=hm;have G:=au.mk hb;obtain⟨x,hrun,hx⟩:=ua hD F ⟨u,z⟩ H0.out.1 H0.out.2.1;have I:=A_ hx;clear hb hb1 hD F hx))))
  go_ret;have K:x.f1=res:=by rw[H.out,←I.out]
  exact⟨by rw[←K];rfl,From.out⟩
 ·rw[aj hb]at h;replace hb:=Bool.eq_false_iff.mpr hb;rw[hb]at A;obtain rfl:=aA h;have A:=A_ A;clear h h0 hb;go_enter Tryz.func105,Tryz.ntmps105
  go_wp2_with (first
   |((with_reducible refine aC (N:=3) rfl ?_);refine bV #[.int .i64 u,.int .i64 z] 62 fun g w1 j1 j2 O=> ?_)
   |(go_at_call 56;refine(fB.c k _ _ _ false _ Rd.out af.out A.out).mono ?_;rintro e w2 ⟨rfl,hb⟩;have G:=au.mk hb;clear hb))
  go_ret;exact⟨rfl,From.out⟩
end P
namespace Q
open Go.RowKit P WW.bc WW.bZ
theorem yj (l:List S64) (x:S64) (p:bH):iG (l++[x]) p=if p=x.f0 then x.f1 else iG l p:=by
  unfold iG;rw[rz];by_cases h:p=x.f0<;>simp[h]
theorem uD {p q:bH}:p=q↔p.f0=q.f0∧p.f1=q.f1:=by
  obtain⟨a,b⟩:=p;obtain⟨c,d⟩:=q;simp
theorem yl (l:List S64) (a b:Int) (hl:l.length≤1048577):Ev (fun k=>dX.f k l a b) (if cO l=true then iG l ⟨a,b⟩else 0):=by
  have u:=pV l hl;by_cases h0:cO l=true;rotate_left
  · rw[aj h0];replace h0:=Bool.eq_false_iff.mpr h0;rw[h0]at u;unfold dX.f;by_cases hz:l.length=0
    · have:l=[]:=List.length_eq_zero_iff.mp hz;subst this;exact absurd h0 (by decide)
    refine Ev.step (fun k=>by rw[dX.l0]) (ak (by omega) (Ev.bind u ?_));exact Ev.step (fun k=>by rw[dX.j1]) (aH (by decide) (evs rfl))
  rw[ai h0];rw[h0]at u
  have key:∀i,i≤l.length→Ev (fun k=>dX.l0 k l (iG (l.take i) ⟨a,b⟩) (i:Int) a b) (iG l ⟨a,b⟩):=by
    refine down (n:=l.length) ?_ ?_
    · refine Ev.step (fun k=>by rw[dX.l0]) (aH (by omega) ?_);exact Ev.step (fun k=>by rw[dX.j1]) (aH (by decide) (evs (by rw[List.take_length])))
    · intro i hi ih;refine Ev.step (fun k=>by rw[dX.l0]) (ak (by omega) (Ev.bind u ?_));refine Ev.step (fun k=>by rw[dX.j1]) (ak rfl (ak (by omega) (ak (by omega) ?_)));rw[mo l i hi,bU (n:=(i:Int)+1) (by omega) (by omega)];rw[List.take_succ_eq_append_getElem hi,yj]at ih;by_cases he:(⟨a,b⟩:bH)=l[i].f0
      · rw[ai he]at ih;obtain⟨e1,e2⟩:=uD.mp he;simp only at e1 e2;exact ak (by simp[←e1,←e2]) ih
      · rw[aj he]at ih;refine aH ?_ ih;intro hh;simp only[Bool.and_eq_true,beq_iff_eq]at hh;exact he (uD.mpr ⟨hh.1.symm,hh.2.symm⟩)
  exact key 0 (Nat.zero_le _)
end Q
namespace P
set_option maxRecDepth 100000
set_option synthInstance.maxHeartbeats 400000
set_option synthInstance.maxSize 100000
open Go.RowKit WW.bc WW.bY WW.bZ V
attribute [local go_sem] dB dC
attribute [local go_sem] cP cT cS cW cR cV cQ cU
def dV.f (k:Nat) (F:List (ag)) (u:Int) (G:List Int) (z:Int) (D:Int) (H:List (S64)):Option (Bool):=some (Q.dx F u G z D H)
attribute [local go_sem] gT
set_option maxHeartbeats 2000000 in
theorem dV.c (k:Nat) (K:Option Addr) (U:Nat) (D:List (ag)) (J:Int) (O:Option Addr) (V:Nat) (F:List Int) (G:Int) (z:Int) (ad:Option Addr) (X:Nat) (u:List (S64)) (r:Bool) (w:World) (aH:Kd.C aN w K D.length D) (aE:D.length≤U) (aI:Kd.C (Kd.int .i64) w O F.length F) (aF:F.length≤V) (av:Kd.C aK w ad u.length u) (aG:u.length≤X) (h:dV.f k D J F G z u=some r):
  Calls Tryz.prog 28 #[.agg #[.slice K D.length U,.int .i64 J,.slice O F.length V,.int .i64 G,.int .i64 z,.slice ad u.length X]] w fun e w'=>e= .returned (.bool r)∧Below w.heap.size w w':=by
 obtain⟨b1,hb1⟩:∃b,cp D J F=b:=⟨_,rfl⟩;obtain⟨b2,hb2⟩:∃b,Q.cO u=b:=⟨_,rfl⟩;obtain⟨b3,hb3⟩:∃b,decide (-10≤G∧G≤40)=b:=⟨_,rfl⟩;obtain⟨b4,hb4⟩:∃b,decide (0≤z∧z≤100000)=b:=⟨_,rfl⟩;obtain⟨ap,aD⟩:∃b,decide (Q.ja u z)=b:=⟨_,rfl⟩;have H:ae ((b1&&(b2&&(b3&&(b4&&ap))))=r):=⟨by rw[←hb1,←hb2,←hb3,←hb4,←aD];exact aA h⟩;have A1:ae (fJ.f D J F=some b1):=⟨by rw[←hb1];rfl⟩;have A2:ae (fB.f k u=some b2):=⟨by rw[←hb2];rfl⟩;have ao:ae (cx.f z 0 100000=some b4):=⟨by rw[←hb4];unfold cx.f;by_cases hh:0≤z<;>simp[hh]⟩;have am:ae (fC.f G=some b3):=⟨by rw[←hb3];unfold fC.f cx.f;by_cases hh: -10≤G<;>simp[hh]⟩;have H5:=A_ aD;have al:=A_ av;have ak:=A_ (Kd.nH av);have i0:=a6.mk aH;have i1:=af.mk aE;have i2:=a6.mk aI;have i3:=af.mk aF;have i4:=a6.mk av;have i5:=af.mk aG;have hu:=Tryz.underlying30;clear aH aE aI aF av aG h hb1 hb2 hb3 hb4 aD;cases b1 with
 |false=>
  obtain rfl:false=r:=H.out;clear H H5 al ak;go_enter Tryz.func28,Tryz.ntmps28
  go_wp2_with (first|((with_reducible refine aC (N:=1) rfl ?_);(try(refine iY (by rfl) ?_;dsimp only));refine bV #[.slice K D.length U,.int .i64 J,.slice O F.length V,.int .i64 G,.int .i64 z,.slice ad u.length X] 30 fun g w1 j1 j2 ar=> ?_)|(go_at_call 55;refine(fJ.c _ _ _ _ _ _ _ _ _ Rd.out af.out Rd.out af.out A1.out).mono ?_;rintro e w2 ⟨rfl,hb⟩;have I:=au.mk hb;clear hb)|(go_at_call 56;refine(fB.c k _ _ _ _ _ Rd.out af.out A2.out).mono ?_;rintro e w2 ⟨rfl,hb⟩;have I:=au.mk hb;clear hb)|(go_at_call 57;refine(fC.c _ _ _ am.out).mono ?_;rintro e w2 ⟨rfl,n,rfl⟩)|(go_at_call 58;refine(cx.c _ _ _ _ _ ao.out).mono ?_;rintro e w2 ⟨rfl,n,rfl⟩))
  repeat(go_quiet (fail);try go_wp2)
  go_ret;exact⟨rfl,From.out⟩
 |true=>
  cases b2 with
  |false=>
   obtain rfl:false=r:=H.out;clear H H5 al ak;go_enter Tryz.func28,Tryz.ntmps28
   go_wp2_with (first|((with_reducible refine aC (N:=1) rfl ?_);(try(refine iY (by rfl) ?_;dsimp only));refine bV #[.slice K D.length U,.int .i64 J,.slice O F.length V,.int .i64 G,.int .i64 z,.slice ad u.length X] 30 fun g w1 j1 j2 ar=> ?_)|(go_at_call 55;refine(fJ.c _ _ _ _ _ _ _ _ _ Rd.out af.out Rd.out af.out A1.out).mono ?_;rintro e w2 ⟨rfl,hb⟩;have I:=au.mk hb;clear hb)|(go_at_call 56;refine(fB.c k _ _ _ _ _ Rd.out af.out A2.out).mono ?_;rintro e w2 ⟨rfl,hb⟩;have I:=au.mk hb;clear hb)|(go_at_call 57;refine(fC.c _ _ _ am.out).mono ?_;rintro e w2 ⟨rfl,n,rfl⟩)|(go_at_call 58;refine(cx.c _ _ _ _ _ ao.out).mono ?_;rintro e w2 ⟨rfl,n,rfl⟩))
   repeat(go_quiet (fail);try go_wp2)
   go_ret;exact⟨rfl,From.out⟩
  |true=>
   cases b3 with
   |false=>
    obtain rfl:false=r:=H.out;clear H H5 al ak;go_enter Tryz.func28,Tryz.ntmps28
    go_wp2_with (first|((with_reducible refine aC (N:=1) rfl ?_);(try(refine iY (by rfl) ?_;dsimp only));refine bV #[.slice K D.length U,.int .i64 J,.slice O F.length V,.int .i64 G,.int .i64 z,.slice ad u.length X] 30 fun g w1 j1 j2 ar=> ?_)|(go_at_call 55;refine(fJ.c _ _ _ _ _ _ _ _ _ Rd.out af.out Rd.out af.out A1.out).mono ?_;rintro e w2 ⟨rfl,hb⟩;have I:=au.mk hb;clear hb)|(go_at_call 56;refine(fB.c k _ _ _ _ _ Rd.out af.out A2.out).mono ?_;rintro e w2 ⟨rfl,hb⟩;have I:=au.mk hb;clear hb)|(go_at_call 57;refine(fC.c _ _ _ am.out).mono ?_;rintro e w2 ⟨rfl,n,rfl⟩)|(go_at_call 58;refine(cx.c _ _ _ _ _ ao.out).mono ?_;rintro e w2 ⟨rfl,n,rfl⟩))
    repeat(go_quiet (fail);try go_wp2)
    go_ret;exact⟨rfl,From.out⟩
   |true=>
    cases b4 with
    |false=>
     obtain rfl:false=r:=H.out;clear H H5 al ak;go_enter Tryz.func28,Tryz.ntmps28
     go_wp2_with (first|((with_reducible refine aC (N:=1) rfl ?_);(try(refine iY (by rfl) ?_;dsimp only));refine bV #[.slice K D.length U,.int .i64 J,.slice O F.length V,.int .i64 G,.int .i64 z,.slice ad u.length X] 30 fun g w1 j1 j2 ar=> ?_)|(go_at_call 55;refine(fJ.c _ _ _ _ _ _ _ _ _ Rd.out af.out Rd.out af.out A1.out).mono ?_;rintro e w2 ⟨rfl,hb⟩;have I:=au.mk hb;clear hb)|(go_at_call 56;refine(fB.c k _ _ _ _ _ Rd.out af.out A2.out).mono ?_;rintro e w2 ⟨rfl,hb⟩;have I:=au.mk hb;clear hb)|(go_at_call 57;refine(fC.c _ _ _ am.out).mono ?_;rintro e w2 ⟨rfl,n,rfl⟩)|(go_at_call 58;refine(cx.c _ _ _ _ _ ao.out).mono ?_;rintro e w2 ⟨rfl,n,rfl⟩))
     repeat(go_quiet (fail);try go_wp2)
     go_ret;exact⟨rfl,From.out⟩
    |true=>
     obtain rfl:ap=r:=H.out;by_cases hz:u.length=0
     ·have aL:((u.length:Int)==0)=true:=beq_iff_eq.mpr (by omega);have z2:((u.length:Int) != 0)=false:=bne_eq_false_iff_eq.mpr (by omega);have z3:decide ((u.length:Int)=0)=true:=ah (by omega);obtain rfl:true=ap:=(by rw[←H5.out];exact(ah (.inl hz)).symm);clear H H5 al ak hz;go_enter Tryz.func28,Tryz.ntmps28
      go_wp2_with (first|((with_reducible refine aC (N:=1) rfl ?_);(try(refine iY (by rfl) ?_;dsimp only));refine bV #[.slice K D.length U,.int .i64 J,.slice O F.length V,.int .i64 G,.int .i64 z,.slice ad u.length X] 30 fun g w1 j1 j2 ar=> ?_)|(go_at_call 55;refine(fJ.c _ _ _ _ _ _ _ _ _ Rd.out af.out Rd.out af.out A1.out).mono ?_;rintro e w2 ⟨rfl,hb⟩;have I:=au.mk hb;clear hb)|(go_at_call 56;refine(fB.c k _ _ _ _ _ Rd.out af.out A2.out).mono ?_;rintro e w2 ⟨rfl,hb⟩;have I:=au.mk hb;clear hb)|(go_at_call 57;refine(fC.c _ _ _ am.out).mono ?_;rintro e w2 ⟨rfl,n,rfl⟩)|(go_at_call 58;refine(cx.c _ _ _ _ _ ao.out).mono ?_;rintro e w2 ⟨rfl,n,rfl⟩))
      repeat(go_quiet (fail);try go_wp2)
      go_ret;exact⟨rfl,From.out⟩
     ·obtain⟨j,hj⟩:∃j,j+1=u.length:=⟨u.length-1,by omega⟩;have aL:((u.length:Int)==0)=false:=beq_eq_false_iff_ne.mpr (by omega);have z2:((u.length:Int) != 0)=true:=bne_iff_ne.mpr (by omega);have z3:decide ((u.length:Int)=0)=false:=ax (by omega);have hM:=ak.out;have hw1:wrap64 ((u.length:Int)-1)=(j:Int):=(by unfold wrap64;omega);have hw2:IntKind.i64.wrap ((u.length:Int)-1)=(j:Int):=(by rw[bJ];exact hw1);have hj1:(j:Int)<(u.length:Int):=(by omega);have hj2:j<u.length:=(by omega);obtain⟨aJ,e2,_,_,_,aB⟩:=eA al.out (j:Int) (by omega) (by omega);subst e2;obtain⟨y,hy⟩:∃y,aq u (j:Int)=y:=⟨_,rfl⟩;rw[hy]at aB;simp only[Int.toNat_natCast]at aB;have aM:dP w _ _:=⟨aB⟩
      have h6:decide (y.f2≤z)=ap:=by
       rw[←H5.out,←hy];refine decide_eq_decide.mpr ?_;unfold Q.ja;rw[show u.length-1=j by omega];simp[aq,hz]
      have h7:decide (z≥y.f2)=ap:=h6;clear H H5 al ak hM hy aB hz hj;go_enter Tryz.func28,Tryz.ntmps28
      go_wp2_with (first|((with_reducible refine aC (N:=1) rfl ?_);(try(refine iY (by rfl) ?_;dsimp only));refine bV #[.slice K D.length U,.int .i64 J,.slice O F.length V,.int .i64 G,.int .i64 z,.slice (some aJ) u.length X] 30 fun g w1 j1 j2 ar=> ?_)|(go_at_call 55;refine(fJ.c _ _ _ _ _ _ _ _ _ Rd.out af.out Rd.out af.out A1.out).mono ?_;rintro e w2 ⟨rfl,hb⟩;have I:=au.mk hb;clear hb)|(go_at_call 56;refine(fB.c k _ _ _ _ _ Rd.out af.out A2.out).mono ?_;rintro e w2 ⟨rfl,hb⟩;have I:=au.mk hb;clear hb)|(go_at_call 57;refine(fC.c _ _ _ am.out).mono ?_;rintro e w2 ⟨rfl,n,rfl⟩)|(go_at_call 58;refine(cx.c _ _ _ _ _ ao.out).mono ?_;rintro e w2 ⟨rfl,n,rfl⟩))
      repeat(go_quiet (fail);try go_wp2)
      go_ret;exact⟨by first|rfl|(simp[h6];done),From.out⟩
end P
namespace P
set_option maxHeartbeats 8000000
set_option maxRecDepth 100000
set_option synthInstance.maxHeartbeats 400000
set_option synthInstance.maxSize 100000
open Go.RowKit WW.bc WW.bY WW.bZ V
attribute [local go_sem] dB dC
attribute [local go_sem] cP cT cS cW cR cV cQ cU
def mb.f (k:Nat) (D:List (ag)) (z:Int) (F:List Int) (I:Int) (J:Int) (K:List (S64)):Option ((List (ag))×Int×List Int×Int×Int×(List (S64))×Bool):=(eD.f D z F I J K).bind fun u=>((dV.f k D z F I J K).bind fun O=>(if O=true then((eK.f k D z F).bind fun G=>((dc.f k D z F).bind fun U=>(if(U.length:Int)>0 then((eB.f k D z F).bind fun H=>(if H.2.2.2=true then(some (H.1,H.2.1,H.2.2.1,u.2.2.2.1,u.2.2.2.2.1,u.2.2.2.2.2,true))else(some (u.1,u.2.1,u.2.2.1,u.2.2.2.1,u.2.2.2.2.1,u.2.2.2.2.2,false))))else(if G.2.2.2=true then(some (G.1,G.2.1,G.2.2.1,u.2.2.2.1,u.2.2.2.2.1,u.2.2.2.2.2,true))else(some (u.1,u.2.1,u.2.2.1,u.2.2.2.1,u.2.2.2.2.1,u.2.2.2.2.2,false))))))else(some (u.1,u.2.1,u.2.2.1,u.2.2.2.1,u.2.2.2.2.1,u.2.2.2.2.2,false))))
theorem mb.c (k:Nat) (I:Option Addr) (ad:Nat) (D:List (ag)) (U:Int) (J:Option Addr) (ak:Nat) (F:List Int) (V:Int) (X:Int) (K:Option Addr) (al:Nat) (G:List (S64)) (r1:List (ag)) (r2:Int) (r3:List Int) (aF:Int) (aG:Int) (aH:List (S64)) (aI:Bool) (w:World) (aB:Kd.C aN w I D.length D) (ao:D.length≤ad) (aD:Kd.C (Kd.int .i64) w J F.length F) (ap:F.length≤ak) (aE:Kd.C aK w K G.length G) (aq:G.length≤al) (h:mb.f k D U F V X G=some (r1,r2,r3,aF,aG,aH,aI)):
  Calls Tryz.prog 60 #[.agg #[.slice I D.length ad,.int .i64 U,.slice J F.length ak,.int .i64 V,.int .i64 X,.slice K G.length al]] w fun e w'=>∃aL aO aP:Value,e= .returned (.tuple #[.agg #[aL,.int .i64 r2,aO,.int .i64 aF,.int .i64 aG,aP],.bool aI])∧Kd.R aN 110 w' w.heap.size (fun _=>True) aL r1∧Kd.R (Kd.int .i64) 3 w' w.heap.size (fun _=>True) aO r3∧Kd.R aK 64 w' w.heap.size (fun _=>True) aP aH∧Below w.heap.size w w':=by
 replace aB:=a6.mk aB;replace ao:=af.mk ao;replace aD:=a6.mk aD;replace ap:=af.mk ap;replace aE:=a6.mk aE;replace aq:=af.mk aq;unfold mb.f at h;have aQ:=Tryz.underlying27;have aR:=Tryz.underlying30
 all_goals go_enter Tryz.func60,Tryz.ntmps60
 all_goals go_wp2_with ((first
  |((with_reducible refine aC (N:=1) rfl ?_);refine bV #[.slice I D.length ad,.int .i64 U,.slice J F.length ak,.int .i64 V,.int .i64 X,.slice K G.length al] 30 fun g w1 j1 j2 am=> ?_)
  |((with_reducible refine aC (N:=2) rfl ?_);refine bV #[.slice none 0 0,.int .i64 0,.slice none 0 0,.int .i64 0,.int .i64 0,.slice none 0 0] 30 fun g w1 j1 j2 am=> ?_)
  |((with_reducible refine aC (N:=4) rfl ?_);refine bV #[.slice none 0 0,.int .i64 0,.slice none 0 0,.int .i64 0,.int .i64 0,.slice none 0 0] 30 fun g w1 j1 j2 am=> ?_)
  |((with_reducible refine aC (N:=5) rfl ?_);refine bV #[.slice none 0 0,.int .i64 0,.slice none 0 0] 27 fun g w1 j1 j2 am=> ?_)
  |(go_at_call 27;replace h:=bI h;obtain⟨⟨t1,t2,t3,t4,t5,t6⟩,A,h⟩:=h;(try dsimp only at h);refine(eD.c _ _ _ _ _ _ _ _ _ _ _ _ _ _ _ _ _ _ _ Rd.out af.out Rd.out af.out Rd.out af.out A).mono ?_;rintro e w2 ⟨v0,v1,v2,rfl,u,z,ar,hb⟩;obtain⟨O,b0,rfl,j0,q0⟩:=av u;obtain⟨B1,b1,rfl,j1,q1⟩:=av z;obtain⟨B2,b2,rfl,j2,q2⟩:=av ar;have H:=au.mk hb;clear A u z ar hb)
  |(go_at_call 28;replace h:=bI h;obtain⟨t,A,h⟩:=h;(try dsimp only at h);refine(dV.c _ _ _ _ _ _ _ _ _ _ _ _ _ _ _ Rd.out af.out Rd.out af.out Rd.out af.out A).mono ?_;rintro e w2 ⟨rfl,hb⟩;have H:=au.mk hb;clear A hb)
  |(go_at_call 99;replace h:=bI h;obtain⟨⟨t1,t2,t3,t4⟩,A,h⟩:=h;(try dsimp only at h);refine(eK.c _ _ _ _ _ _ _ _ _ _ _ _ _ Rd.out af.out Rd.out af.out A).mono ?_;rintro e w2 ⟨v0,v1,rfl,u,z,hb⟩;obtain⟨O,b0,rfl,j0,q0⟩:=av u;obtain⟨B1,b1,rfl,j1,q1⟩:=av z;have H:=au.mk hb;clear A u z hb)
  |(go_at_call 100;replace h:=bI h;obtain⟨t,A,h⟩:=h;(try dsimp only at h);refine(dc.c _ _ _ _ _ _ _ _ _ _ Rd.out af.out Rd.out af.out A).mono ?_;rintro e w2 ⟨v0,rfl,u,hb⟩;obtain⟨O,b0,rfl,j0,q0⟩:=av u;have H:=au.mk hb;clear A u hb)
  |(go_at_call 101;replace h:=bI h;obtain⟨⟨t1,t2,t3,t4⟩,A,h⟩:=h;(try dsimp only at h);refine(eB.c _ _ _ _ _ _ _ _ _ _ _ _ _ Rd.out af.out Rd.out af.out A).mono ?_;rintro e w2 ⟨v0,v1,rfl,u,z,hb⟩;obtain⟨O,b0,rfl,j0,q0⟩:=av u;obtain⟨B1,b1,rfl,j1,q1⟩:=av z;have H:=au.mk hb;clear A u z hb));(repeat' first|((with_reducible replace h:=bC h);rcases h with ⟨hc,h⟩|⟨hc,h⟩<;>first|exact(bo h).elim|exact absurd hc (by decide)|subst hc|(replace hc:=aM hc;subst hc)|(have hd:=bw hc;have he:=bz hc;clear hc)|(have hd:=bA hc;have he:=bB hc)|(have hd:=ax hc)|(have hd:=ah hc)|skip));all_goals(try have hn:decide (0<t.length)=true:=ah (by omega));all_goals(try have hn:decide (0<t.length)=false:=ax (by omega)))
 all_goals simp only[Option.some.injEq,Prod.mk.injEq]at h
 all_goals obtain⟨rfl,rfl,rfl,rfl,rfl,rfl,rfl⟩:=h
 all_goals refine bodyPost_ret (dW rfl _ _ _ _ _ (0,0) _ rfl aJ.out Tryz.underlying30 rfl (by kernel_rfl)) rfl ?_
 all_goals exact⟨_,_,_,rfl,(by first|exact a8|exact Kd.aY _ _ _ _ _),(by first|exact a8|exact Kd.aY _ _ _ _ _),(by first|exact a8|exact Kd.aY _ _ _ _ _),From.out⟩
def mf.f (k:Nat) (I:List (ag)) (F:Int) (J:List Int) (G:Int) (H:Int) (K:List (S64)) (a1:Int):Option ((List (ag))×Int×List Int×Int×Int×(List (S64))×Bool):=(eD.f I F J G H K).bind fun u=>((dV.f k I F J G H K).bind fun O=>(if O=true then((dV.f k u.1 u.2.1 u.2.2.1 a1 (wrap64 (u.2.2.2.2.1+1)) u.2.2.2.2.2).bind fun U=>(if U=true then(some (u.1,u.2.1,u.2.2.1,a1,wrap64 (u.2.2.2.2.1+1),u.2.2.2.2.2,true))else((eD.f I F J G H K).bind fun z=>(some (z.1,z.2.1,z.2.2.1,z.2.2.2.1,z.2.2.2.2.1,z.2.2.2.2.2,false)))))else((eD.f I F J G H K).bind fun D=>(some (D.1,D.2.1,D.2.2.1,D.2.2.2.1,D.2.2.2.2.1,D.2.2.2.2.2,false)))))
theorem mf.c (k:Nat) (F:Option Addr) (O:Nat) (u:List (ag)) (I:Int) (G:Option Addr) (U:Nat) (z:List Int) (J:Int) (K:Int) (H:Option Addr) (V:Nat) (D:List (S64)) (a1:Int) (r1:List (ag)) (r2:Int) (r3:List Int) (aD:Int) (aE:Int) (aF:List (S64)) (aG:Bool) (w:World) (ap:Kd.C aN w F u.length u) (X:u.length≤O) (aq:Kd.C (Kd.int .i64) w G z.length z) (ad:z.length≤U) (ar:Kd.C aK w H D.length D) (ak:D.length≤V) (h:mf.f k u I z J K D a1=some (r1,r2,r3,aD,aE,aF,aG)):
  Calls Tryz.prog 62 #[.agg #[.slice F u.length O,.int .i64 I,.slice G z.length U,.int .i64 J,.int .i64 K,.slice H D.length V],.int .i64 a1] w fun e w'=>∃aH aI aL:Value,e= .returned (.tuple #[.agg #[aH,.int .i64 r2,aI,.int .i64 aD,.int .i64 aE,aL],.bool aG])∧Kd.R aN 110 w' w.heap.size (fun _=>True) aH r1∧Kd.R (Kd.int .i64) 3 w' w.heap.size (fun _=>True) aI r3∧Kd.R aK 64 w' w.heap.size (fun _=>True) aL aF∧Below w.heap.size w w':=by
 replace ap:=a6.mk ap;replace X:=af.mk X;replace aq:=a6.mk aq;replace ad:=af.mk ad;replace ar:=a6.mk ar;replace ak:=af.mk ak;unfold mf.f at h;have aQ:=Tryz.underlying30
 all_goals go_enter Tryz.func62,Tryz.ntmps62
 all_goals go_wp2_with ((first
  |((with_reducible refine aC (N:=2) rfl ?_);refine bV #[.slice F u.length O,.int .i64 I,.slice G z.length U,.int .i64 J,.int .i64 K,.slice H D.length V] 30 fun g w1 j1 j2 aB=> ?_)
  |((with_reducible refine aC (N:=4) rfl ?_);refine bV #[.slice none 0 0,.int .i64 0,.slice none 0 0,.int .i64 0,.int .i64 0,.slice none 0 0] 30 fun g w1 j1 j2 aB=> ?_)
  |((with_reducible refine aC (N:=6) rfl ?_);refine bV #[.slice none 0 0,.int .i64 0,.slice none 0 0,.int .i64 0,.int .i64 0,.slice none 0 0] 30 fun g w1 j1 j2 aB=> ?_)
  |(go_at_call 27;replace h:=bI h;obtain⟨⟨t1,t2,t3,t4,t5,t6⟩,A,h⟩:=h;(try dsimp only at h);refine(eD.c _ _ _ _ _ _ _ _ _ _ _ _ _ _ _ _ _ _ _ Rd.out af.out Rd.out af.out Rd.out af.out A).mono ?_;rintro e w2 ⟨v0,v1,v2,rfl,al,am,ao,hb⟩;obtain⟨aP,b0,rfl,j0,q0⟩:=av al;obtain⟨B1,b1,rfl,j1,q1⟩:=av am;obtain⟨B2,b2,rfl,j2,q2⟩:=av ao;have aO:=au.mk hb;clear A al am ao hb)
  |(go_at_call 28;replace h:=bI h;obtain⟨t,A,h⟩:=h;(try dsimp only at h);refine(dV.c _ _ _ _ _ _ _ _ _ _ _ _ _ _ _ Rd.out af.out Rd.out af.out Rd.out af.out A).mono ?_;rintro e w2 ⟨rfl,hb⟩;have aO:=au.mk hb;clear A hb));(repeat' first|((with_reducible replace h:=bC h);rcases h with ⟨hc,h⟩|⟨hc,h⟩<;>first|exact(bo h).elim|exact absurd hc (by decide)|subst hc|(replace hc:=aM hc;subst hc)|(have hd:=bw hc;have he:=bz hc;clear hc)|(have hd:=bA hc;have he:=bB hc)|(have hd:=ax hc)|(have hd:=ah hc)|skip)))
 all_goals simp only[Option.some.injEq,Prod.mk.injEq]at h
 all_goals obtain⟨rfl,rfl,rfl,rfl,rfl,rfl,rfl⟩:=h
 all_goals refine bodyPost_ret (dW rfl _ _ _ _ _ (0,0) _ rfl aJ.out Tryz.underlying30 rfl (by kernel_rfl)) rfl ?_
 all_goals exact⟨_,_,_,rfl,(by first|exact a8|exact Kd.aY _ _ _ _ _),(by first|exact a8|exact Kd.aY _ _ _ _ _),(by first|exact a8|exact Kd.aY _ _ _ _ _),From.out⟩
def l_.f (k:Nat) (I:List (ag)) (F:Int) (J:List Int) (G:Int) (z:Int) (D:List (S64)) (K:Int) (O:Int) (a2:Int):Option ((List (ag))×Int×List Int×Int×Int×(List (S64))×Bool):=(eD.f I F J G z D).bind fun u=>((dV.f k I F J G z D).bind fun U=>(if U=true then((fP.f k D K O a2 z).bind fun H=>(if H.2=true then(some (u.1,u.2.1,u.2.2.1,u.2.2.2.1,u.2.2.2.2.1,H.1,true))else(some (u.1,u.2.1,u.2.2.1,u.2.2.2.1,u.2.2.2.2.1,u.2.2.2.2.2,false))))else(some (u.1,u.2.1,u.2.2.1,u.2.2.2.1,u.2.2.2.2.1,u.2.2.2.2.2,false))))
theorem l_.c (k:Nat) (G:Option Addr) (X:Nat) (u:List (ag)) (J:Int) (H:Option Addr) (ad:Nat) (z:List Int) (K:Int) (O:Int) (I:Option Addr) (ak:Nat) (D:List (S64)) (U:Int) (V:Int) (a2:Int) (r1:List (ag)) (r2:Int) (r3:List Int) (aG:Int) (aH:Int) (aI:List (S64)) (aL:Bool) (w:World) (aB:Kd.C aN w G u.length u) (am:u.length≤X) (aD:Kd.C (Kd.int .i64) w H z.length z) (ao:z.length≤ad) (aE:Kd.C aK w I D.length D) (ap:D.length≤ak) (h:l_.f k u J z K O D U V a2=some (r1,r2,r3,aG,aH,aI,aL)):
  Calls Tryz.prog 63 #[.agg #[.slice G u.length X,.int .i64 J,.slice H z.length ad,.int .i64 K,.int .i64 O,.slice I D.length ak],.agg #[.int .i64 U,.int .i64 V],.int .i64 a2] w fun e w'=>∃aO aP aQ:Value,e= .returned (.tuple #[.agg #[aO,.int .i64 r2,aP,.int .i64 aG,.int .i64 aH,aQ],.bool aL])∧Kd.R aN 110 w' w.heap.size (fun _=>True) aO r1∧Kd.R (Kd.int .i64) 3 w' w.heap.size (fun _=>True) aP r3∧Kd.R aK 64 w' w.heap.size (fun _=>True) aQ aI∧Below w.heap.size w w':=by
 replace aB:=a6.mk aB;replace am:=af.mk am;replace aD:=a6.mk aD;replace ao:=af.mk ao;replace aE:=a6.mk aE;replace ap:=af.mk ap;unfold l_.f at h;have aS:=Tryz.underlying30;have aT:=Tryz.underlying62
 all_goals go_enter Tryz.func63,Tryz.ntmps63
 all_goals go_wp2_with ((first
  |((with_reducible refine aC (N:=3) rfl ?_);refine bV #[.slice G u.length X,.int .i64 J,.slice H z.length ad,.int .i64 K,.int .i64 O,.slice I D.length ak] 30 fun g w1 j1 j2 al=> ?_)
  |((with_reducible refine aC (N:=4) rfl ?_);refine bV #[.int .i64 U,.int .i64 V] 62 fun g w1 j1 j2 al=> ?_)
  |((with_reducible refine aC (N:=6) rfl ?_);refine bV #[.slice none 0 0,.int .i64 0,.slice none 0 0,.int .i64 0,.int .i64 0,.slice none 0 0] 30 fun g w1 j1 j2 al=> ?_)
  |((with_reducible refine aC (N:=8) rfl ?_);refine bV #[.slice none 0 0,.int .i64 0,.slice none 0 0,.int .i64 0,.int .i64 0,.slice none 0 0] 30 fun g w1 j1 j2 al=> ?_)
  |(go_at_call 27;replace h:=bI h;obtain⟨⟨t1,t2,t3,t4,t5,t6⟩,A,h⟩:=h;(try dsimp only at h);refine(eD.c _ _ _ _ _ _ _ _ _ _ _ _ _ _ _ _ _ _ _ Rd.out af.out Rd.out af.out Rd.out af.out A).mono ?_;rintro e w2 ⟨v0,v1,v2,rfl,F,aq,ar,hb⟩;obtain⟨aR,b0,rfl,j0,q0⟩:=av F;obtain⟨B1,b1,rfl,j1,q1⟩:=av aq;obtain⟨B2,b2,rfl,j2,q2⟩:=av ar;have aF:=au.mk hb;clear A F aq ar hb)
  |(go_at_call 28;replace h:=bI h;obtain⟨t,A,h⟩:=h;(try dsimp only at h);refine(dV.c _ _ _ _ _ _ _ _ _ _ _ _ _ _ _ Rd.out af.out Rd.out af.out Rd.out af.out A).mono ?_;rintro e w2 ⟨rfl,hb⟩;have aF:=au.mk hb;clear A hb)
  |(go_at_call 102;replace h:=bI h;obtain⟨⟨t1,t2⟩,A,h⟩:=h;(try dsimp only at h);refine(fP.c _ _ _ _ _ _ _ _ _ _ _ Rd.out af.out A).mono ?_;rintro e w2 ⟨v0,rfl,F,hb⟩;obtain⟨aR,b0,rfl,j0,q0⟩:=av F;have aF:=au.mk hb;clear A F hb));(repeat' first|((with_reducible replace h:=bC h);rcases h with ⟨hc,h⟩|⟨hc,h⟩<;>first|exact(bo h).elim|exact absurd hc (by decide)|subst hc|(replace hc:=aM hc;subst hc)|(have hd:=bw hc;have he:=bz hc;clear hc)|(have hd:=bA hc;have he:=bB hc)|(have hd:=ax hc)|(have hd:=ah hc)|skip)))
 all_goals simp only[Option.some.injEq,Prod.mk.injEq]at h
 all_goals obtain⟨rfl,rfl,rfl,rfl,rfl,rfl,rfl⟩:=h
 all_goals refine bodyPost_ret (dW rfl _ _ _ _ _ (0,0) _ rfl aJ.out Tryz.underlying30 rfl (by kernel_rfl)) rfl ?_
 all_goals exact⟨_,_,_,rfl,(by first|exact a8|exact Kd.aY _ _ _ _ _),(by first|exact a8|exact Kd.aY _ _ _ _ _),(by first|exact a8|exact Kd.aY _ _ _ _ _),From.out⟩
def ma.f (k:Nat) (F:List (ag)) (D:Int) (G:List Int) (H:Int) (I:Int) (J:List (S64)) (a1:Int) (a2:Int):Option ((List (ag))×Int×List Int×Int×Int×(List (S64))×Bool):=(eD.f F D G H I J).bind fun u=>((dV.f k F D G H I J).bind fun K=>(if K=true then((en.f k F D G a1 a2).bind fun z=>(some (z.1,z.2.1,z.2.2.1,u.2.2.2.1,u.2.2.2.2.1,u.2.2.2.2.2,z.2.2.2)))else(some (u.1,u.2.1,u.2.2.1,u.2.2.2.1,u.2.2.2.2.1,u.2.2.2.2.2,false))))
theorem ma.c (k:Nat) (H:Option Addr) (V:Nat) (u:List (ag)) (K:Int) (I:Option Addr) (X:Nat) (z:List Int) (O:Int) (U:Int) (J:Option Addr) (ad:Nat) (D:List (S64)) (a1:Int) (a2:Int) (r1:List (ag)) (r2:Int) (r3:List Int) (aE:Int) (aF:Int) (aG:List (S64)) (aH:Bool) (w:World) (aq:Kd.C aN w H u.length u) (al:u.length≤V) (ar:Kd.C (Kd.int .i64) w I z.length z) (am:z.length≤X) (aB:Kd.C aK w J D.length D) (ao:D.length≤ad) (h:ma.f k u K z O U D a1 a2=some (r1,r2,r3,aE,aF,aG,aH)):
  Calls Tryz.prog 64 #[.agg #[.slice H u.length V,.int .i64 K,.slice I z.length X,.int .i64 O,.int .i64 U,.slice J D.length ad],.int .i64 a1,.int .i64 a2] w fun e w'=>∃aI aL aO:Value,e= .returned (.tuple #[.agg #[aI,.int .i64 r2,aL,.int .i64 aE,.int .i64 aF,aO],.bool aH])∧Kd.R aN 110 w' w.heap.size (fun _=>True) aI r1∧Kd.R (Kd.int .i64) 3 w' w.heap.size (fun _=>True) aL r3∧Kd.R aK 64 w' w.heap.size (fun _=>True) aO aG∧Below w.heap.size w w':=by
 replace aq:=a6.mk aq;replace al:=af.mk al;replace ar:=a6.mk ar;replace am:=af.mk am;replace aB:=a6.mk aB;replace ao:=af.mk ao;unfold ma.f at h;have aQ:=Tryz.underlying27;have aR:=Tryz.underlying30
 all_goals go_enter Tryz.func64,Tryz.ntmps64
 all_goals go_wp2_with ((first
  |((with_reducible refine aC (N:=3) rfl ?_);refine bV #[.slice H u.length V,.int .i64 K,.slice I z.length X,.int .i64 O,.int .i64 U,.slice J D.length ad] 30 fun g w1 j1 j2 ak=> ?_)
  |((with_reducible refine aC (N:=6) rfl ?_);refine bV #[.slice none 0 0,.int .i64 0,.slice none 0 0,.int .i64 0,.int .i64 0,.slice none 0 0] 30 fun g w1 j1 j2 ak=> ?_)
  |((with_reducible refine aC (N:=8) rfl ?_);refine bV #[.slice none 0 0,.int .i64 0,.slice none 0 0,.int .i64 0,.int .i64 0,.slice none 0 0] 30 fun g w1 j1 j2 ak=> ?_)
  |((with_reducible refine aC (N:=9) rfl ?_);refine bV #[.slice none 0 0,.int .i64 0,.slice none 0 0] 27 fun g w1 j1 j2 ak=> ?_)
  |(go_at_call 27;replace h:=bI h;obtain⟨⟨t1,t2,t3,t4,t5,t6⟩,A,h⟩:=h;(try dsimp only at h);refine(eD.c _ _ _ _ _ _ _ _ _ _ _ _ _ _ _ _ _ _ _ Rd.out af.out Rd.out af.out Rd.out af.out A).mono ?_;rintro e w2 ⟨v0,v1,v2,rfl,F,G,ap,hb⟩;obtain⟨aP,b0,rfl,j0,q0⟩:=av F;obtain⟨B1,b1,rfl,j1,q1⟩:=av G;obtain⟨B2,b2,rfl,j2,q2⟩:=av ap;have aD:=au.mk hb;clear A F G ap hb)
  |(go_at_call 28;replace h:=bI h;obtain⟨t,A,h⟩:=h;(try dsimp only at h);refine(dV.c _ _ _ _ _ _ _ _ _ _ _ _ _ _ _ Rd.out af.out Rd.out af.out Rd.out af.out A).mono ?_;rintro e w2 ⟨rfl,hb⟩;have aD:=au.mk hb;clear A hb)
  |(go_at_call 103;replace h:=bI h;obtain⟨⟨t1,t2,t3,t4⟩,A,h⟩:=h;(try dsimp only at h);refine(en.c _ _ _ _ _ _ _ _ _ _ _ _ _ _ _ Rd.out af.out Rd.out af.out A).mono ?_;rintro e w2 ⟨v0,v1,rfl,F,G,hb⟩;obtain⟨aP,b0,rfl,j0,q0⟩:=av F;obtain⟨B1,b1,rfl,j1,q1⟩:=av G;have aD:=au.mk hb;clear A F G hb));(repeat' first|((with_reducible replace h:=bC h);rcases h with ⟨hc,h⟩|⟨hc,h⟩<;>first|exact(bo h).elim|exact absurd hc (by decide)|subst hc|(replace hc:=aM hc;subst hc)|(have hd:=bw hc;have he:=bz hc;clear hc)|(have hd:=bA hc;have he:=bB hc)|(have hd:=ax hc)|(have hd:=ah hc)|skip)))
 all_goals simp only[Option.some.injEq,Prod.mk.injEq]at h
 all_goals obtain⟨rfl,rfl,rfl,rfl,rfl,rfl,rfl⟩:=h
 all_goals refine bodyPost_ret (dW rfl _ _ _ _ _ (0,0) _ rfl aJ.out Tryz.underlying30 rfl (by kernel_rfl)) rfl ?_
 all_goals exact⟨_,_,_,rfl,(by first|exact a8|exact Kd.aY _ _ _ _ _),(by first|exact a8|exact Kd.aY _ _ _ _ _),(by first|exact a8|exact Kd.aY _ _ _ _ _),From.out⟩
end P
namespace P
set_option maxHeartbeats 8000000
set_option maxRecDepth 100000
open Go.RowKit WW.bc WW.bY WW.bZ
attribute [local go_sem] cP cT cS cW cR cV cQ cU
def gV.f (k:Nat) (z:List (ag)) (u:Int) (D:List Int) (F:Int) (G:Int) (H:List (S64)):Option (Int):=(dV.f k z u D F G H).bind fun I=>(if I=true then((dc.f k z u D).bind fun J=>(some (wrap64 ((wrap64 ((z.length:Int)-u))+(J.length:Int)))))else(some 0))
def gV.T3:Bool×List (List Nat×List Nat):=(true,[([],[]),([0],[0]),([1],[1]),([2],[2]),([],[]),([4],[4]),([5],[5]),([3,6],[3,6]),([],[]),([8],[8]),([9],[9]),([10],[10]),([7,11],[7,11]),([12,10,0,1,2,3,4,5,6,7,8,9,10,11,12],[12])])
def gV.B3:List Nat:=[0,1,3,7,0,16,48,127,0,256,768,1792,4095,8191]
theorem gV.jR:aW .any (opsOf Tryz.f66 3)=gV.T3:=by kernel_rfl
theorem gV.jH:bL gV.T3.2 gV.B3=true:=by kernel_rfl
theorem gV.c (k:Nat) (af:Option Addr) (al:Nat) (D:List (ag)) (O:Int) (ak:Option Addr) (am:Nat) (I:List Int) (X:Int) (ad:Int) (ap:Option Addr) (aq:Nat) (U:List (S64)) (r:Int) (w:World) (a1:Kd.C aN w af D.length D) (aS:D.length≤al) (a2:Kd.C (Kd.int .i64) w ak I.length I) (aW:I.length≤am) (a3:Kd.C aK w ap U.length U) (aY:U.length≤aq) (h:gV.f k D O I X ad U=some r):
  Calls Tryz.prog 66 #[.agg #[.slice af D.length al,.int .i64 O,.slice ak I.length am,.int .i64 X,.int .i64 ad,.slice ap U.length aq]] w fun e w'=>e= .returned (.int .i64 r)∧Below w.heap.size w w':=by
 have bL:=Tryz.underlying30;have bK:=Tryz.underlying27;have aE:=A_ a1;have av:=A_ aS;clear a1 aS;have aF:=A_ a2;have aB:=A_ aW;clear a2 aW;have aO:=A_ a3;have aM:=A_ aY;clear a3 aY;have z:=A_ (Below.refl w.heap.size w);have H:((dV.f k D O I X ad U).bind fun aH=>(if aH=true then((dc.f k D O I).bind fun aI=>(some (wrap64 ((wrap64 ((D.length:Int)-O))+(aI.length:Int)))))else(some 0)))=some r:=h;clear h;replace H:=ay H;obtain⟨aH,aJ,H⟩:=H
 (try dsimp only at H)
 have A2:=A_ aJ;clear aJ;by_cases c3:aH=true
 ·subst c3;rw[ai rfl]at H;replace H:=ay H;obtain⟨aI,aL,H⟩:=H
  (try dsimp only at H)
  have a4:=A_ aL;clear aL;obtain rfl:=aA H;go_enter Tryz.func66,Tryz.ntmps66
  try go_wp2_with (first|((with_reducible refine aC (N:=1) rfl ?_);refine bX (N:=1) (cs:= #[.slice af D.length al,.int .i64 O,.slice ak I.length am,.int .i64 X,.int .i64 ad,.slice ap U.length aq]) (t:=30) ?_;intro V hg bQ ar hb;have F:=A_ (aV (oB z) hb);have G:=A_ (ar);have ao:=A_ ((by rw[hg];exact(aZ (oB z)):w.heap.size≤V));have au:=A_ ((by rw[hg];exact(aZ (oB z)):w.heap.size≤V));clear z;have z:=F;have u:=G;have a6:=ao;have a5:=au;clear F G ao au hb ar hg;have bo:=cz u 0;have bq:=cz u 1;have br:=cz u 2;have bs:=cz u 3;have bt:=cz u 4;have bu:=cz u 5;have bC:=aD u.out 0;have bD:=aD u.out 1;have bE:=aD u.out 2;have bG:=aD u.out 3;have bH:=aD u.out 4;have bI:=aD u.out 5)|((with_reducible refine bp (f:=28) rfl ?_);refine gL (some 4) Tryz.func28 #[.agg #[.slice af D.length al,.int .i64 O,.slice ak I.length am,.int .i64 X,.int .i64 ad,.slice ap U.length aq]] ?_;(with_reducible refine(dV.c k _ _ D O _ _ I X ad _ _ U true _ ?aT ?aU ?dH ?dO ?gj ?ib A2.out).mono ?_);(case aT=>exact bF aE.out);(case aU=>exact av.out);(case dH=>exact bF aF.out);(case dO=>exact aB.out);(case gj=>exact bF aO.out);(case ib=>exact aM.out);rintro e w7 ⟨rfl,hb⟩;refine⟨_,rfl,?_⟩;have F:=A_ (bb u hb);have G:=A_ (aV (oB z) hb);clear u z;have u:=F;have z:=G;clear F G;(try clear hb);(try clear hb2);(try clear hk);(try clear hi)))
  have F:=A_ (bn u.out);have G:=A_ (cv z.out);clear u z;have u:=F;have z:=G;clear F G;refine fX (n:=14) (S:=fun w'=>w'.cell? ⟨V,0,none⟩=some (.slice af D.length al)∧w'.cell? ⟨V,1,none⟩=some (.int .i64 O)∧w'.cell? ⟨V,2,none⟩=some (.slice ak I.length am)∧w'.cell? ⟨V,3,none⟩=some (.int .i64 X)∧w'.cell? ⟨V,4,none⟩=some (.int .i64 ad)∧w'.cell? ⟨V,5,none⟩=some (.slice ap U.length aq)) (ds:=[]) #[false,false,false,false,false,false,false,false,false,false,false,false,false,false] (by kernel_rfl) rfl rfl ⟨cz u 0,cz u 1,cz u 2,cz u 3,cz u 4,cz u 5⟩ (fun hHeld=> ?_);refine gQ gV.jR gV.jH (fun J aG=> ?_);generalize w7.drew=bR at u z hHeld ⊢;refine pA 0 (some 6) J.out ?_;refine pA 1 (some 7) J.out ?_;refine pA 4 (some 10) J.out ?_;refine pA 5 (some 11) J.out ?_;refine pA 8 (some 14) J.out ?_;refine pT 2 (some 8) J.out aG.out hHeld ?_;refine pA 3 (some 9) J.out ?_;refine pT 6 (some 12) J.out aG.out hHeld ?_;refine pA 7 (some 13) J.out ?_;refine pT 9 (some 15) J.out aG.out hHeld ?_;refine dN (i:=10) (N:=some 16) #[true,true,true,true,true,true,true,true,true,true,true,false,false,false] rfl rfl (dF J.out (by kernel_rfl)) (by decide) (fun K hK=> ?_);refine cG Tryz.func100 (by kernel_rfl) rfl #[.agg #[.slice af D.length al,.int .i64 O,.slice ak I.length am]] (by rfl) rfl rfl (by(try simp only[List.map_toArray,List.map_cons,List.map_nil]);first|done|rfl|(simp only[List.length_drop,List.length_take];rfl)) ?_
  with_reducible refine(dc.c k _ _ D O _ _ I aI _ ?aT ?aU ?dH ?dO a4.out).mono ?_
  (case aT=>exact bF aE.out)
  (case aU=>exact av.out)
  (case dH=>exact bF aF.out)
  (case dO=>exact aB.out)
  rintro e bS ⟨bN,rfl,a0,hb⟩;refine⟨_,rfl,?_⟩;have F:=A_ (Kd.cD a0 (aZ (oB z)));have G:=A_ (bb u hb);have ao:=A_ (aV (oB z) hb);clear u z;have a7:=F;have u:=G;have z:=ao;clear F G ao
  (try clear hb)
  (try clear hb2)
  (try clear hk)
  (try clear hi)
  (try clear a0)
  obtain⟨bd,be,aP⟩:=Kd.cJ a7.out
  (first|subst aP|(injection aP with aQ a9 aR;have a_:=aQ.symm;have bc:=aR.symm;clear aQ a9 aR;subst a_;subst bc))
  refine hK.out _ _ ⟨cz u 0,cz u 1,cz u 2,cz u 3,cz u 4,cz u 5⟩ (fun hHeld=> ?_);clear hK K;refine dS (a':= ?_) ?_ ?_;rotate_left
  ·show Act.put _ (some 16) _=_;simp only[Act.put,List.setIfInBounds_toArray,List.set_cons_zero,List.set_cons_succ,bJ,cu];rfl
  refine pA 11 (some 17) J.out ?_;refine pA 12 (some 18) J.out ?_;refine pA 13 (some 2) J.out ?_;refine fH (gb J.out (by kernel_rfl)) ?_
  try go_wp2
  go_ret;exact⟨eR,oB z⟩
 ·replace c3:=Bool.eq_false_iff.mpr c3;subst c3;rw[aj (show¬(false=true)by decide)]at H;obtain rfl:=aA H;go_enter Tryz.func66,Tryz.ntmps66
  go_wp2_with (first|((with_reducible refine aC (N:=1) rfl ?_);refine bX (N:=1) (cs:= #[.slice af D.length al,.int .i64 O,.slice ak I.length am,.int .i64 X,.int .i64 ad,.slice ap U.length aq]) (t:=30) ?_;intro V hg bO ar hb;have F:=A_ (aV (oB z) hb);have G:=A_ (ar);have ao:=A_ ((by rw[hg];exact(aZ (oB z)):w.heap.size≤V));have au:=A_ ((by rw[hg];exact(aZ (oB z)):w.heap.size≤V));clear z;have z:=F;have u:=G;have a6:=ao;have a5:=au;clear F G ao au hb ar hg;have bf:=cz u 0;have bg:=cz u 1;have bj:=cz u 2;have bk:=cz u 3;have bl:=cz u 4;have bm:=cz u 5;have bv:=aD u.out 0;have bw:=aD u.out 1;have bx:=aD u.out 2;have bz:=aD u.out 3;have bA:=aD u.out 4;have bB:=aD u.out 5)|((with_reducible refine bp (f:=28) rfl ?_);refine gL (some 4) Tryz.func28 #[.agg #[.slice af D.length al,.int .i64 O,.slice ak I.length am,.int .i64 X,.int .i64 ad,.slice ap U.length aq]] ?_;(with_reducible refine(dV.c k _ _ D O _ _ I X ad _ _ U false _ ?aT ?aU ?dH ?dO ?gj ?ib A2.out).mono ?_);(case aT=>exact bF aE.out);(case aU=>exact av.out);(case dH=>exact bF aF.out);(case dO=>exact aB.out);(case gj=>exact bF aO.out);(case ib=>exact aM.out);rintro e bP ⟨rfl,hb⟩;refine⟨_,rfl,?_⟩;have F:=A_ (bb u hb);have G:=A_ (aV (oB z) hb);clear u z;have u:=F;have z:=G;clear F G;(try clear hb);(try clear hb2);(try clear hk);(try clear hi)))
  go_ret;exact⟨eR,oB z⟩
end P
namespace P
set_option maxHeartbeats 8000000
set_option maxRecDepth 100000
set_option synthInstance.maxHeartbeats 400000
set_option synthInstance.maxSize 100000
open Go.RowKit WW.bc WW.bY WW.bZ V
attribute [local go_sem] dB dC gT iV iW jI jJ
attribute [local go_sem] cP cT cS cW cR cV cQ cU
def gH.f (k:Nat) (H:List (ag)) (F:Int) (u:List Int) (z:Int) (G:Int) (D:List (S64)) (a1:Int):Option (Int):=(dV.f k H F u z G D).bind fun I=>(if I=true then((cx.f a1 0 11).bind fun J=>(if J=true then(if 0≤a1 then(if a1<(u.length:Int)then(if(rd u a1)=0 then(some 0)else((l7.f D 0 a1).bind fun K=>(if K=1 then(some 0)else((mZ.f (rd u a1) z).bind fun O=>(some O)))))else(none))else(none))else(some 0)))else(some 0))
noncomputable def gH.T3:Bool×List (List Nat×List Nat):=aW .any (opsOf Tryz.f67 3)
def gH.B3:List Nat:=[0,1,3,0,15,31,0,64,255,511]
theorem gH.jR:aW .any (opsOf Tryz.f67 3)=gH.T3:=rfl
theorem gH.jH:bL gH.T3.2 gH.B3=true:=by kernel_rfl
theorem gH.c (k:Nat) (H:Option Addr) (ad:Nat) (D:List (ag)) (U:Int) (I:Option Addr) (ak:Nat) (F:List Int) (V:Int) (X:Int) (J:Option Addr) (al:Nat) (G:List (S64)) (a1:Int) (r:Int) (w:World) (aq:Kd.C aN w H D.length D) (am:D.length≤ad) (ar:Kd.C (Kd.int .i64) w I F.length F) (ao:F.length≤ak) (av:Kd.C aK w J G.length G) (ap:G.length≤al) (h:gH.f k D U F V X G a1=some r):
  Calls Tryz.prog 67 #[.agg #[.slice H D.length ad,.int .i64 U,.slice I F.length ak,.int .i64 V,.int .i64 X,.slice J G.length al],.int .i64 a1] w fun e w'=>e= .returned (.int .i64 r)∧Below w.heap.size w w':=by
 replace aq:=a6.mk aq;replace am:=af.mk am;replace ar:=a6.mk ar;replace ao:=af.mk ao;replace av:=a6.mk av;replace ap:=af.mk ap;unfold gH.f at h;have aG:=Tryz.underlying30;have aH:=Tryz.underlying62
 all_goals go_enter Tryz.func67,Tryz.ntmps67
 all_goals go_wp2_with ((first
  |((with_reducible refine aC (N:=2) rfl ?_);refine bV #[.slice H D.length ad,.int .i64 U,.slice I F.length ak,.int .i64 V,.int .i64 X,.slice J G.length al] 30 fun g w1 j1 j2 aJ=> ?_)
  |(go_at_call 28;(try rw[z.out]);replace h:=bI h;obtain⟨t,A,h⟩:=h;(try dsimp only at h);refine(dV.c _ _ _ _ _ _ _ _ _ _ _ _ _ _ _ Rd.out af.out Rd.out af.out Rd.out af.out A).mono ?_;rintro e w2 ⟨rfl,hb⟩;have aF:=au.mk hb;clear A hb)
  |(go_at_call 58;(try rw[z.out]);replace h:=bI h;obtain⟨t,A,h⟩:=h;(try dsimp only at h);refine(cx.c _ _ _ _ _ A).mono ?_;rintro e w2 ⟨rfl,n,rfl⟩;clear A)
  |(go_at_call 105;(try rw[z.out]);replace h:=bI h;obtain⟨t,A,h⟩:=h;(try dsimp only at h);refine(l7.c _ _ _ _ _ _ _ Rd.out af.out A).mono ?_;rintro e w2 ⟨rfl,hb⟩;have aF:=au.mk hb;clear A hb)
  |(refine qR (id:=3) (ds:=[]) (l:= #[false,false,false,false,false,false,false,false,false,false]) gH.jR gH.jH ?_;intro u O w3 aL u0 aI hHeld;replace h:=bI h;obtain⟨aO,aB,h⟩:=h;(try dsimp only at h);refine qA 0 (some 30) u ?_;refine qA 1 (some 31) u ?_;refine qT 2 (some 32) u O hHeld ?_;refine qA 3 (some 33) u ?_;refine qA 4 (some 34) u ?_;refine qT 5 (some 35) u O hHeld ?_;refine qA 6 (some 36) u ?_;refine qT 7 (some 37) u O hHeld ?_;refine gK 8 (some 38) u fun K hK=> ?_;refine cG Tryz.func106 (by kernel_rfl) rfl _ (by rfl) rfl rfl (by(try simp only[List.map_toArray,List.map_cons,List.map_nil]);rfl) ?_;refine(mZ.c _ _ _ _ aB).mono ?_;rintro e u8 ⟨rfl,n,rfl⟩;refine⟨_,rfl,hK.out _ _ From.out fun hHeld=> ?_⟩;clear hK K;refine qN ?_;refine qA 9 (some 4) u ?_;refine qD u ?_;all_goals((try simp only[az]at h);(repeat' first|((with_reducible replace h:=bC h);rcases h with ⟨hc,h⟩|⟨hc,h⟩<;>first|exact(bo h).elim|exact absurd hc (by decide)|subst hc|(replace hc:=aM hc;subst hc)|(replace hc:=bR hc;subst hc)|(replace hc:=bS hc;subst hc)|(have hd:(_==_)=true:=hc)|(have hd:(_==_)=false:=aM hc)|(have hd:=bw hc;have he:=bz hc;clear hc)|(have hd:=bA hc;have he:=bB hc)|(have hd:=ax hc)|(have hd:=ah hc;(try(have hn:=Int.natCast_pos.mp hc;have hm:=ah hn;replace hn:=aw hn));first|(obtain⟨aE,e_,i_⟩:=bQ (by assumption) (by first|assumption|decide) hc;cases e_)|(obtain⟨aD,e_,c_⟩:=bO (by assumption) (by first|assumption|decide) hc;cases e_))|(have hd:=ah hc)|skip)|((with_reducible replace h:=bP h);obtain⟨z,h⟩:=h;replace z:=A_ z;(try dsimp only at h))))));(repeat' first|((with_reducible replace h:=bC h);rcases h with ⟨hc,h⟩|⟨hc,h⟩<;>first|exact(bo h).elim|exact absurd hc (by decide)|subst hc|(replace hc:=aM hc;subst hc)|(replace hc:=bR hc;subst hc)|(replace hc:=bS hc;subst hc)|(have hd:(_==_)=true:=hc)|(have hd:(_==_)=false:=aM hc)|(have hd:=bw hc;have he:=bz hc;clear hc)|(have hd:=bA hc;have he:=bB hc)|(have hd:=ax hc)|(have hd:=ah hc;(try(have hn:=Int.natCast_pos.mp hc;have hm:=ah hn;replace hn:=aw hn));first|(obtain⟨aE,e_,i_⟩:=bQ (by assumption) (by first|assumption|decide) hc;cases e_)|(obtain⟨aD,e_,c_⟩:=bO (by assumption) (by first|assumption|decide) hc;cases e_))|(have hd:=ah hc)|skip)|((with_reducible replace h:=bP h);obtain⟨z,h⟩:=h;replace z:=A_ z;(try dsimp only at h))))
 all_goals obtain rfl:=aA h
 all_goals go_ret
 all_goals exact⟨(by first|rfl|(simp_all;done)),From.out⟩
end P

end Go.Proofs.YtnjfiaekdcekgaaGreatDoor
