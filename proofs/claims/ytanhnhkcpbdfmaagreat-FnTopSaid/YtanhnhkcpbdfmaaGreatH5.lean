/- What functions of the program come to (f), that their calls come to just this (calls), and the plain laws over lists and numbers, and the law FnTop: for every argument it answers true. No condition but those of the given row. -/
import Derived.Test.YtanhnhkcpbdfmaaGreatRows
import Derived.Test.YtanhnhkcpbdfmaaGreatH4
import Derived.WalkKit
import Derived.ProofKit
import Derived.OpenShut
import Derived.ShutString
import Derived.ChangeOld
import Derived.Below
import Derived.SizedLaws
set_option linter.unusedVariables false
set_option linter.unusedSimpArgs false
namespace Go.Proofs.YtanhnhkcpbdfmaaGreat
namespace P
set_option maxHeartbeats 8000000
set_option maxRecDepth 100000
set_option synthInstance.maxHeartbeats 400000
set_option synthInstance.maxSize 100000
open Go.RowKit WW.bk WW.b_ WW.b6 V
attribute [local go_sem] dC dD gl iD iE iO iP
attribute [local go_sem] cR cV cU cY cT cX cS cW
noncomputable def aN.T7:Bool×List (List Nat×List Nat):=a6 .any (opsOf Tryz.f8 7)
def aN.B7:List Nat:=[0,0,0,6,14,31,63,127,127,0,767,2047]
theorem aN.mm:a6 .any (opsOf Tryz.f8 7)=aN.T7:=rfl
theorem aN.lT:bT aN.T7.2 aN.B7=true:=by kernel_rfl
noncomputable def aN.T8:Bool×List (List Nat×List Nat):=a6 .any (opsOf Tryz.f8 8)
def aN.B8:List Nat:=[0,0,0,6,14,31,63,127,127,0,767,2047]
theorem aN.iw:a6 .any (opsOf Tryz.f8 8)=aN.T8:=rfl
theorem aN.hE:bT aN.T8.2 aN.B8=true:=by kernel_rfl
noncomputable def aN.T9:Bool×List (List Nat×List Nat):=a6 .any (opsOf Tryz.f8 9)
def aN.B9:List Nat:=[0,0,3,7,15,31,63,127,255,511,1023,511,4095,8191,16383]
theorem aN.jQ:a6 .any (opsOf Tryz.f8 9)=aN.T9:=rfl
theorem aN.jo:bT aN.T9.2 aN.B9=true:=by kernel_rfl
noncomputable def aN.jY:Bool×List (List Nat×List Nat):=a6 .any (opsOf Tryz.f8 20)
def aN.mq:List Nat:=[0,1,3,7,15,0,32,96,255,511,1023,1023,2047,8191]
theorem aN.nr:a6 .any (opsOf Tryz.f8 20)=aN.jY:=rfl
theorem aN.mF:bT aN.jY.2 aN.mq=true:=by kernel_rfl
theorem aN.c (k:Nat) (aR:Option Addr) (c0:Nat) (l0:List Int) (r:Bool) (w:World) (bs:Kd.C (Kd.int .u8) w aR l0.length l0) (hc0:l0.length≤c0) (h:aN.f k l0=some r) (bt:ae (r=true)):
  Calls Tryz.prog 8 #[.slice aR l0.length c0] w fun e w'=>e= .returned (.bool r)∧Below w.heap.size w w':=by
 replace bs:=aM.mk bs;replace hc0:=aj.mk hc0;obtain rfl:=bt.out;clear bt;have cY:=bS.mk (d:=aU) (e:=112) (t:=37) (by decide);have cZ:=bS.mk (d:=(Kd.int .i64)) (e:=3) (t:=37) (by decide);have cX:=bS.mk (d:=aT) (e:=104) (t:=37) (by decide);have c1:=bS.mk (d:=gR) (e:=41) (t:=37) (by decide);unfold aN.f at h;have cG:=Tryz.underlying37;have cH:=Tryz.underlying41;have cF:=Tryz.underlying34;have cI:=Tryz.underlying74;go_enter Tryz.func8,Tryz.ntmps8
 all_goals go_wp2_with ((first
        |((with_reducible refine aJ (N:=3) rfl ?_);refine bV #[.slice none 0 0,.int .i64 0,.slice none 0 0,.int .i64 0,.int .i64 0,.slice none 0 0] 37 fun g3 w1 bu bv bw=> ?_)
        |(go_at_call 29;replace h:=bI h;obtain⟨t,A,h⟩:=h;(try dsimp only at h);refine(l6.c _ _ _ _ _ Rd.out aj.out A).mono ?_;rintro e w2 ⟨rfl,n,rfl⟩;clear A;(repeat' first|((with_reducible replace h:=bq h);rcases h with ⟨hc,h⟩|⟨hc,h⟩<;>first|exact(bh h).elim|exact absurd (aC h) (by decide)|exact absurd hc (by decide)|(have hd:(_==(_:Int))=true:=aV hc;have he:(_ != (_:Int))=false:=aW hc;clear hc)|subst hc|(replace hc:=aD hc;subst hc)|(replace hc:=bH hc;subst hc)|(replace hc:=bJ hc;subst hc)|(have hd:(_==_)=true:=hc)|(have hd:(_==_)=false:=aD hc)|(have hd:=aD hc)|(have hd:=aV hc;have he:=aW hc;clear hc)|(have hd:=bo hc;have he:=bp hc)|(have hd:=ay hc)|(have hd:=ag hc;(try(have hn:=Int.natCast_pos.mp hc;have hm:=ag hn;replace hn:=ax hn));first|(have hz:=bE (by assumption) (by first|assumption|decide) hc;obtain⟨H,e_,c_⟩:=hz;cases e_)|(have hz:=bD (aM.out (self:=by assumption)) _ (by first|assumption|decide) hc;obtain⟨H,e_,z,D,F,G⟩:=hz;cases e_;replace z:=ak.mk z;replace D:=ak.mk D;replace F:=ak.mk F;replace G:=ak.mk G)|(have hz:=bD (aM.out (self:=by assumption)) _ hc (by assumption);obtain⟨H,e_,z,D,F,G⟩:=hz;cases e_;replace z:=ak.mk z;replace D:=ak.mk D;replace F:=ak.mk F;replace G:=ak.mk G))|(have hd:=ag hc)|skip)|((with_reducible have hj:aN.r _ _ _ _ _ _ _ _ _=_:=h);clear hj;unfold aN.r at h)|((with_reducible replace h:=bF h);obtain⟨I,h⟩:=h;replace I:=A_ I;(try dsimp only at h))))
        |(go_at_call 30;replace h:=bI h;obtain⟨⟨t1,t2,t3,t4,t5,t6,t7⟩,A,h⟩:=h;(try dsimp only at h);refine(lB.c _ _ _ _ _ _ _ _ _ _ _ _ Rd.out aj.out A).mono ?_;rintro e w2 ⟨v0,v1,v2,v3,rfl,O,U,V,br,hb⟩;obtain⟨ap,b0,rfl,j0,q0⟩:=aH O;obtain⟨B1,b1,rfl,j1,q1⟩:=aH U;obtain⟨B2,b2,rfl,j2,q2⟩:=aH V;obtain⟨B3,b3,rfl,bT,q3⟩:=aH br;have X:=aw.mk hb;clear A O U V br hb;(repeat' first|((with_reducible replace h:=bq h);rcases h with ⟨hc,h⟩|⟨hc,h⟩<;>first|exact(bh h).elim|exact absurd (aC h) (by decide)|exact absurd hc (by decide)|(have hd:(_==(_:Int))=true:=aV hc;have he:(_ != (_:Int))=false:=aW hc;clear hc)|subst hc|(replace hc:=aD hc;subst hc)|(replace hc:=bH hc;subst hc)|(replace hc:=bJ hc;subst hc)|(have hd:(_==_)=true:=hc)|(have hd:(_==_)=false:=aD hc)|(have hd:=aD hc)|(have hd:=aV hc;have he:=aW hc;clear hc)|(have hd:=bo hc;have he:=bp hc)|(have hd:=ay hc)|(have hd:=ag hc;(try(have hn:=Int.natCast_pos.mp hc;have hm:=ag hn;replace hn:=ax hn));first|(have hz:=bE (by assumption) (by first|assumption|decide) hc;obtain⟨H,e_,c_⟩:=hz;cases e_)|(have hz:=bD (aM.out (self:=by assumption)) _ (by first|assumption|decide) hc;obtain⟨H,e_,z,D,F,G⟩:=hz;cases e_;replace z:=ak.mk z;replace D:=ak.mk D;replace F:=ak.mk F;replace G:=ak.mk G)|(have hz:=bD (aM.out (self:=by assumption)) _ hc (by assumption);obtain⟨H,e_,z,D,F,G⟩:=hz;cases e_;replace z:=ak.mk z;replace D:=ak.mk D;replace F:=ak.mk F;replace G:=ak.mk G))|(have hd:=ag hc)|skip)|((with_reducible have hj:aN.r _ _ _ _ _ _ _ _ _=_:=h);clear hj;unfold aN.r at h)|((with_reducible replace h:=bF h);obtain⟨I,h⟩:=h;replace I:=A_ I;(try dsimp only at h)))));(repeat' first|((with_reducible replace h:=bq h);rcases h with ⟨hc,h⟩|⟨hc,h⟩<;>first|exact(bh h).elim|exact absurd (aC h) (by decide)|exact absurd hc (by decide)|(have hd:(_==(_:Int))=true:=aV hc;have he:(_ != (_:Int))=false:=aW hc;clear hc)|subst hc|(replace hc:=aD hc;subst hc)|(replace hc:=bH hc;subst hc)|(replace hc:=bJ hc;subst hc)|(have hd:(_==_)=true:=hc)|(have hd:(_==_)=false:=aD hc)|(have hd:=aD hc)|(have hd:=aV hc;have he:=aW hc;clear hc)|(have hd:=bo hc;have he:=bp hc)|(have hd:=ay hc)|(have hd:=ag hc;(try(have hn:=Int.natCast_pos.mp hc;have hm:=ag hn;replace hn:=ax hn));first|(have hz:=bE (by assumption) (by first|assumption|decide) hc;obtain⟨H,e_,c_⟩:=hz;cases e_)|(have hz:=bD (aM.out (self:=by assumption)) _ (by first|assumption|decide) hc;obtain⟨H,e_,z,D,F,G⟩:=hz;cases e_;replace z:=ak.mk z;replace D:=ak.mk D;replace F:=ak.mk F;replace G:=ak.mk G)|(have hz:=bD (aM.out (self:=by assumption)) _ hc (by assumption);obtain⟨H,e_,z,D,F,G⟩:=hz;cases e_;replace z:=ak.mk z;replace D:=ak.mk D;replace F:=ak.mk F;replace G:=ak.mk G))|(have hd:=ag hc)|skip)|((with_reducible have hj:aN.r _ _ _ _ _ _ _ _ _=_:=h);clear hj;unfold aN.r at h)|((with_reducible replace h:=bF h);obtain⟨I,h⟩:=h;replace I:=A_ I;(try dsimp only at h))))
 all_goals first
  |(go_ret;exact⟨rfl,From.out⟩)
  |skip
 have n3:Nw w g3:=inferInstance
 go_loopg [5] k (fun ao v5 w'=>∃(i:Int) (p:List (ai)) (d:Int) (q:List Int) (a m:Int) (l:List (ah)) (u0 u2 u5:Value),v5= .int .i64 i∧ae (aN.l0 ao t7 i p d q a m l=some true)∧ae (ao≤k)∧ae (Kd.R gR 41 w' w.heap.size (fun _=>True) (.slice B3 t7.length b3) t7)∧ae (Kd.R aU 112 w' w.heap.size (fun _=>True) u0 p)∧ae (Kd.R (Kd.int .i64) 3 w' w.heap.size (fun _=>True) u2 q)∧ae (Kd.R aT 104 w' w.heap.size (fun _=>True) u5 l)∧ae (w'.heap[g3]? =some (.cells #[u0,.int .i64 d,u2,.int .i64 a,.int .i64 m,u5] 37 (0,0)))∧ae (Below w.heap.size w w'))
 case atStart=>exact⟨_,_,_,_,_,_,_,_,_,_,(by first|rfl|(simp;done)),⟨h⟩,⟨Nat.le_refl _⟩,⟨by first|exact bj|exact bM|exact cO rfl|exact dJ rfl⟩,⟨by first|exact bj|exact bM|exact cO rfl|exact dJ rfl⟩,⟨by first|exact bj|exact bM|exact cO rfl|exact dJ rfl⟩,⟨by first|exact bj|exact bM|exact cO rfl|exact dJ rfl⟩,⟨aQ.out⟩,⟨From.out⟩⟩
 case round=>
  clear h;obtain⟨i,p,d,q,a,m,l,u0,u2,u5,rfl,al,a3,be,aE,aF,aG,aB,am⟩:=hrel;rcases gk with _|k1
  ·exact absurd al.out (by simp[aN.l0])
  have h:=al.out;clear al;simp only[aN.l0]at h
  (try clear j0 j1 j2 bT q0 q1 q2 q3 X)
  obtain⟨cx,cE,bR,bX,db,b'⟩:=fP be.out;clear be b';injection bR with Z af ad;subst Z;subst ad;(try clear af);obtain⟨a0,bm,rfl,cU,dc,ca⟩:=fP aE.out;clear aE ca;obtain⟨a1,bn,rfl,cV,dd,cb⟩:=fP aF.out;clear aF cb;obtain⟨bx,bC,rfl,cW,de,cc⟩:=fP aG.out;clear aG cc;have ix:aM gR wr _ t7:=⟨(Kd.cp bX.out).2.2⟩;have bA:=aQ.mk aB.out;clear aB;have a2:From w wr:=⟨am.out⟩;have bd:Sz w wr:=⟨am.out.size⟩;clear am
  (repeat' first|((with_reducible replace h:=bq h);rcases h with ⟨hc,h⟩|⟨hc,h⟩<;>first|exact(bh h).elim|exact absurd (aC h) (by decide)|exact absurd hc (by decide)|(have hd:(_==(_:Int))=true:=aV hc;have he:(_ != (_:Int))=false:=aW hc;clear hc)|subst hc|(replace hc:=aD hc;subst hc)|(replace hc:=bH hc;subst hc)|(replace hc:=bJ hc;subst hc)|(have hd:(_==_)=true:=hc)|(have hd:(_==_)=false:=aD hc)|(have hd:=aD hc)|(have hd:=aV hc;have he:=aW hc;clear hc)|(have hd:=bo hc;have he:=bp hc)|(have hd:=ay hc)|(have hd:=ag hc;(try(have hn:=Int.natCast_pos.mp hc;have hm:=ag hn;replace hn:=ax hn));first|(have hz:=bE (by assumption) (by first|assumption|decide) hc;obtain⟨H,e_,c_⟩:=hz;cases e_)|(have hz:=bD (aM.out (self:=by assumption)) _ (by first|assumption|decide) hc;obtain⟨H,e_,z,D,F,G⟩:=hz;cases e_;replace z:=ak.mk z;replace D:=ak.mk D;replace F:=ak.mk F;replace G:=ak.mk G)|(have hz:=bD (aM.out (self:=by assumption)) _ hc (by assumption);obtain⟨H,e_,z,D,F,G⟩:=hz;cases e_;replace z:=ak.mk z;replace D:=ak.mk D;replace F:=ak.mk F;replace G:=ak.mk G))|(have hd:=ag hc)|skip)|((with_reducible have hj:aN.r _ _ _ _ _ _ _ _ _=_:=h);clear hj;unfold aN.r at h)|((with_reducible replace h:=bF h);obtain⟨I,h⟩:=h;replace I:=A_ I;(try dsimp only at h)))
  all_goals go_wp2_with ((first
        |((with_reducible refine aJ (N:=10) rfl ?_);refine bV #[.slice none 0 0,.int .i64 0,.slice none 0 0,.int .i64 0,.int .i64 0,.slice none 0 0] 37 fun g10 w1 bu bv bw=> ?_)
        |(refine qR (id:=7) (ds:=[]) (l:= #[false,false,false,false,false,false,false,false,false,false,false,false]) aN.mm aN.lT ?_;intro J Y w3 aI u0 aK hHeld;replace h:=bI h;obtain⟨⟨ce,cf,ch,ci,cj,ck,cl⟩,ar,h⟩:=h;(try dsimp only at h);refine qT 0 (some 33) J Y hHeld ?_;refine qA 1 (some 34) J ?_;refine qA 2 (some 35) J ?_;refine qA 3 (some 36) J ?_;refine qT 4 (some 37) J Y hHeld ?_;refine ly 5 9 (some 38) (some 6) J (fun K hK=> ?_) (fun K hK=> ?_);(focus (refine df Tryz.func13 (by kernel_rfl) rfl _ (by rfl) rfl rfl (by(try simp only[List.map_toArray,List.map_cons,List.map_nil]);rfl) ?_;refine(bB.c _ _ _ _ _ _ _ _ _ _ _ _ _ _ _ _ _ _ _ _ _ _ _ _ _ Rd.out aj.out Rd.out aj.out Rd.out aj.out ar).mono ?_;rintro e u5 ⟨v0,v1,v2,rfl,O,U,V,hb⟩;obtain⟨ap,b0,rfl,j0,q0⟩:=aH O;obtain⟨B1,b1,rfl,j1,q1⟩:=aH U;obtain⟨B2,b2,rfl,j2,q2⟩:=aH V;have X:=aw.mk hb;(try clear O U V hb);refine⟨_,rfl,hK.out _ _ From.out fun hHeld=> ?_⟩;clear hK K;refine qN ?_;refine qA 6 (some 32) J ?_;refine qA 7 (some 39) J ?_;refine qA 8 (some 40) J ?_;refine ie 9 (some 6) J fun K hK=> ?_;refine jI 6 #[.slice none 0 0,.int .i64 0,.slice none 0 0,.int .i64 0,.int .i64 0,.slice none 0 0] 37 ?_;intro g9 aL u9 aO aP;refine hK.out _ _ From.out fun hHeld=> ?_;clear hK K;refine qN ?_;refine qS 10 J fun hHeld=> ?_;refine qA 11 (some 7) J ?_;refine qD J ?_));rotate_left 1;(focus (refine jI 6 #[.slice none 0 0,.int .i64 0,.slice none 0 0,.int .i64 0,.int .i64 0,.slice none 0 0] 37 ?_;intro g9 aL u9 aO aP;refine hK.out _ _ From.out fun hHeld=> ?_;clear hK K;refine qN ?_;refine ie 5 (some 38) J fun K hK=> ?_;refine df Tryz.func13 (by kernel_rfl) rfl _ (by rfl) rfl rfl (by(try simp only[List.map_toArray,List.map_cons,List.map_nil]);rfl) ?_;refine(bB.c _ _ _ _ _ _ _ _ _ _ _ _ _ _ _ _ _ _ _ _ _ _ _ _ _ Rd.out aj.out Rd.out aj.out Rd.out aj.out ar).mono ?_;rintro e u5 ⟨v0,v1,v2,rfl,O,U,V,hb⟩;obtain⟨ap,b0,rfl,j0,q0⟩:=aH O;obtain⟨B1,b1,rfl,j1,q1⟩:=aH U;obtain⟨B2,b2,rfl,j2,q2⟩:=aH V;have X:=aw.mk hb;(try clear O U V hb);refine⟨_,rfl,hK.out _ _ From.out fun hHeld=> ?_⟩;clear hK K;refine qN ?_;refine qA 6 (some 32) J ?_;refine qA 7 (some 39) J ?_;refine qA 8 (some 40) J ?_;refine qS 10 J fun hHeld=> ?_;refine qA 11 (some 7) J ?_;refine qD J ?_));all_goals((try simp only[aA]at h);(repeat' first|((with_reducible replace h:=bq h);rcases h with ⟨hc,h⟩|⟨hc,h⟩<;>first|exact(bh h).elim|exact absurd (aC h) (by decide)|exact absurd hc (by decide)|(have hd:(_==(_:Int))=true:=aV hc;have he:(_ != (_:Int))=false:=aW hc;clear hc)|subst hc|(replace hc:=aD hc;subst hc)|(replace hc:=bH hc;subst hc)|(replace hc:=bJ hc;subst hc)|(have hd:(_==_)=true:=hc)|(have hd:(_==_)=false:=aD hc)|(have hd:=aD hc)|(have hd:=aV hc;have he:=aW hc;clear hc)|(have hd:=bo hc;have he:=bp hc)|(have hd:=ay hc)|(have hd:=ag hc;(try(have hn:=Int.natCast_pos.mp hc;have hm:=ag hn;replace hn:=ax hn));first|(have hz:=bE (by assumption) (by first|assumption|decide) hc;obtain⟨H,e_,c_⟩:=hz;cases e_)|(have hz:=bD (aM.out (self:=by assumption)) _ (by first|assumption|decide) hc;obtain⟨H,e_,z,D,F,G⟩:=hz;cases e_;replace z:=ak.mk z;replace D:=ak.mk D;replace F:=ak.mk F;replace G:=ak.mk G)|(have hz:=bD (aM.out (self:=by assumption)) _ hc (by assumption);obtain⟨H,e_,z,D,F,G⟩:=hz;cases e_;replace z:=ak.mk z;replace D:=ak.mk D;replace F:=ak.mk F;replace G:=ak.mk G))|(have hd:=ag hc)|skip)|((with_reducible have hj:aN.r _ _ _ _ _ _ _ _ _=_:=h);clear hj;unfold aN.r at h)|((with_reducible replace h:=bF h);obtain⟨I,h⟩:=h;replace I:=A_ I;(try dsimp only at h)))))
        |(refine qR (id:=8) (ds:=[]) (l:= #[false,false,false,false,false,false,false,false,false,false,false,false]) aN.iw aN.hE ?_;intro J Y w3 aI u0 aK hHeld;replace h:=bI h;obtain⟨⟨ce,cf,ch,ci,cj,ck,cl⟩,ar,h⟩:=h;(try dsimp only at h);refine qT 0 (some 42) J Y hHeld ?_;refine qA 1 (some 43) J ?_;refine qA 2 (some 44) J ?_;refine qA 3 (some 45) J ?_;refine qT 4 (some 46) J Y hHeld ?_;refine ly 5 9 (some 47) (some 8) J (fun K hK=> ?_) (fun K hK=> ?_);(focus (refine df Tryz.func10 (by kernel_rfl) rfl _ (by rfl) rfl rfl (by(try simp only[List.map_toArray,List.map_cons,List.map_nil]);rfl) ?_;refine(cq.c _ _ _ _ _ _ _ _ _ _ _ _ _ _ _ _ _ _ _ _ _ _ _ _ _ Rd.out aj.out Rd.out aj.out Rd.out aj.out ar).mono ?_;rintro e u5 ⟨v0,v1,v2,rfl,O,U,V,hb⟩;obtain⟨ap,b0,rfl,j0,q0⟩:=aH O;obtain⟨B1,b1,rfl,j1,q1⟩:=aH U;obtain⟨B2,b2,rfl,j2,q2⟩:=aH V;have X:=aw.mk hb;(try clear O U V hb);refine⟨_,rfl,hK.out _ _ From.out fun hHeld=> ?_⟩;clear hK K;refine qN ?_;refine qA 6 (some 41) J ?_;refine qA 7 (some 48) J ?_;refine qA 8 (some 49) J ?_;refine ie 9 (some 8) J fun K hK=> ?_;refine jI 8 #[.slice none 0 0,.int .i64 0,.slice none 0 0,.int .i64 0,.int .i64 0,.slice none 0 0] 37 ?_;intro g9 aL u9 aO aP;refine hK.out _ _ From.out fun hHeld=> ?_;clear hK K;refine qN ?_;refine qS 10 J fun hHeld=> ?_;refine qA 11 (some 9) J ?_;refine qD J ?_));rotate_left 1;(focus (refine jI 8 #[.slice none 0 0,.int .i64 0,.slice none 0 0,.int .i64 0,.int .i64 0,.slice none 0 0] 37 ?_;intro g9 aL u9 aO aP;refine hK.out _ _ From.out fun hHeld=> ?_;clear hK K;refine qN ?_;refine ie 5 (some 47) J fun K hK=> ?_;refine df Tryz.func10 (by kernel_rfl) rfl _ (by rfl) rfl rfl (by(try simp only[List.map_toArray,List.map_cons,List.map_nil]);rfl) ?_;refine(cq.c _ _ _ _ _ _ _ _ _ _ _ _ _ _ _ _ _ _ _ _ _ _ _ _ _ Rd.out aj.out Rd.out aj.out Rd.out aj.out ar).mono ?_;rintro e u5 ⟨v0,v1,v2,rfl,O,U,V,hb⟩;obtain⟨ap,b0,rfl,j0,q0⟩:=aH O;obtain⟨B1,b1,rfl,j1,q1⟩:=aH U;obtain⟨B2,b2,rfl,j2,q2⟩:=aH V;have X:=aw.mk hb;(try clear O U V hb);refine⟨_,rfl,hK.out _ _ From.out fun hHeld=> ?_⟩;clear hK K;refine qN ?_;refine qA 6 (some 41) J ?_;refine qA 7 (some 48) J ?_;refine qA 8 (some 49) J ?_;refine qS 10 J fun hHeld=> ?_;refine qA 11 (some 9) J ?_;refine qD J ?_));all_goals((try simp only[aA]at h);(repeat' first|((with_reducible replace h:=bq h);rcases h with ⟨hc,h⟩|⟨hc,h⟩<;>first|exact(bh h).elim|exact absurd (aC h) (by decide)|exact absurd hc (by decide)|(have hd:(_==(_:Int))=true:=aV hc;have he:(_ != (_:Int))=false:=aW hc;clear hc)|subst hc|(replace hc:=aD hc;subst hc)|(replace hc:=bH hc;subst hc)|(replace hc:=bJ hc;subst hc)|(have hd:(_==_)=true:=hc)|(have hd:(_==_)=false:=aD hc)|(have hd:=aD hc)|(have hd:=aV hc;have he:=aW hc;clear hc)|(have hd:=bo hc;have he:=bp hc)|(have hd:=ay hc)|(have hd:=ag hc;(try(have hn:=Int.natCast_pos.mp hc;have hm:=ag hn;replace hn:=ax hn));first|(have hz:=bE (by assumption) (by first|assumption|decide) hc;obtain⟨H,e_,c_⟩:=hz;cases e_)|(have hz:=bD (aM.out (self:=by assumption)) _ (by first|assumption|decide) hc;obtain⟨H,e_,z,D,F,G⟩:=hz;cases e_;replace z:=ak.mk z;replace D:=ak.mk D;replace F:=ak.mk F;replace G:=ak.mk G)|(have hz:=bD (aM.out (self:=by assumption)) _ hc (by assumption);obtain⟨H,e_,z,D,F,G⟩:=hz;cases e_;replace z:=ak.mk z;replace D:=ak.mk D;replace F:=ak.mk F;replace G:=ak.mk G))|(have hd:=ag hc)|skip)|((with_reducible have hj:aN.r _ _ _ _ _ _ _ _ _=_:=h);clear hj;unfold aN.r at h)|((with_reducible replace h:=bF h);obtain⟨I,h⟩:=h;replace I:=A_ I;(try dsimp only at h)))))
        |(refine qR (id:=9) (ds:=[]) (l:= #[false,false,false,false,false,false,false,false,false,false,false,false,false,false,false]) aN.jQ aN.jo ?_;intro J Y w3 aI u0 aK hHeld;refine qA 0 (some 50) J ?_;refine qA 1 (some 51) J ?_;refine qA 2 (some 52) J ?_;refine qA 3 (some 53) J ?_;refine qT 4 (some 54) J Y hHeld ?_;replace h:=bI h;obtain⟨t,A,h⟩:=h;(try dsimp only at h);refine qC 5 55 Tryz.func32 J fun K hK=> ?_;refine(eA.c _ _ _ _ _ _ _ _ _ _ _ _ _ _ _ Rd.out aj.out Rd.out aj.out Rd.out aj.out A).mono ?_;rintro e w2 ⟨rfl,hb⟩;have X:=aw.mk hb;clear A hb;refine⟨_,rfl,hK _ _ From.out fun hHeld=> ?_⟩;clear hK K;refine qN ?_;(repeat' first|((with_reducible replace h:=bq h);rcases h with ⟨hc,h⟩|⟨hc,h⟩<;>first|exact(bh h).elim|exact absurd (aC h) (by decide)|exact absurd hc (by decide)|(have hd:(_==(_:Int))=true:=aV hc;have he:(_ != (_:Int))=false:=aW hc;clear hc)|subst hc|(replace hc:=aD hc;subst hc)|(replace hc:=bH hc;subst hc)|(replace hc:=bJ hc;subst hc)|(have hd:(_==_)=true:=hc)|(have hd:(_==_)=false:=aD hc)|(have hd:=aD hc)|(have hd:=aV hc;have he:=aW hc;clear hc)|(have hd:=bo hc;have he:=bp hc)|(have hd:=ay hc)|(have hd:=ag hc;(try(have hn:=Int.natCast_pos.mp hc;have hm:=ag hn;replace hn:=ax hn));first|(have hz:=bE (by assumption) (by first|assumption|decide) hc;obtain⟨H,e_,c_⟩:=hz;cases e_)|(have hz:=bD (aM.out (self:=by assumption)) _ (by first|assumption|decide) hc;obtain⟨H,e_,z,D,F,G⟩:=hz;cases e_;replace z:=ak.mk z;replace D:=ak.mk D;replace F:=ak.mk F;replace G:=ak.mk G)|(have hz:=bD (aM.out (self:=by assumption)) _ hc (by assumption);obtain⟨H,e_,z,D,F,G⟩:=hz;cases e_;replace z:=ak.mk z;replace D:=ak.mk D;replace F:=ak.mk F;replace G:=ak.mk G))|(have hd:=ag hc)|skip)|((with_reducible have hj:aN.r _ _ _ _ _ _ _ _ _=_:=h);clear hj;unfold aN.r at h)|((with_reducible replace h:=bF h);obtain⟨I,h⟩:=h;replace I:=A_ I;(try dsimp only at h)));refine qA 6 (some 56) J ?_;refine qA 7 (some 57) J ?_;refine qA 8 (some 58) J ?_;refine qT 9 (some 59) J Y hHeld ?_;refine qT 11 (some 61) J Y hHeld ?_;replace h:=bI h;obtain⟨t,A,h⟩:=h;(try dsimp only at h);refine qC 10 60 Tryz.func34 J fun K hK=> ?_;refine(eY.c _ _ _ _ _ _ _ _ _ _ _ _ _ _ _ Rd.out aj.out Rd.out aj.out Rd.out aj.out A).mono ?_;rintro e w2 ⟨rfl,hb⟩;have X:=aw.mk hb;clear A hb;refine⟨_,rfl,hK _ _ From.out fun hHeld=> ?_⟩;clear hK K;refine qN ?_;(repeat' first|((with_reducible replace h:=bq h);rcases h with ⟨hc,h⟩|⟨hc,h⟩<;>first|exact(bh h).elim|exact absurd (aC h) (by decide)|exact absurd hc (by decide)|(have hd:(_==(_:Int))=true:=aV hc;have he:(_ != (_:Int))=false:=aW hc;clear hc)|subst hc|(replace hc:=aD hc;subst hc)|(replace hc:=bH hc;subst hc)|(replace hc:=bJ hc;subst hc)|(have hd:(_==_)=true:=hc)|(have hd:(_==_)=false:=aD hc)|(have hd:=aD hc)|(have hd:=aV hc;have he:=aW hc;clear hc)|(have hd:=bo hc;have he:=bp hc)|(have hd:=ay hc)|(have hd:=ag hc;(try(have hn:=Int.natCast_pos.mp hc;have hm:=ag hn;replace hn:=ax hn));first|(have hz:=bE (by assumption) (by first|assumption|decide) hc;obtain⟨H,e_,c_⟩:=hz;cases e_)|(have hz:=bD (aM.out (self:=by assumption)) _ (by first|assumption|decide) hc;obtain⟨H,e_,z,D,F,G⟩:=hz;cases e_;replace z:=ak.mk z;replace D:=ak.mk D;replace F:=ak.mk F;replace G:=ak.mk G)|(have hz:=bD (aM.out (self:=by assumption)) _ hc (by assumption);obtain⟨H,e_,z,D,F,G⟩:=hz;cases e_;replace z:=ak.mk z;replace D:=ak.mk D;replace F:=ak.mk F;replace G:=ak.mk G))|(have hd:=ag hc)|skip)|((with_reducible have hj:aN.r _ _ _ _ _ _ _ _ _=_:=h);clear hj;unfold aN.r at h)|((with_reducible replace h:=bF h);obtain⟨I,h⟩:=h;replace I:=A_ I;(try dsimp only at h)));replace h:=bI h;obtain⟨t,A,h⟩:=h;(try dsimp only at h);refine qC 12 62 Tryz.func35 J fun K hK=> ?_;refine(fK.c _ _ _ _ _ _ _ _ _ _ _ _ _ _ _ Rd.out aj.out Rd.out aj.out Rd.out aj.out A).mono ?_;rintro e w2 ⟨rfl,hb⟩;have X:=aw.mk hb;clear A hb;refine⟨_,rfl,hK _ _ From.out fun hHeld=> ?_⟩;clear hK K;refine qN ?_;(repeat' first|((with_reducible replace h:=bq h);rcases h with ⟨hc,h⟩|⟨hc,h⟩<;>first|exact(bh h).elim|exact absurd (aC h) (by decide)|exact absurd hc (by decide)|(have hd:(_==(_:Int))=true:=aV hc;have he:(_ != (_:Int))=false:=aW hc;clear hc)|subst hc|(replace hc:=aD hc;subst hc)|(replace hc:=bH hc;subst hc)|(replace hc:=bJ hc;subst hc)|(have hd:(_==_)=true:=hc)|(have hd:(_==_)=false:=aD hc)|(have hd:=aD hc)|(have hd:=aV hc;have he:=aW hc;clear hc)|(have hd:=bo hc;have he:=bp hc)|(have hd:=ay hc)|(have hd:=ag hc;(try(have hn:=Int.natCast_pos.mp hc;have hm:=ag hn;replace hn:=ax hn));first|(have hz:=bE (by assumption) (by first|assumption|decide) hc;obtain⟨H,e_,c_⟩:=hz;cases e_)|(have hz:=bD (aM.out (self:=by assumption)) _ (by first|assumption|decide) hc;obtain⟨H,e_,z,D,F,G⟩:=hz;cases e_;replace z:=ak.mk z;replace D:=ak.mk D;replace F:=ak.mk F;replace G:=ak.mk G)|(have hz:=bD (aM.out (self:=by assumption)) _ hc (by assumption);obtain⟨H,e_,z,D,F,G⟩:=hz;cases e_;replace z:=ak.mk z;replace D:=ak.mk D;replace F:=ak.mk F;replace G:=ak.mk G))|(have hd:=ag hc)|skip)|((with_reducible have hj:aN.r _ _ _ _ _ _ _ _ _=_:=h);clear hj;unfold aN.r at h)|((with_reducible replace h:=bF h);obtain⟨I,h⟩:=h;replace I:=A_ I;(try dsimp only at h)));refine qA 13 (some 63) J ?_;refine qA 14 (some 64) J ?_;refine qD J ?_));(repeat' first|((with_reducible replace h:=bq h);rcases h with ⟨hc,h⟩|⟨hc,h⟩<;>first|exact(bh h).elim|exact absurd (aC h) (by decide)|exact absurd hc (by decide)|(have hd:(_==(_:Int))=true:=aV hc;have he:(_ != (_:Int))=false:=aW hc;clear hc)|subst hc|(replace hc:=aD hc;subst hc)|(replace hc:=bH hc;subst hc)|(replace hc:=bJ hc;subst hc)|(have hd:(_==_)=true:=hc)|(have hd:(_==_)=false:=aD hc)|(have hd:=aD hc)|(have hd:=aV hc;have he:=aW hc;clear hc)|(have hd:=bo hc;have he:=bp hc)|(have hd:=ay hc)|(have hd:=ag hc;(try(have hn:=Int.natCast_pos.mp hc;have hm:=ag hn;replace hn:=ax hn));first|(have hz:=bE (by assumption) (by first|assumption|decide) hc;obtain⟨H,e_,c_⟩:=hz;cases e_)|(have hz:=bD (aM.out (self:=by assumption)) _ (by first|assumption|decide) hc;obtain⟨H,e_,z,D,F,G⟩:=hz;cases e_;replace z:=ak.mk z;replace D:=ak.mk D;replace F:=ak.mk F;replace G:=ak.mk G)|(have hz:=bD (aM.out (self:=by assumption)) _ hc (by assumption);obtain⟨H,e_,z,D,F,G⟩:=hz;cases e_;replace z:=ak.mk z;replace D:=ak.mk D;replace F:=ak.mk F;replace G:=ak.mk G))|(have hd:=ag hc)|skip)|((with_reducible have hj:aN.r _ _ _ _ _ _ _ _ _=_:=h);clear hj;unfold aN.r at h)|((with_reducible replace h:=bF h);obtain⟨I,h⟩:=h;replace I:=A_ I;(try dsimp only at h))))
  all_goals first
   |(go_roundg k1;(case measure=>have:=a3.out;omega);(case rel=>exact⟨_,_,_,_,_,_,_,_,_,_,(by first|rfl|(simp;done)),⟨h⟩,⟨by have:=a3.out;omega⟩,⟨by first|exact bj|exact bM|exact cO rfl|exact dJ rfl⟩,⟨by first|exact bj|exact bM|exact cO rfl|exact dJ rfl⟩,⟨by first|exact bj|exact bM|exact cO rfl|exact dJ rfl⟩,⟨by first|exact bj|exact bM|exact cO rfl|exact dJ rfl⟩,⟨aQ.out⟩,⟨From.out⟩⟩))
   |skip
  have n10:Nw w g10:=inferInstance
  go_loopg [11] k1 (fun ao v11 w'=>∃(j:Int) (p':List (ai)) (d':Int) (q':List Int) (a' m':Int) (l':List (ah)) (u0 u2 u5:Value),v11= .int .i64 j∧ae (aN.l1 ao j p q p' d' q' a' m' l'=some true)∧ae (ao≤k1)∧ae (Kd.R aU 112 w' w.heap.size (fun _=>True) (.slice a0 p.length bm) p)∧ae (Kd.R (Kd.int .i64) 3 w' w.heap.size (fun _=>True) (.slice a1 q.length bn) q)∧ae (Kd.R aU 112 w' w.heap.size (fun _=>True) u0 p')∧ae (Kd.R (Kd.int .i64) 3 w' w.heap.size (fun _=>True) u2 q')∧ae (Kd.R aT 104 w' w.heap.size (fun _=>True) u5 l')∧ae (w'.heap[g3]? =some (.cells #[(.slice a0 p.length bm),.int .i64 d,(.slice a1 q.length bn),.int .i64 a,.int .i64 m,(.slice bx l.length bC)] 37 (0,0)))∧ae (w'.heap[g10]? =some (.cells #[u0,.int .i64 d',u2,.int .i64 a',.int .i64 m',u5] 37 (0,0)))∧ae (Below w.heap.size w w'))
  case atStart=>exact⟨_,_,_,_,_,_,_,_,_,_,(by first|rfl|(simp;done)),⟨h⟩,⟨Nat.le_refl _⟩,⟨by first|exact bj|exact bM|exact cO rfl|exact dJ rfl⟩,⟨by first|exact bj|exact bM|exact cO rfl|exact dJ rfl⟩,⟨by first|exact bj|exact bM|exact cO rfl|exact dJ rfl⟩,⟨by first|exact bj|exact bM|exact cO rfl|exact dJ rfl⟩,⟨by first|exact bj|exact bM|exact cO rfl|exact dJ rfl⟩,⟨aQ.out⟩,⟨aQ.out⟩,⟨From.out⟩⟩
  case round=>
   clear h;obtain⟨j,p',d',q',a',m',l',u0,u2,u5,rfl,al,a4,a6,a9,aE,aF,aG,aB,av,am⟩:=hrel;rcases gk with _|k2
   ·exact absurd al.out (by simp[aN.l1])
   have h:=al.out;clear al;simp only[aN.l1]at h;obtain⟨cu,cC,bP,cQ,c7,b6⟩:=fP a6.out;clear a6 b6;injection bP with Z af ad;subst Z;subst ad;(try clear af);obtain⟨cw,cD,bQ,bW,c8,b7⟩:=fP a9.out;clear a9 b7;injection bQ with Z af ad;subst Z;subst ad;(try clear af);obtain⟨aS,bg,rfl,cR,c9,b8⟩:=fP aE.out;clear aE b8;obtain⟨aX,bk,rfl,cS,c',b9⟩:=fP aF.out;clear aF b9;obtain⟨aY,bl,rfl,cT,da,b_⟩:=fP aG.out;clear aG b_;have cJ:aM (Kd.int .i64) wr _ q:=⟨(Kd.cp bW.out).2.2⟩;have bA:=aQ.mk aB.out;clear aB;have bz:=aQ.mk av.out;clear av;have a2:From w wr:=⟨am.out⟩;have bd:Sz w wr:=⟨am.out.size⟩;clear am
   (repeat' first|((with_reducible replace h:=bq h);rcases h with ⟨hc,h⟩|⟨hc,h⟩<;>first|exact(bh h).elim|exact absurd (aC h) (by decide)|exact absurd hc (by decide)|(have hd:(_==(_:Int))=true:=aV hc;have he:(_ != (_:Int))=false:=aW hc;clear hc)|subst hc|(replace hc:=aD hc;subst hc)|(replace hc:=bH hc;subst hc)|(replace hc:=bJ hc;subst hc)|(have hd:(_==_)=true:=hc)|(have hd:(_==_)=false:=aD hc)|(have hd:=aD hc)|(have hd:=aV hc;have he:=aW hc;clear hc)|(have hd:=bo hc;have he:=bp hc)|(have hd:=ay hc)|(have hd:=ag hc;(try(have hn:=Int.natCast_pos.mp hc;have hm:=ag hn;replace hn:=ax hn));first|(have hz:=bE (by assumption) (by first|assumption|decide) hc;obtain⟨H,e_,c_⟩:=hz;cases e_)|(have hz:=bD (aM.out (self:=by assumption)) _ (by first|assumption|decide) hc;obtain⟨H,e_,z,D,F,G⟩:=hz;cases e_;replace z:=ak.mk z;replace D:=ak.mk D;replace F:=ak.mk F;replace G:=ak.mk G)|(have hz:=bD (aM.out (self:=by assumption)) _ hc (by assumption);obtain⟨H,e_,z,D,F,G⟩:=hz;cases e_;replace z:=ak.mk z;replace D:=ak.mk D;replace F:=ak.mk F;replace G:=ak.mk G))|(have hd:=ag hc)|skip)|((with_reducible have hj:aN.r _ _ _ _ _ _ _ _ _=_:=h);clear hj;unfold aN.r at h)|((with_reducible replace h:=bF h);obtain⟨I,h⟩:=h;replace I:=A_ I;(try dsimp only at h)))
   all_goals go_wp2_with ((first
        |((with_reducible refine aJ (N:=12) rfl ?_);refine bV #[.slice none 0 0,.int .i64 0,.slice none 0 0,.int .i64 0,.int .i64 0,.slice none 0 0] 37 fun g12 w1 bu bv bw=> ?_)
        |(go_at_call 34;replace h:=bI h;obtain⟨t,A,h⟩:=h;(try dsimp only at h);refine(eY.c _ _ _ _ _ _ _ _ _ _ _ _ _ _ _ Rd.out aj.out Rd.out aj.out Rd.out aj.out A).mono ?_;rintro e w2 ⟨rfl,hb⟩;have X:=aw.mk hb;clear A hb;(repeat' first|((with_reducible replace h:=bq h);rcases h with ⟨hc,h⟩|⟨hc,h⟩<;>first|exact(bh h).elim|exact absurd (aC h) (by decide)|exact absurd hc (by decide)|(have hd:(_==(_:Int))=true:=aV hc;have he:(_ != (_:Int))=false:=aW hc;clear hc)|subst hc|(replace hc:=aD hc;subst hc)|(replace hc:=bH hc;subst hc)|(replace hc:=bJ hc;subst hc)|(have hd:(_==_)=true:=hc)|(have hd:(_==_)=false:=aD hc)|(have hd:=aD hc)|(have hd:=aV hc;have he:=aW hc;clear hc)|(have hd:=bo hc;have he:=bp hc)|(have hd:=ay hc)|(have hd:=ag hc;(try(have hn:=Int.natCast_pos.mp hc;have hm:=ag hn;replace hn:=ax hn));first|(have hz:=bE (by assumption) (by first|assumption|decide) hc;obtain⟨H,e_,c_⟩:=hz;cases e_)|(have hz:=bD (aM.out (self:=by assumption)) _ (by first|assumption|decide) hc;obtain⟨H,e_,z,D,F,G⟩:=hz;cases e_;replace z:=ak.mk z;replace D:=ak.mk D;replace F:=ak.mk F;replace G:=ak.mk G)|(have hz:=bD (aM.out (self:=by assumption)) _ hc (by assumption);obtain⟨H,e_,z,D,F,G⟩:=hz;cases e_;replace z:=ak.mk z;replace D:=ak.mk D;replace F:=ak.mk F;replace G:=ak.mk G))|(have hd:=ag hc)|skip)|((with_reducible have hj:aN.r _ _ _ _ _ _ _ _ _=_:=h);clear hj;unfold aN.r at h)|((with_reducible replace h:=bF h);obtain⟨I,h⟩:=h;replace I:=A_ I;(try dsimp only at h))))
        |(go_at_call 36;replace h:=bI h;obtain⟨⟨t1,t2,t3,t4,t5,t6,t7⟩,A,h⟩:=h;(try dsimp only at h);refine(jC.c _ _ _ _ _ _ _ _ _ _ _ _ _ _ _ _ _ _ _ _ _ Rd.out aj.out Rd.out aj.out Rd.out aj.out A).mono ?_;rintro e w2 ⟨v0,v1,v2,rfl,O,U,V,hb⟩;obtain⟨ap,b0,rfl,j0,q0⟩:=aH O;obtain⟨B1,b1,rfl,j1,q1⟩:=aH U;obtain⟨B2,b2,rfl,j2,q2⟩:=aH V;have X:=aw.mk hb;clear A O U V hb;(repeat' first|((with_reducible replace h:=bq h);rcases h with ⟨hc,h⟩|⟨hc,h⟩<;>first|exact(bh h).elim|exact absurd (aC h) (by decide)|exact absurd hc (by decide)|(have hd:(_==(_:Int))=true:=aV hc;have he:(_ != (_:Int))=false:=aW hc;clear hc)|subst hc|(replace hc:=aD hc;subst hc)|(replace hc:=bH hc;subst hc)|(replace hc:=bJ hc;subst hc)|(have hd:(_==_)=true:=hc)|(have hd:(_==_)=false:=aD hc)|(have hd:=aD hc)|(have hd:=aV hc;have he:=aW hc;clear hc)|(have hd:=bo hc;have he:=bp hc)|(have hd:=ay hc)|(have hd:=ag hc;(try(have hn:=Int.natCast_pos.mp hc;have hm:=ag hn;replace hn:=ax hn));first|(have hz:=bE (by assumption) (by first|assumption|decide) hc;obtain⟨H,e_,c_⟩:=hz;cases e_)|(have hz:=bD (aM.out (self:=by assumption)) _ (by first|assumption|decide) hc;obtain⟨H,e_,z,D,F,G⟩:=hz;cases e_;replace z:=ak.mk z;replace D:=ak.mk D;replace F:=ak.mk F;replace G:=ak.mk G)|(have hz:=bD (aM.out (self:=by assumption)) _ hc (by assumption);obtain⟨H,e_,z,D,F,G⟩:=hz;cases e_;replace z:=ak.mk z;replace D:=ak.mk D;replace F:=ak.mk F;replace G:=ak.mk G))|(have hd:=ag hc)|skip)|((with_reducible have hj:aN.r _ _ _ _ _ _ _ _ _=_:=h);clear hj;unfold aN.r at h)|((with_reducible replace h:=bF h);obtain⟨I,h⟩:=h;replace I:=A_ I;(try dsimp only at h))))
        |(go_at_call 37;replace h:=bI h;obtain⟨t,A,h⟩:=h;(try dsimp only at h);refine(a7.calls _ _ _ _ _ _ _ _ _ _ _ _ _ _ _ Rd.out aj.out Rd.out aj.out Rd.out aj.out A).mono ?_;rintro e w2 ⟨rfl,hb⟩;have X:=aw.mk hb;clear A hb;(repeat' first|((with_reducible replace h:=bq h);rcases h with ⟨hc,h⟩|⟨hc,h⟩<;>first|exact(bh h).elim|exact absurd (aC h) (by decide)|exact absurd hc (by decide)|(have hd:(_==(_:Int))=true:=aV hc;have he:(_ != (_:Int))=false:=aW hc;clear hc)|subst hc|(replace hc:=aD hc;subst hc)|(replace hc:=bH hc;subst hc)|(replace hc:=bJ hc;subst hc)|(have hd:(_==_)=true:=hc)|(have hd:(_==_)=false:=aD hc)|(have hd:=aD hc)|(have hd:=aV hc;have he:=aW hc;clear hc)|(have hd:=bo hc;have he:=bp hc)|(have hd:=ay hc)|(have hd:=ag hc;(try(have hn:=Int.natCast_pos.mp hc;have hm:=ag hn;replace hn:=ax hn));first|(have hz:=bE (by assumption) (by first|assumption|decide) hc;obtain⟨H,e_,c_⟩:=hz;cases e_)|(have hz:=bD (aM.out (self:=by assumption)) _ (by first|assumption|decide) hc;obtain⟨H,e_,z,D,F,G⟩:=hz;cases e_;replace z:=ak.mk z;replace D:=ak.mk D;replace F:=ak.mk F;replace G:=ak.mk G)|(have hz:=bD (aM.out (self:=by assumption)) _ hc (by assumption);obtain⟨H,e_,z,D,F,G⟩:=hz;cases e_;replace z:=ak.mk z;replace D:=ak.mk D;replace F:=ak.mk F;replace G:=ak.mk G))|(have hd:=ag hc)|skip)|((with_reducible have hj:aN.r _ _ _ _ _ _ _ _ _=_:=h);clear hj;unfold aN.r at h)|((with_reducible replace h:=bF h);obtain⟨I,h⟩:=h;replace I:=A_ I;(try dsimp only at h))))
        |(go_at_call 39;replace h:=bI h;obtain⟨t,A,h⟩:=h;(try dsimp only at h);refine(fR.c _ _ _ _ _ _ _ _ _ Rd.out aj.out Rd.out aj.out A).mono ?_;rintro e w2 ⟨rfl,n,rfl⟩;clear A;(repeat' first|((with_reducible replace h:=bq h);rcases h with ⟨hc,h⟩|⟨hc,h⟩<;>first|exact(bh h).elim|exact absurd (aC h) (by decide)|exact absurd hc (by decide)|(have hd:(_==(_:Int))=true:=aV hc;have he:(_ != (_:Int))=false:=aW hc;clear hc)|subst hc|(replace hc:=aD hc;subst hc)|(replace hc:=bH hc;subst hc)|(replace hc:=bJ hc;subst hc)|(have hd:(_==_)=true:=hc)|(have hd:(_==_)=false:=aD hc)|(have hd:=aD hc)|(have hd:=aV hc;have he:=aW hc;clear hc)|(have hd:=bo hc;have he:=bp hc)|(have hd:=ay hc)|(have hd:=ag hc;(try(have hn:=Int.natCast_pos.mp hc;have hm:=ag hn;replace hn:=ax hn));first|(have hz:=bE (by assumption) (by first|assumption|decide) hc;obtain⟨H,e_,c_⟩:=hz;cases e_)|(have hz:=bD (aM.out (self:=by assumption)) _ (by first|assumption|decide) hc;obtain⟨H,e_,z,D,F,G⟩:=hz;cases e_;replace z:=ak.mk z;replace D:=ak.mk D;replace F:=ak.mk F;replace G:=ak.mk G)|(have hz:=bD (aM.out (self:=by assumption)) _ hc (by assumption);obtain⟨H,e_,z,D,F,G⟩:=hz;cases e_;replace z:=ak.mk z;replace D:=ak.mk D;replace F:=ak.mk F;replace G:=ak.mk G))|(have hd:=ag hc)|skip)|((with_reducible have hj:aN.r _ _ _ _ _ _ _ _ _=_:=h);clear hj;unfold aN.r at h)|((with_reducible replace h:=bF h);obtain⟨I,h⟩:=h;replace I:=A_ I;(try dsimp only at h))))
        |((try(have z:=c_.out;rw[show Addr.add H (Int.toNat 0)=H from by simp[Addr.add]]at z;replace z:=ak.mk z));refine qR (id:=20) (ds:=[]) (l:= #[false,false,false,false,false,false,false,false,false,false,false,false,false,false]) aN.nr aN.mF ?_;intro J Y w3 aI u0 aK hHeld;refine qA 0 (some 90) J ?_;refine qA 1 (some 91) J ?_;refine qT 2 (some 92) J Y hHeld ?_;refine qA 3 (some 93) J ?_;refine qT 4 (some 94) J Y hHeld ?_;refine qA 5 (some 95) J ?_;refine qA 6 (some 96) J ?_;refine qT 7 (some 97) J Y hHeld ?_;replace h:=bI h;obtain⟨⟨t1,t2⟩,A,h⟩:=h;(try dsimp only at h);refine qC 8 98 Tryz.func38 J fun K hK=> ?_;refine(cv.c _ _ _ _ _ _ _ _ Rd.out aj.out A).mono ?_;rintro e w2 ⟨v0,rfl,O,hb⟩;obtain⟨ap,b0,rfl,j0,q0⟩:=aH O;have X:=aw.mk hb;clear A O hb;refine⟨_,rfl,hK _ _ From.out fun hHeld=> ?_⟩;clear hK K;refine qN ?_;(repeat' first|((with_reducible replace h:=bq h);rcases h with ⟨hc,h⟩|⟨hc,h⟩<;>first|exact(bh h).elim|exact absurd (aC h) (by decide)|exact absurd hc (by decide)|(have hd:(_==(_:Int))=true:=aV hc;have he:(_ != (_:Int))=false:=aW hc;clear hc)|subst hc|(replace hc:=aD hc;subst hc)|(replace hc:=bH hc;subst hc)|(replace hc:=bJ hc;subst hc)|(have hd:(_==_)=true:=hc)|(have hd:(_==_)=false:=aD hc)|(have hd:=aD hc)|(have hd:=aV hc;have he:=aW hc;clear hc)|(have hd:=bo hc;have he:=bp hc)|(have hd:=ay hc)|(have hd:=ag hc;(try(have hn:=Int.natCast_pos.mp hc;have hm:=ag hn;replace hn:=ax hn));first|(have hz:=bE (by assumption) (by first|assumption|decide) hc;obtain⟨H,e_,c_⟩:=hz;cases e_)|(have hz:=bD (aM.out (self:=by assumption)) _ (by first|assumption|decide) hc;obtain⟨H,e_,z,D,F,G⟩:=hz;cases e_;replace z:=ak.mk z;replace D:=ak.mk D;replace F:=ak.mk F;replace G:=ak.mk G)|(have hz:=bD (aM.out (self:=by assumption)) _ hc (by assumption);obtain⟨H,e_,z,D,F,G⟩:=hz;cases e_;replace z:=ak.mk z;replace D:=ak.mk D;replace F:=ak.mk F;replace G:=ak.mk G))|(have hd:=ag hc)|skip)|((with_reducible have hj:aN.r _ _ _ _ _ _ _ _ _=_:=h);clear hj;unfold aN.r at h)|((with_reducible replace h:=bF h);obtain⟨I,h⟩:=h;replace I:=A_ I;(try dsimp only at h)));refine qA 9 (some 89) J ?_;refine qA 10 (some 99) J ?_;refine qA 11 (some 100) J ?_;refine qA 12 (some 14) J ?_;refine qA 13 (some 15) J ?_;refine qD J ?_));(repeat' first|((with_reducible replace h:=bq h);rcases h with ⟨hc,h⟩|⟨hc,h⟩<;>first|exact(bh h).elim|exact absurd (aC h) (by decide)|exact absurd hc (by decide)|(have hd:(_==(_:Int))=true:=aV hc;have he:(_ != (_:Int))=false:=aW hc;clear hc)|subst hc|(replace hc:=aD hc;subst hc)|(replace hc:=bH hc;subst hc)|(replace hc:=bJ hc;subst hc)|(have hd:(_==_)=true:=hc)|(have hd:(_==_)=false:=aD hc)|(have hd:=aD hc)|(have hd:=aV hc;have he:=aW hc;clear hc)|(have hd:=bo hc;have he:=bp hc)|(have hd:=ay hc)|(have hd:=ag hc;(try(have hn:=Int.natCast_pos.mp hc;have hm:=ag hn;replace hn:=ax hn));first|(have hz:=bE (by assumption) (by first|assumption|decide) hc;obtain⟨H,e_,c_⟩:=hz;cases e_)|(have hz:=bD (aM.out (self:=by assumption)) _ (by first|assumption|decide) hc;obtain⟨H,e_,z,D,F,G⟩:=hz;cases e_;replace z:=ak.mk z;replace D:=ak.mk D;replace F:=ak.mk F;replace G:=ak.mk G)|(have hz:=bD (aM.out (self:=by assumption)) _ hc (by assumption);obtain⟨H,e_,z,D,F,G⟩:=hz;cases e_;replace z:=ak.mk z;replace D:=ak.mk D;replace F:=ak.mk F;replace G:=ak.mk G))|(have hd:=ag hc)|skip)|((with_reducible have hj:aN.r _ _ _ _ _ _ _ _ _=_:=h);clear hj;unfold aN.r at h)|((with_reducible replace h:=bF h);obtain⟨I,h⟩:=h;replace I:=A_ I;(try dsimp only at h))))
   all_goals first
    |(go_roundg k2;(case measure=>have:=a4.out;omega);(case rel=>exact⟨_,_,_,_,_,_,_,_,_,_,(by first|rfl|(simp;done)),⟨h⟩,⟨by have:=a4.out;omega⟩,⟨by first|exact bj|exact bM|exact cO rfl|exact dJ rfl⟩,⟨by first|exact bj|exact bM|exact cO rfl|exact dJ rfl⟩,⟨by first|exact bj|exact bM|exact cO rfl|exact dJ rfl⟩,⟨by first|exact bj|exact bM|exact cO rfl|exact dJ rfl⟩,⟨by first|exact bj|exact bM|exact cO rfl|exact dJ rfl⟩,⟨aQ.out⟩,⟨aQ.out⟩,⟨From.out⟩⟩))
    |skip
   all_goals(
    go_loopg [16] k2 (fun ao v16 w'=>∃(y:Int),v16= .int .i64 y∧ae (aN.l2 ao t1 y p' d' q' a' m' l'=some true)∧ae (ao≤k2)∧ae (Kd.R (Kd.int .i64) 3 w' w.heap.size (fun _=>True) (.slice ap t1.length b0) t1)∧ae (Kd.R aU 112 w' w.heap.size (fun _=>True) (.slice aS p'.length bg) p')∧ae (Kd.R (Kd.int .i64) 3 w' w.heap.size (fun _=>True) (.slice aX q'.length bk) q')∧ae (Kd.R aT 104 w' w.heap.size (fun _=>True) (.slice aY l'.length bl) l')∧ae (w'.heap[g10]? =some (.cells #[(.slice aS p'.length bg),.int .i64 d',(.slice aX q'.length bk),.int .i64 a',.int .i64 m',(.slice aY l'.length bl)] 37 (0,0)))∧ae (Below w.heap.size w w'))
    case atStart=>exact⟨_,(by first|rfl|(simp;done)),⟨h⟩,⟨Nat.le_refl _⟩,⟨by first|exact bj|exact bM|exact cO rfl|exact dJ rfl⟩,⟨by first|exact bj|exact bM|exact cO rfl|exact dJ rfl⟩,⟨by first|exact bj|exact bM|exact cO rfl|exact dJ rfl⟩,⟨by first|exact bj|exact bM|exact cO rfl|exact dJ rfl⟩,⟨aQ.out⟩,⟨From.out⟩⟩
    case round=>
     clear h;obtain⟨y,rfl,al,a5,bf,a_,bb,bc,av,am⟩:=hrel;rcases gk with _|k3
     ·exact absurd al.out (by simp[aN.l2])
     have h:=al.out;clear al;simp only[aN.l2]at h;obtain⟨cm,cy,bG,bU,c3,bY⟩:=fP bf.out;clear bf bY;injection bG with Z af ad;subst Z;subst ad;(try clear af);obtain⟨cn,cz,bK,cL,c4,bZ⟩:=fP a_.out;clear a_ bZ;injection bK with Z af ad;subst Z;subst ad;(try clear af);obtain⟨co,cA,bL,cM,c5,b4⟩:=fP bb.out;clear bb b4;injection bL with Z af ad;subst Z;subst ad;(try clear af);obtain⟨cr,cB,bN,cP,c6,b5⟩:=fP bc.out;clear bc b5;injection bN with Z af ad;subst Z;subst ad;(try clear af);have cK:aM (Kd.int .i64) wr _ t1:=⟨(Kd.cp bU.out).2.2⟩;have bz:=aQ.mk av.out;clear av;have a2:From w wr:=⟨am.out⟩;have bd:Sz w wr:=⟨am.out.size⟩;clear am
     ((try(first|((with_reducible replace h:=bq h);rcases h with ⟨hc,h⟩|⟨hc,h⟩<;>first|exact(bh h).elim|exact absurd (aC h) (by decide)|exact absurd hc (by decide)|(have hd:(_==(_:Int))=true:=aV hc;have he:(_ != (_:Int))=false:=aW hc;clear hc)|subst hc|(replace hc:=aD hc;subst hc)|(replace hc:=bH hc;subst hc)|(replace hc:=bJ hc;subst hc)|(have hd:(_==_)=true:=hc)|(have hd:(_==_)=false:=aD hc)|(have hd:=aD hc)|(have hd:=aV hc;have he:=aW hc;clear hc)|(have hd:=bo hc;have he:=bp hc)|(have hd:=ay hc)|(have hd:=ag hc;(try(have hn:=Int.natCast_pos.mp hc;have hm:=ag hn;replace hn:=ax hn));first|(have hz:=bE (by assumption) (by first|assumption|decide) hc;obtain⟨H,e_,c_⟩:=hz;cases e_)|(have hz:=bD (aM.out (self:=by assumption)) _ (by first|assumption|decide) hc;obtain⟨H,e_,z,D,F,G⟩:=hz;cases e_;replace z:=ak.mk z;replace D:=ak.mk D;replace F:=ak.mk F;replace G:=ak.mk G)|(have hz:=bD (aM.out (self:=by assumption)) _ hc (by assumption);obtain⟨H,e_,z,D,F,G⟩:=hz;cases e_;replace z:=ak.mk z;replace D:=ak.mk D;replace F:=ak.mk F;replace G:=ak.mk G))|(have hd:=ag hc)|skip)|((with_reducible have hj:aN.r _ _ _ _ _ _ _ _ _=_:=h);clear hj;unfold aN.r at h)|((with_reducible replace h:=bF h);obtain⟨I,h⟩:=h;replace I:=A_ I;(try dsimp only at h))));all_goals(try(first|((with_reducible replace h:=bq h);rcases h with ⟨hc,h⟩|⟨hc,h⟩<;>first|exact(bh h).elim|exact absurd (aC h) (by decide)|exact absurd hc (by decide)|(have hd:(_==(_:Int))=true:=aV hc;have he:(_ != (_:Int))=false:=aW hc;clear hc)|subst hc|(replace hc:=aD hc;subst hc)|(replace hc:=bH hc;subst hc)|(replace hc:=bJ hc;subst hc)|(have hd:(_==_)=true:=hc)|(have hd:(_==_)=false:=aD hc)|(have hd:=aD hc)|(have hd:=aV hc;have he:=aW hc;clear hc)|(have hd:=bo hc;have he:=bp hc)|(have hd:=ay hc)|(have hd:=ag hc;(try(have hn:=Int.natCast_pos.mp hc;have hm:=ag hn;replace hn:=ax hn));first|(have hz:=bE (by assumption) (by first|assumption|decide) hc;obtain⟨H,e_,c_⟩:=hz;cases e_)|(have hz:=bD (aM.out (self:=by assumption)) _ (by first|assumption|decide) hc;obtain⟨H,e_,z,D,F,G⟩:=hz;cases e_;replace z:=ak.mk z;replace D:=ak.mk D;replace F:=ak.mk F;replace G:=ak.mk G)|(have hz:=bD (aM.out (self:=by assumption)) _ hc (by assumption);obtain⟨H,e_,z,D,F,G⟩:=hz;cases e_;replace z:=ak.mk z;replace D:=ak.mk D;replace F:=ak.mk F;replace G:=ak.mk G))|(have hd:=ag hc)|skip)|((with_reducible have hj:aN.r _ _ _ _ _ _ _ _ _=_:=h);clear hj;unfold aN.r at h)|((with_reducible replace h:=bF h);obtain⟨I,h⟩:=h;replace I:=A_ I;(try dsimp only at h))));all_goals(try(first|((with_reducible replace h:=bq h);rcases h with ⟨hc,h⟩|⟨hc,h⟩<;>first|exact(bh h).elim|exact absurd (aC h) (by decide)|exact absurd hc (by decide)|(have hd:(_==(_:Int))=true:=aV hc;have he:(_ != (_:Int))=false:=aW hc;clear hc)|subst hc|(replace hc:=aD hc;subst hc)|(replace hc:=bH hc;subst hc)|(replace hc:=bJ hc;subst hc)|(have hd:(_==_)=true:=hc)|(have hd:(_==_)=false:=aD hc)|(have hd:=aD hc)|(have hd:=aV hc;have he:=aW hc;clear hc)|(have hd:=bo hc;have he:=bp hc)|(have hd:=ay hc)|(have hd:=ag hc;(try(have hn:=Int.natCast_pos.mp hc;have hm:=ag hn;replace hn:=ax hn));first|(have hz:=bE (by assumption) (by first|assumption|decide) hc;obtain⟨H,e_,c_⟩:=hz;cases e_)|(have hz:=bD (aM.out (self:=by assumption)) _ (by first|assumption|decide) hc;obtain⟨H,e_,z,D,F,G⟩:=hz;cases e_;replace z:=ak.mk z;replace D:=ak.mk D;replace F:=ak.mk F;replace G:=ak.mk G)|(have hz:=bD (aM.out (self:=by assumption)) _ hc (by assumption);obtain⟨H,e_,z,D,F,G⟩:=hz;cases e_;replace z:=ak.mk z;replace D:=ak.mk D;replace F:=ak.mk F;replace G:=ak.mk G))|(have hd:=ag hc)|skip)|((with_reducible have hj:aN.r _ _ _ _ _ _ _ _ _=_:=h);clear hj;unfold aN.r at h)|((with_reducible replace h:=bF h);obtain⟨I,h⟩:=h;replace I:=A_ I;(try dsimp only at h))));all_goals(try(first|((with_reducible replace h:=bq h);rcases h with ⟨hc,h⟩|⟨hc,h⟩<;>first|exact(bh h).elim|exact absurd (aC h) (by decide)|exact absurd hc (by decide)|(have hd:(_==(_:Int))=true:=aV hc;have he:(_ != (_:Int))=false:=aW hc;clear hc)|subst hc|(replace hc:=aD hc;subst hc)|(replace hc:=bH hc;subst hc)|(replace hc:=bJ hc;subst hc)|(have hd:(_==_)=true:=hc)|(have hd:(_==_)=false:=aD hc)|(have hd:=aD hc)|(have hd:=aV hc;have he:=aW hc;clear hc)|(have hd:=bo hc;have he:=bp hc)|(have hd:=ay hc)|(have hd:=ag hc;(try(have hn:=Int.natCast_pos.mp hc;have hm:=ag hn;replace hn:=ax hn));first|(have hz:=bE (by assumption) (by first|assumption|decide) hc;obtain⟨H,e_,c_⟩:=hz;cases e_)|(have hz:=bD (aM.out (self:=by assumption)) _ (by first|assumption|decide) hc;obtain⟨H,e_,z,D,F,G⟩:=hz;cases e_;replace z:=ak.mk z;replace D:=ak.mk D;replace F:=ak.mk F;replace G:=ak.mk G)|(have hz:=bD (aM.out (self:=by assumption)) _ hc (by assumption);obtain⟨H,e_,z,D,F,G⟩:=hz;cases e_;replace z:=ak.mk z;replace D:=ak.mk D;replace F:=ak.mk F;replace G:=ak.mk G))|(have hd:=ag hc)|skip)|((with_reducible have hj:aN.r _ _ _ _ _ _ _ _ _=_:=h);clear hj;unfold aN.r at h)|((with_reducible replace h:=bF h);obtain⟨I,h⟩:=h;replace I:=A_ I;(try dsimp only at h)))))
     all_goals go_wp2_with ((first
        |(go_at_call 40;replace h:=bI h;obtain⟨t,A,h⟩:=h;(try dsimp only at h);refine(ft.c _ _ _ _ _ _ _ _ _ _ _ _ _ _ _ _ Rd.out aj.out Rd.out aj.out Rd.out aj.out A).mono ?_;rintro e w2 ⟨rfl,hb⟩;have X:=aw.mk hb;clear A hb;((try(first|((with_reducible replace h:=bq h);rcases h with ⟨hc,h⟩|⟨hc,h⟩<;>first|exact(bh h).elim|exact absurd (aC h) (by decide)|exact absurd hc (by decide)|(have hd:(_==(_:Int))=true:=aV hc;have he:(_ != (_:Int))=false:=aW hc;clear hc)|subst hc|(replace hc:=aD hc;subst hc)|(replace hc:=bH hc;subst hc)|(replace hc:=bJ hc;subst hc)|(have hd:(_==_)=true:=hc)|(have hd:(_==_)=false:=aD hc)|(have hd:=aD hc)|(have hd:=aV hc;have he:=aW hc;clear hc)|(have hd:=bo hc;have he:=bp hc)|(have hd:=ay hc)|(have hd:=ag hc;(try(have hn:=Int.natCast_pos.mp hc;have hm:=ag hn;replace hn:=ax hn));first|(have hz:=bE (by assumption) (by first|assumption|decide) hc;obtain⟨H,e_,c_⟩:=hz;cases e_)|(have hz:=bD (aM.out (self:=by assumption)) _ (by first|assumption|decide) hc;obtain⟨H,e_,z,D,F,G⟩:=hz;cases e_;replace z:=ak.mk z;replace D:=ak.mk D;replace F:=ak.mk F;replace G:=ak.mk G)|(have hz:=bD (aM.out (self:=by assumption)) _ hc (by assumption);obtain⟨H,e_,z,D,F,G⟩:=hz;cases e_;replace z:=ak.mk z;replace D:=ak.mk D;replace F:=ak.mk F;replace G:=ak.mk G))|(have hd:=ag hc)|skip)|((with_reducible have hj:aN.r _ _ _ _ _ _ _ _ _=_:=h);clear hj;unfold aN.r at h)|((with_reducible replace h:=bF h);obtain⟨I,h⟩:=h;replace I:=A_ I;(try dsimp only at h))));all_goals(try(first|((with_reducible replace h:=bq h);rcases h with ⟨hc,h⟩|⟨hc,h⟩<;>first|exact(bh h).elim|exact absurd (aC h) (by decide)|exact absurd hc (by decide)|(have hd:(_==(_:Int))=true:=aV hc;have he:(_ != (_:Int))=false:=aW hc;clear hc)|subst hc|(replace hc:=aD hc;subst hc)|(replace hc:=bH hc;subst hc)|(replace hc:=bJ hc;subst hc)|(have hd:(_==_)=true:=hc)|(have hd:(_==_)=false:=aD hc)|(have hd:=aD hc)|(have hd:=aV hc;have he:=aW hc;clear hc)|(have hd:=bo hc;have he:=bp hc)|(have hd:=ay hc)|(have hd:=ag hc;(try(have hn:=Int.natCast_pos.mp hc;have hm:=ag hn;replace hn:=ax hn));first|(have hz:=bE (by assumption) (by first|assumption|decide) hc;obtain⟨H,e_,c_⟩:=hz;cases e_)|(have hz:=bD (aM.out (self:=by assumption)) _ (by first|assumption|decide) hc;obtain⟨H,e_,z,D,F,G⟩:=hz;cases e_;replace z:=ak.mk z;replace D:=ak.mk D;replace F:=ak.mk F;replace G:=ak.mk G)|(have hz:=bD (aM.out (self:=by assumption)) _ hc (by assumption);obtain⟨H,e_,z,D,F,G⟩:=hz;cases e_;replace z:=ak.mk z;replace D:=ak.mk D;replace F:=ak.mk F;replace G:=ak.mk G))|(have hd:=ag hc)|skip)|((with_reducible have hj:aN.r _ _ _ _ _ _ _ _ _=_:=h);clear hj;unfold aN.r at h)|((with_reducible replace h:=bF h);obtain⟨I,h⟩:=h;replace I:=A_ I;(try dsimp only at h))));all_goals(try(first|((with_reducible replace h:=bq h);rcases h with ⟨hc,h⟩|⟨hc,h⟩<;>first|exact(bh h).elim|exact absurd (aC h) (by decide)|exact absurd hc (by decide)|(have hd:(_==(_:Int))=true:=aV hc;have he:(_ != (_:Int))=false:=aW hc;clear hc)|subst hc|(replace hc:=aD hc;subst hc)|(replace hc:=bH hc;subst hc)|(replace hc:=bJ hc;subst hc)|(have hd:(_==_)=true:=hc)|(have hd:(_==_)=false:=aD hc)|(have hd:=aD hc)|(have hd:=aV hc;have he:=aW hc;clear hc)|(have hd:=bo hc;have he:=bp hc)|(have hd:=ay hc)|(have hd:=ag hc;(try(have hn:=Int.natCast_pos.mp hc;have hm:=ag hn;replace hn:=ax hn));first|(have hz:=bE (by assumption) (by first|assumption|decide) hc;obtain⟨H,e_,c_⟩:=hz;cases e_)|(have hz:=bD (aM.out (self:=by assumption)) _ (by first|assumption|decide) hc;obtain⟨H,e_,z,D,F,G⟩:=hz;cases e_;replace z:=ak.mk z;replace D:=ak.mk D;replace F:=ak.mk F;replace G:=ak.mk G)|(have hz:=bD (aM.out (self:=by assumption)) _ hc (by assumption);obtain⟨H,e_,z,D,F,G⟩:=hz;cases e_;replace z:=ak.mk z;replace D:=ak.mk D;replace F:=ak.mk F;replace G:=ak.mk G))|(have hd:=ag hc)|skip)|((with_reducible have hj:aN.r _ _ _ _ _ _ _ _ _=_:=h);clear hj;unfold aN.r at h)|((with_reducible replace h:=bF h);obtain⟨I,h⟩:=h;replace I:=A_ I;(try dsimp only at h))));all_goals(try(first|((with_reducible replace h:=bq h);rcases h with ⟨hc,h⟩|⟨hc,h⟩<;>first|exact(bh h).elim|exact absurd (aC h) (by decide)|exact absurd hc (by decide)|(have hd:(_==(_:Int))=true:=aV hc;have he:(_ != (_:Int))=false:=aW hc;clear hc)|subst hc|(replace hc:=aD hc;subst hc)|(replace hc:=bH hc;subst hc)|(replace hc:=bJ hc;subst hc)|(have hd:(_==_)=true:=hc)|(have hd:(_==_)=false:=aD hc)|(have hd:=aD hc)|(have hd:=aV hc;have he:=aW hc;clear hc)|(have hd:=bo hc;have he:=bp hc)|(have hd:=ay hc)|(have hd:=ag hc;(try(have hn:=Int.natCast_pos.mp hc;have hm:=ag hn;replace hn:=ax hn));first|(have hz:=bE (by assumption) (by first|assumption|decide) hc;obtain⟨H,e_,c_⟩:=hz;cases e_)|(have hz:=bD (aM.out (self:=by assumption)) _ (by first|assumption|decide) hc;obtain⟨H,e_,z,D,F,G⟩:=hz;cases e_;replace z:=ak.mk z;replace D:=ak.mk D;replace F:=ak.mk F;replace G:=ak.mk G)|(have hz:=bD (aM.out (self:=by assumption)) _ hc (by assumption);obtain⟨H,e_,z,D,F,G⟩:=hz;cases e_;replace z:=ak.mk z;replace D:=ak.mk D;replace F:=ak.mk F;replace G:=ak.mk G))|(have hd:=ag hc)|skip)|((with_reducible have hj:aN.r _ _ _ _ _ _ _ _ _=_:=h);clear hj;unfold aN.r at h)|((with_reducible replace h:=bF h);obtain⟨I,h⟩:=h;replace I:=A_ I;(try dsimp only at h))))))
        |(go_at_call 41;replace h:=bI h;obtain⟨t,A,h⟩:=h;(try dsimp only at h);refine(ib.c _ _ _ _ _ _ _ Rd.out aj.out A).mono ?_;rintro e w2 ⟨rfl,hb⟩;have X:=aw.mk hb;clear A hb;((try(first|((with_reducible replace h:=bq h);rcases h with ⟨hc,h⟩|⟨hc,h⟩<;>first|exact(bh h).elim|exact absurd (aC h) (by decide)|exact absurd hc (by decide)|(have hd:(_==(_:Int))=true:=aV hc;have he:(_ != (_:Int))=false:=aW hc;clear hc)|subst hc|(replace hc:=aD hc;subst hc)|(replace hc:=bH hc;subst hc)|(replace hc:=bJ hc;subst hc)|(have hd:(_==_)=true:=hc)|(have hd:(_==_)=false:=aD hc)|(have hd:=aD hc)|(have hd:=aV hc;have he:=aW hc;clear hc)|(have hd:=bo hc;have he:=bp hc)|(have hd:=ay hc)|(have hd:=ag hc;(try(have hn:=Int.natCast_pos.mp hc;have hm:=ag hn;replace hn:=ax hn));first|(have hz:=bE (by assumption) (by first|assumption|decide) hc;obtain⟨H,e_,c_⟩:=hz;cases e_)|(have hz:=bD (aM.out (self:=by assumption)) _ (by first|assumption|decide) hc;obtain⟨H,e_,z,D,F,G⟩:=hz;cases e_;replace z:=ak.mk z;replace D:=ak.mk D;replace F:=ak.mk F;replace G:=ak.mk G)|(have hz:=bD (aM.out (self:=by assumption)) _ hc (by assumption);obtain⟨H,e_,z,D,F,G⟩:=hz;cases e_;replace z:=ak.mk z;replace D:=ak.mk D;replace F:=ak.mk F;replace G:=ak.mk G))|(have hd:=ag hc)|skip)|((with_reducible have hj:aN.r _ _ _ _ _ _ _ _ _=_:=h);clear hj;unfold aN.r at h)|((with_reducible replace h:=bF h);obtain⟨I,h⟩:=h;replace I:=A_ I;(try dsimp only at h))));all_goals(try(first|((with_reducible replace h:=bq h);rcases h with ⟨hc,h⟩|⟨hc,h⟩<;>first|exact(bh h).elim|exact absurd (aC h) (by decide)|exact absurd hc (by decide)|(have hd:(_==(_:Int))=true:=aV hc;have he:(_ != (_:Int))=false:=aW hc;clear hc)|subst hc|(replace hc:=aD hc;subst hc)|(replace hc:=bH hc;subst hc)|(replace hc:=bJ hc;subst hc)|(have hd:(_==_)=true:=hc)|(have hd:(_==_)=false:=aD hc)|(have hd:=aD hc)|(have hd:=aV hc;have he:=aW hc;clear hc)|(have hd:=bo hc;have he:=bp hc)|(have hd:=ay hc)|(have hd:=ag hc;(try(have hn:=Int.natCast_pos.mp hc;have hm:=ag hn;replace hn:=ax hn));first|(have hz:=bE (by assumption) (by first|assumption|decide) hc;obtain⟨H,e_,c_⟩:=hz;cases e_)|(have hz:=bD (aM.out (self:=by assumption)) _ (by first|assumption|decide) hc;obtain⟨H,e_,z,D,F,G⟩:=hz;cases e_;replace z:=ak.mk z;replace D:=ak.mk D;replace F:=ak.mk F;replace G:=ak.mk G)|(have hz:=bD (aM.out (self:=by assumption)) _ hc (by assumption);obtain⟨H,e_,z,D,F,G⟩:=hz;cases e_;replace z:=ak.mk z;replace D:=ak.mk D;replace F:=ak.mk F;replace G:=ak.mk G))|(have hd:=ag hc)|skip)|((with_reducible have hj:aN.r _ _ _ _ _ _ _ _ _=_:=h);clear hj;unfold aN.r at h)|((with_reducible replace h:=bF h);obtain⟨I,h⟩:=h;replace I:=A_ I;(try dsimp only at h))));all_goals(try(first|((with_reducible replace h:=bq h);rcases h with ⟨hc,h⟩|⟨hc,h⟩<;>first|exact(bh h).elim|exact absurd (aC h) (by decide)|exact absurd hc (by decide)|(have hd:(_==(_:Int))=true:=aV hc;have he:(_ != (_:Int))=false:=aW hc;clear hc)|subst hc|(replace hc:=aD hc;subst hc)|(replace hc:=bH hc;subst hc)|(replace hc:=bJ hc;subst hc)|(have hd:(_==_)=true:=hc)|(have hd:(_==_)=false:=aD hc)|(have hd:=aD hc)|(have hd:=aV hc;have he:=aW hc;clear hc)|(have hd:=bo hc;have he:=bp hc)|(have hd:=ay hc)|(have hd:=ag hc;(try(have hn:=Int.natCast_pos.mp hc;have hm:=ag hn;replace hn:=ax hn));first|(have hz:=bE (by assumption) (by first|assumption|decide) hc;obtain⟨H,e_,c_⟩:=hz;cases e_)|(have hz:=bD (aM.out (self:=by assumption)) _ (by first|assumption|decide) hc;obtain⟨H,e_,z,D,F,G⟩:=hz;cases e_;replace z:=ak.mk z;replace D:=ak.mk D;replace F:=ak.mk F;replace G:=ak.mk G)|(have hz:=bD (aM.out (self:=by assumption)) _ hc (by assumption);obtain⟨H,e_,z,D,F,G⟩:=hz;cases e_;replace z:=ak.mk z;replace D:=ak.mk D;replace F:=ak.mk F;replace G:=ak.mk G))|(have hd:=ag hc)|skip)|((with_reducible have hj:aN.r _ _ _ _ _ _ _ _ _=_:=h);clear hj;unfold aN.r at h)|((with_reducible replace h:=bF h);obtain⟨I,h⟩:=h;replace I:=A_ I;(try dsimp only at h))));all_goals(try(first|((with_reducible replace h:=bq h);rcases h with ⟨hc,h⟩|⟨hc,h⟩<;>first|exact(bh h).elim|exact absurd (aC h) (by decide)|exact absurd hc (by decide)|(have hd:(_==(_:Int))=true:=aV hc;have he:(_ != (_:Int))=false:=aW hc;clear hc)|subst hc|(replace hc:=aD hc;subst hc)|(replace hc:=bH hc;subst hc)|(replace hc:=bJ hc;subst hc)|(have hd:(_==_)=true:=hc)|(have hd:(_==_)=false:=aD hc)|(have hd:=aD hc)|(have hd:=aV hc;have he:=aW hc;clear hc)|(have hd:=bo hc;have he:=bp hc)|(have hd:=ay hc)|(have hd:=ag hc;(try(have hn:=Int.natCast_pos.mp hc;have hm:=ag hn;replace hn:=ax hn));first|(have hz:=bE (by assumption) (by first|assumption|decide) hc;obtain⟨H,e_,c_⟩:=hz;cases e_)|(have hz:=bD (aM.out (self:=by assumption)) _ (by first|assumption|decide) hc;obtain⟨H,e_,z,D,F,G⟩:=hz;cases e_;replace z:=ak.mk z;replace D:=ak.mk D;replace F:=ak.mk F;replace G:=ak.mk G)|(have hz:=bD (aM.out (self:=by assumption)) _ hc (by assumption);obtain⟨H,e_,z,D,F,G⟩:=hz;cases e_;replace z:=ak.mk z;replace D:=ak.mk D;replace F:=ak.mk F;replace G:=ak.mk G))|(have hd:=ag hc)|skip)|((with_reducible have hj:aN.r _ _ _ _ _ _ _ _ _=_:=h);clear hj;unfold aN.r at h)|((with_reducible replace h:=bF h);obtain⟨I,h⟩:=h;replace I:=A_ I;(try dsimp only at h))))))
        |((with_reducible refine mg (id:=28) ?_);intro w3 aI;first|(replace h:=bI h;obtain⟨u,A,h⟩:=h;(try dsimp only at h);((try(first|((with_reducible replace h:=bq h);rcases h with ⟨hc,h⟩|⟨hc,h⟩<;>first|exact(bh h).elim|exact absurd (aC h) (by decide)|exact absurd hc (by decide)|(have hd:(_==(_:Int))=true:=aV hc;have he:(_ != (_:Int))=false:=aW hc;clear hc)|subst hc|(replace hc:=aD hc;subst hc)|(replace hc:=bH hc;subst hc)|(replace hc:=bJ hc;subst hc)|(have hd:(_==_)=true:=hc)|(have hd:(_==_)=false:=aD hc)|(have hd:=aD hc)|(have hd:=aV hc;have he:=aW hc;clear hc)|(have hd:=bo hc;have he:=bp hc)|(have hd:=ay hc)|(have hd:=ag hc;(try(have hn:=Int.natCast_pos.mp hc;have hm:=ag hn;replace hn:=ax hn));first|(have hz:=bE (by assumption) (by first|assumption|decide) hc;obtain⟨H,e_,c_⟩:=hz;cases e_)|(have hz:=bD (aM.out (self:=by assumption)) _ (by first|assumption|decide) hc;obtain⟨H,e_,z,D,F,G⟩:=hz;cases e_;replace z:=ak.mk z;replace D:=ak.mk D;replace F:=ak.mk F;replace G:=ak.mk G)|(have hz:=bD (aM.out (self:=by assumption)) _ hc (by assumption);obtain⟨H,e_,z,D,F,G⟩:=hz;cases e_;replace z:=ak.mk z;replace D:=ak.mk D;replace F:=ak.mk F;replace G:=ak.mk G))|(have hd:=ag hc)|skip)|((with_reducible have hj:aN.r _ _ _ _ _ _ _ _ _=_:=h);clear hj;unfold aN.r at h)|((with_reducible replace h:=bF h);obtain⟨I,h⟩:=h;replace I:=A_ I;(try dsimp only at h))));all_goals(try(first|((with_reducible replace h:=bq h);rcases h with ⟨hc,h⟩|⟨hc,h⟩<;>first|exact(bh h).elim|exact absurd (aC h) (by decide)|exact absurd hc (by decide)|(have hd:(_==(_:Int))=true:=aV hc;have he:(_ != (_:Int))=false:=aW hc;clear hc)|subst hc|(replace hc:=aD hc;subst hc)|(replace hc:=bH hc;subst hc)|(replace hc:=bJ hc;subst hc)|(have hd:(_==_)=true:=hc)|(have hd:(_==_)=false:=aD hc)|(have hd:=aD hc)|(have hd:=aV hc;have he:=aW hc;clear hc)|(have hd:=bo hc;have he:=bp hc)|(have hd:=ay hc)|(have hd:=ag hc;(try(have hn:=Int.natCast_pos.mp hc;have hm:=ag hn;replace hn:=ax hn));first|(have hz:=bE (by assumption) (by first|assumption|decide) hc;obtain⟨H,e_,c_⟩:=hz;cases e_)|(have hz:=bD (aM.out (self:=by assumption)) _ (by first|assumption|decide) hc;obtain⟨H,e_,z,D,F,G⟩:=hz;cases e_;replace z:=ak.mk z;replace D:=ak.mk D;replace F:=ak.mk F;replace G:=ak.mk G)|(have hz:=bD (aM.out (self:=by assumption)) _ hc (by assumption);obtain⟨H,e_,z,D,F,G⟩:=hz;cases e_;replace z:=ak.mk z;replace D:=ak.mk D;replace F:=ak.mk F;replace G:=ak.mk G))|(have hd:=ag hc)|skip)|((with_reducible have hj:aN.r _ _ _ _ _ _ _ _ _=_:=h);clear hj;unfold aN.r at h)|((with_reducible replace h:=bF h);obtain⟨I,h⟩:=h;replace I:=A_ I;(try dsimp only at h))));all_goals(try(first|((with_reducible replace h:=bq h);rcases h with ⟨hc,h⟩|⟨hc,h⟩<;>first|exact(bh h).elim|exact absurd (aC h) (by decide)|exact absurd hc (by decide)|(have hd:(_==(_:Int))=true:=aV hc;have he:(_ != (_:Int))=false:=aW hc;clear hc)|subst hc|(replace hc:=aD hc;subst hc)|(replace hc:=bH hc;subst hc)|(replace hc:=bJ hc;subst hc)|(have hd:(_==_)=true:=hc)|(have hd:(_==_)=false:=aD hc)|(have hd:=aD hc)|(have hd:=aV hc;have he:=aW hc;clear hc)|(have hd:=bo hc;have he:=bp hc)|(have hd:=ay hc)|(have hd:=ag hc;(try(have hn:=Int.natCast_pos.mp hc;have hm:=ag hn;replace hn:=ax hn));first|(have hz:=bE (by assumption) (by first|assumption|decide) hc;obtain⟨H,e_,c_⟩:=hz;cases e_)|(have hz:=bD (aM.out (self:=by assumption)) _ (by first|assumption|decide) hc;obtain⟨H,e_,z,D,F,G⟩:=hz;cases e_;replace z:=ak.mk z;replace D:=ak.mk D;replace F:=ak.mk F;replace G:=ak.mk G)|(have hz:=bD (aM.out (self:=by assumption)) _ hc (by assumption);obtain⟨H,e_,z,D,F,G⟩:=hz;cases e_;replace z:=ak.mk z;replace D:=ak.mk D;replace F:=ak.mk F;replace G:=ak.mk G))|(have hd:=ag hc)|skip)|((with_reducible have hj:aN.r _ _ _ _ _ _ _ _ _=_:=h);clear hj;unfold aN.r at h)|((with_reducible replace h:=bF h);obtain⟨I,h⟩:=h;replace I:=A_ I;(try dsimp only at h))));all_goals(try(first|((with_reducible replace h:=bq h);rcases h with ⟨hc,h⟩|⟨hc,h⟩<;>first|exact(bh h).elim|exact absurd (aC h) (by decide)|exact absurd hc (by decide)|(have hd:(_==(_:Int))=true:=aV hc;have he:(_ != (_:Int))=false:=aW hc;clear hc)|subst hc|(replace hc:=aD hc;subst hc)|(replace hc:=bH hc;subst hc)|(replace hc:=bJ hc;subst hc)|(have hd:(_==_)=true:=hc)|(have hd:(_==_)=false:=aD hc)|(have hd:=aD hc)|(have hd:=aV hc;have he:=aW hc;clear hc)|(have hd:=bo hc;have he:=bp hc)|(have hd:=ay hc)|(have hd:=ag hc;(try(have hn:=Int.natCast_pos.mp hc;have hm:=ag hn;replace hn:=ax hn));first|(have hz:=bE (by assumption) (by first|assumption|decide) hc;obtain⟨H,e_,c_⟩:=hz;cases e_)|(have hz:=bD (aM.out (self:=by assumption)) _ (by first|assumption|decide) hc;obtain⟨H,e_,z,D,F,G⟩:=hz;cases e_;replace z:=ak.mk z;replace D:=ak.mk D;replace F:=ak.mk F;replace G:=ak.mk G)|(have hz:=bD (aM.out (self:=by assumption)) _ hc (by assumption);obtain⟨H,e_,z,D,F,G⟩:=hz;cases e_;replace z:=ak.mk z;replace D:=ak.mk D;replace F:=ak.mk F;replace G:=ak.mk G))|(have hd:=ag hc)|skip)|((with_reducible have hj:aN.r _ _ _ _ _ _ _ _ _=_:=h);clear hj;unfold aN.r at h)|((with_reducible replace h:=bF h);obtain⟨I,h⟩:=h;replace I:=A_ I;(try dsimp only at h)))));go_quiet (first|(go_at_call 42;refine(kf.c _ _ _ _ A).mono ?_;rintro e w2 ⟨rfl,⟨nd,rfl⟩⟩;exact⟨rfl,_,World.drewN_drewN _ _ _⟩)))|go_quiet (fail)));((try(first|((with_reducible replace h:=bq h);rcases h with ⟨hc,h⟩|⟨hc,h⟩<;>first|exact(bh h).elim|exact absurd (aC h) (by decide)|exact absurd hc (by decide)|(have hd:(_==(_:Int))=true:=aV hc;have he:(_ != (_:Int))=false:=aW hc;clear hc)|subst hc|(replace hc:=aD hc;subst hc)|(replace hc:=bH hc;subst hc)|(replace hc:=bJ hc;subst hc)|(have hd:(_==_)=true:=hc)|(have hd:(_==_)=false:=aD hc)|(have hd:=aD hc)|(have hd:=aV hc;have he:=aW hc;clear hc)|(have hd:=bo hc;have he:=bp hc)|(have hd:=ay hc)|(have hd:=ag hc;(try(have hn:=Int.natCast_pos.mp hc;have hm:=ag hn;replace hn:=ax hn));first|(have hz:=bE (by assumption) (by first|assumption|decide) hc;obtain⟨H,e_,c_⟩:=hz;cases e_)|(have hz:=bD (aM.out (self:=by assumption)) _ (by first|assumption|decide) hc;obtain⟨H,e_,z,D,F,G⟩:=hz;cases e_;replace z:=ak.mk z;replace D:=ak.mk D;replace F:=ak.mk F;replace G:=ak.mk G)|(have hz:=bD (aM.out (self:=by assumption)) _ hc (by assumption);obtain⟨H,e_,z,D,F,G⟩:=hz;cases e_;replace z:=ak.mk z;replace D:=ak.mk D;replace F:=ak.mk F;replace G:=ak.mk G))|(have hd:=ag hc)|skip)|((with_reducible have hj:aN.r _ _ _ _ _ _ _ _ _=_:=h);clear hj;unfold aN.r at h)|((with_reducible replace h:=bF h);obtain⟨I,h⟩:=h;replace I:=A_ I;(try dsimp only at h))));all_goals(try(first|((with_reducible replace h:=bq h);rcases h with ⟨hc,h⟩|⟨hc,h⟩<;>first|exact(bh h).elim|exact absurd (aC h) (by decide)|exact absurd hc (by decide)|(have hd:(_==(_:Int))=true:=aV hc;have he:(_ != (_:Int))=false:=aW hc;clear hc)|subst hc|(replace hc:=aD hc;subst hc)|(replace hc:=bH hc;subst hc)|(replace hc:=bJ hc;subst hc)|(have hd:(_==_)=true:=hc)|(have hd:(_==_)=false:=aD hc)|(have hd:=aD hc)|(have hd:=aV hc;have he:=aW hc;clear hc)|(have hd:=bo hc;have he:=bp hc)|(have hd:=ay hc)|(have hd:=ag hc;(try(have hn:=Int.natCast_pos.mp hc;have hm:=ag hn;replace hn:=ax hn));first|(have hz:=bE (by assumption) (by first|assumption|decide) hc;obtain⟨H,e_,c_⟩:=hz;cases e_)|(have hz:=bD (aM.out (self:=by assumption)) _ (by first|assumption|decide) hc;obtain⟨H,e_,z,D,F,G⟩:=hz;cases e_;replace z:=ak.mk z;replace D:=ak.mk D;replace F:=ak.mk F;replace G:=ak.mk G)|(have hz:=bD (aM.out (self:=by assumption)) _ hc (by assumption);obtain⟨H,e_,z,D,F,G⟩:=hz;cases e_;replace z:=ak.mk z;replace D:=ak.mk D;replace F:=ak.mk F;replace G:=ak.mk G))|(have hd:=ag hc)|skip)|((with_reducible have hj:aN.r _ _ _ _ _ _ _ _ _=_:=h);clear hj;unfold aN.r at h)|((with_reducible replace h:=bF h);obtain⟨I,h⟩:=h;replace I:=A_ I;(try dsimp only at h))));all_goals(try(first|((with_reducible replace h:=bq h);rcases h with ⟨hc,h⟩|⟨hc,h⟩<;>first|exact(bh h).elim|exact absurd (aC h) (by decide)|exact absurd hc (by decide)|(have hd:(_==(_:Int))=true:=aV hc;have he:(_ != (_:Int))=false:=aW hc;clear hc)|subst hc|(replace hc:=aD hc;subst hc)|(replace hc:=bH hc;subst hc)|(replace hc:=bJ hc;subst hc)|(have hd:(_==_)=true:=hc)|(have hd:(_==_)=false:=aD hc)|(have hd:=aD hc)|(have hd:=aV hc;have he:=aW hc;clear hc)|(have hd:=bo hc;have he:=bp hc)|(have hd:=ay hc)|(have hd:=ag hc;(try(have hn:=Int.natCast_pos.mp hc;have hm:=ag hn;replace hn:=ax hn));first|(have hz:=bE (by assumption) (by first|assumption|decide) hc;obtain⟨H,e_,c_⟩:=hz;cases e_)|(have hz:=bD (aM.out (self:=by assumption)) _ (by first|assumption|decide) hc;obtain⟨H,e_,z,D,F,G⟩:=hz;cases e_;replace z:=ak.mk z;replace D:=ak.mk D;replace F:=ak.mk F;replace G:=ak.mk G)|(have hz:=bD (aM.out (self:=by assumption)) _ hc (by assumption);obtain⟨H,e_,z,D,F,G⟩:=hz;cases e_;replace z:=ak.mk z;replace D:=ak.mk D;replace F:=ak.mk F;replace G:=ak.mk G))|(have hd:=ag hc)|skip)|((with_reducible have hj:aN.r _ _ _ _ _ _ _ _ _=_:=h);clear hj;unfold aN.r at h)|((with_reducible replace h:=bF h);obtain⟨I,h⟩:=h;replace I:=A_ I;(try dsimp only at h))));all_goals(try(first|((with_reducible replace h:=bq h);rcases h with ⟨hc,h⟩|⟨hc,h⟩<;>first|exact(bh h).elim|exact absurd (aC h) (by decide)|exact absurd hc (by decide)|(have hd:(_==(_:Int))=true:=aV hc;have he:(_ != (_:Int))=false:=aW hc;clear hc)|subst hc|(replace hc:=aD hc;subst hc)|(replace hc:=bH hc;subst hc)|(replace hc:=bJ hc;subst hc)|(have hd:(_==_)=true:=hc)|(have hd:(_==_)=false:=aD hc)|(have hd:=aD hc)|(have hd:=aV hc;have he:=aW hc;clear hc)|(have hd:=bo hc;have he:=bp hc)|(have hd:=ay hc)|(have hd:=ag hc;(try(have hn:=Int.natCast_pos.mp hc;have hm:=ag hn;replace hn:=ax hn));first|(have hz:=bE (by assumption) (by first|assumption|decide) hc;obtain⟨H,e_,c_⟩:=hz;cases e_)|(have hz:=bD (aM.out (self:=by assumption)) _ (by first|assumption|decide) hc;obtain⟨H,e_,z,D,F,G⟩:=hz;cases e_;replace z:=ak.mk z;replace D:=ak.mk D;replace F:=ak.mk F;replace G:=ak.mk G)|(have hz:=bD (aM.out (self:=by assumption)) _ hc (by assumption);obtain⟨H,e_,z,D,F,G⟩:=hz;cases e_;replace z:=ak.mk z;replace D:=ak.mk D;replace F:=ak.mk F;replace G:=ak.mk G))|(have hd:=ag hc)|skip)|((with_reducible have hj:aN.r _ _ _ _ _ _ _ _ _=_:=h);clear hj;unfold aN.r at h)|((with_reducible replace h:=bF h);obtain⟨I,h⟩:=h;replace I:=A_ I;(try dsimp only at h))))))
     all_goals first
      |(go_roundg k3;(case measure=>have:=a5.out;omega);(case rel=>exact⟨_,(by first|rfl|(simp;done)|(simp;unfold wrap64;omega)),⟨h⟩,⟨by have:=a5.out;omega⟩,⟨by first|exact bj|exact bM|exact cO rfl|exact dJ rfl⟩,⟨by first|exact bj|exact bM|exact cO rfl|exact dJ rfl⟩,⟨by first|exact bj|exact bM|exact cO rfl|exact dJ rfl⟩,⟨by first|exact bj|exact bM|exact cO rfl|exact dJ rfl⟩,⟨aQ.out⟩,⟨From.out⟩⟩))
      |(go_ret;exact⟨rfl,From.out⟩)
   )
end P
namespace Q
open Go.RowKit P WW.bk WW.b6
theorem wA (a:Int):eZ.f a=some (decide (-10≤a∧a≤40)):=by unfold eZ.f;rw[gX];rfl
theorem jL (p:List ai) (d:Int) (q:List Int) (a m:Int) (l:List ah) (hl:l.length≤1048577):Ev (fun k=>eA.f k p d q a m l) (cE p d q a m l):=Ev.now _
theorem jM (p:List ai) (d:Int) (q:List Int) (a m:Int) (l:List ah) (hl:l.length≤1048577):Ev (fun k=>a7.f k p d q a m l) (cE p d q a m l):=Ev.bind (nD p d q) (Ev.now _)
def fx (p:List ai) (d:Int) (q:List Int) (a m:Int) (l:List ah) (x:Int):List ai×Int×List Int×Int×Int×List ah×Bool:=
  if cE p d q a m l=true∧m≠100000∧(-10≤x∧x≤40)then(p,d,q,x,m+1,l,true)else(p,d,q,a,m,l,false)
theorem rM {l:List ah} {m n:Int} (h:ic l m) (hm:m≤n):ic l n:=by
  rcases h with h|h
  · exact .inl h
  · exact .inr (by omega)
theorem yO (p:List ai) (d:Int) (q:List Int) (a m:Int) (l:List ah) (x:Int) (hp:p.length≤4000000) (hq:q.length≤4000000) (hl:l.length≤1048576):Ev (fun k=>ld.f k p d q a m l x) (fx p d q a m l x):=by
  unfold ld.f fx;refine aX (kU p d q a m l hp hq (by omega)) (Ev.bind (jL p d q a m l (by omega)) ?_);by_cases h:cE p d q a m l=true;rotate_left
  · exact br (fun h2=>h h2.1)<|aI h (aX (kU p d q a m l hp hq (by omega)) (Ev.now _))
  obtain⟨h1,h2,h3,h4,h5⟩:=il.1 h;rw[bW (n:=m+1) (by omega) (by omega)];refine ar h (Ev.bind (jL p d q x (m+1) l (by omega)) ?_);by_cases h6:m≠100000∧(-10≤x∧x≤40)
  · exact bK ⟨h,h6⟩<|ar (il.2 ⟨h1,h2,h6.2,by omega,rM h5 (by omega)⟩) (Ev.now _)
  · refine br (fun h7=>h6 h7.2)<|aI (fun h7=> ?_) (aX (kU p d q a m l hp hq (by omega)) (Ev.now _));obtain⟨g1,g2,g3,g4,g5⟩:=il.1 h7;exact h6 ⟨by omega,g3⟩
theorem tv (p:List ai) (d:Int) (q:List Int) (a m:Int) (l:List ah) (x:Int) (hp:p.length≤4000000) (hq:q.length≤4000000) (hl:l.length≤1048576):Ev (fun k=>jd.f k p d q a m l x) (fx p d q a m l x):=by
  unfold jd.f fx;refine aX (km p d q a m l hp hq (by omega)) (Ev.bind (jM p d q a m l (by omega)) ?_);by_cases h:cE p d q a m l=true;rotate_left
  · exact br (fun h2=>h h2.1)<|aI h (aX (km p d q a m l hp hq (by omega)) (Ev.now _))
  obtain⟨h1,h2,h3,h4,h5⟩:=il.1 h;refine ar h ?_;by_cases h8:m=100000
  · exact br (fun h7=>h7.2.1 h8)<|ar h8 (aX (km p d q a m l hp hq (by omega)) (Ev.now _))
  refine aI h8 (Ev.bind (jM p d q x m l (by omega)) ?_);by_cases h6: -10≤x∧x≤40
  · rw[bW (n:=m+1) (by omega) (by omega)];exact bK ⟨h,h8,h6⟩<|ar (il.2 ⟨h1,h2,h6,h4,h5⟩) (Ev.now _)
  · refine br (fun h7=>h6 h7.2.2)<|aI (fun h7=> ?_) (aX (km p d q a m l hp hq (by omega)) (Ev.now _));exact h6 (il.1 h7).2.2.1
def fu (p:List ai) (d:Int) (q:List Int) (a m:Int) (l:List ah) (r n f:Int):List ai×Int×List Int×Int×Int×List ah×Bool:=
  if cE p d q a m l=true∧(addEntry l r n f m).2=true then(p,d,q,a,m,(addEntry l r n f m).1,true)else(p,d,q,a,m,l,false)
theorem yx (p:List ai) (d:Int) (q:List Int) (a m:Int) (l:List ah) (r n f:Int) (hp:p.length≤4000000) (hq:q.length≤4000000) (hl:l.length≤1048576):Ev (fun k=>k8.f k p d q a m l r n f) (fu p d q a m l r n f):=by
  unfold k8.f fu;refine aX (kU p d q a m l hp hq (by omega)) (Ev.bind (jL p d q a m l (by omega)) ?_);by_cases h:cE p d q a m l=true;rotate_left
  · exact br (fun h2=>h h2.1)<|aI h (Ev.now _)
  refine ar h (Ev.bind (qO l r n f m hl) ?_);by_cases h2:(addEntry l r n f m).2=true
  · exact bK ⟨h,h2⟩<|ar h2 (Ev.now _)
  · exact br (fun h3=>h2 h3.2)<|aI h2 (Ev.now _)
theorem s6 (p:List ai) (d:Int) (q:List Int) (a m:Int) (l:List ah) (r n f:Int) (hp:p.length≤4000000) (hq:q.length≤4000000) (hl:l.length≤1048576):Ev (fun k=>iZ.f k p d q a m l r n f) (fu p d q a m l r n f):=by
  unfold iZ.f fu;refine aX (km p d q a m l hp hq (by omega)) (Ev.bind (qQ l r n f m hl) (Ev.bind (jM p d q a m l (by omega)) ?_));by_cases h:cE p d q a m l=true;rotate_left
  · exact br (fun h2=>h h2.1)<|aI h (Ev.now _)
  refine ar h ?_;by_cases h2:(addEntry l r n f m).2=true
  · exact bK ⟨h,h2⟩<|ar h2 (Ev.now _)
  · exact br (fun h3=>h2 h3.2)<|aI h2 (Ev.now _)
def fw (p:List ai) (d:Int) (q:List Int) (a m:Int) (l:List ah) (c x:Int):List ai×Int×List Int×Int×Int×List ah×Bool:=
  if cE p d q a m l=true then((gw p d q c x).1,(gw p d q c x).2.1,(gw p d q c x).2.2.1,a,m,l,(gw p d q c x).2.2.2)else(p,d,q,a,m,l,false)
theorem yC (p:List ai) (d:Int) (q:List Int) (a m:Int) (l:List ah) (c x:Int) (hp:p.length≤4000000) (hq:q.length≤4000000) (hl:l.length≤1048576):Ev (fun k=>k9.f k p d q a m l c x) (fw p d q a m l c x):=by
  unfold k9.f fw;refine aX (kU p d q a m l hp hq (by omega)) (Ev.bind (jL p d q a m l (by omega)) ?_);by_cases h:cE p d q a m l=true
  · exact bK h<|ar h (Ev.bind (wM p d q c x hp hq) (Ev.now _))
  · exact br h<|aI h (Ev.now _)
theorem s8 (p:List ai) (d:Int) (q:List Int) (a m:Int) (l:List ah) (c x:Int) (hp:p.length≤4000000) (hq:q.length≤4000000) (hl:l.length≤1048576):Ev (fun k=>ja.f k p d q a m l c x) (fw p d q a m l c x):=by
  unfold ja.f fw;refine aX (km p d q a m l hp hq (by omega)) (Ev.bind (jM p d q a m l (by omega)) ?_);by_cases h:cE p d q a m l=true
  · exact bK h<|ar h (Ev.bind (wN p d q c x hp hq) (Ev.now _))
  · exact br h<|aI h (Ev.now _)
theorem xa (p:List ai) (d:Int) (q:List Int) (h:¬(iH p d q).2.2.2=true):iH p d q=(p,d,q,false):=by
  unfold iH at h ⊢
  split
  · rfl
  · split
    · rfl
    · rename_i h2 h3;rw[h2]at h;simp only[au h3]at h;exact absurd trivial h
theorem zj (p:List ai) (d:Int) (q:List Int) (h:¬(gY p d q).2.2.2=true):gY p d q=(p,d,q,false):=by
  unfold gY at h ⊢
  split
  · rename_i h1
    rw[aq h1]at h
    split
    · rfl
    · rename_i h2
      rw[au h2]at h
      split
      · rfl
      · rename_i h3;rw[au h3]at h;exact absurd rfl h
  · rfl
def gI (p:List ai) (d:Int) (q:List Int):List ai×Int×List Int×Bool:=if(((gi p d q).length:Nat):Int)>0 then iH p d q else gY p d q
def fc (p:List ai) (d:Int) (q:List Int) (a m:Int) (l:List ah):List ai×Int×List Int×Int×Int×List ah×Bool:=
  if cE p d q a m l=true then((gI p d q).1,(gI p d q).2.1,(gI p d q).2.2.1,a,m,l,(gI p d q).2.2.2)else(p,d,q,a,m,l,false)
theorem tk (p:List ai) (d:Int) (q:List Int) (a m:Int) (l:List ah) (hp:p.length≤4000000) (hq:q.length≤4000000) (hl:l.length≤1048576):Ev (fun k=>jC.f k p d q a m l) (fc p d q a m l):=by
  unfold jC.f fc gI;refine aX (kU p d q a m l hp hq (by omega)) (Ev.bind (jL p d q a m l (by omega)) ?_);by_cases h:cE p d q a m l=true;rotate_left
  · exact br h<|aI h (Ev.now _)
  refine bK h<|ar h (Ev.bind (yL p d q hp hq) (Ev.bind (qj p d q) ?_));by_cases h2:(((gi p d q).length:Nat):Int)>0
  · simp only[aq h2];refine Ev.bind (xb p d q hp hq) ?_;by_cases h3:(iH p d q).2.2.2=true
    · exact ar h3 (evs (by rw[h3]))
    · exact aI h3 (evs (by rw[xa p d q h3]))
  · simp only[au h2];by_cases h3:(gY p d q).2.2.2=true
    · exact ar h3 (evs (by rw[h3]))
    · exact aI h3 (evs (by rw[zj p d q h3]))
theorem tq (p:List ai) (d:Int) (q:List Int) (a m:Int) (l:List ah) (hp:p.length≤4000000) (hq:q.length≤4000000) (hl:l.length≤1048576):Ev (fun k=>jc.f k p d q a m l) (fc p d q a m l):=by
  unfold jc.f fc gI;refine aX (km p d q a m l hp hq (by omega)) (Ev.bind (jM p d q a m l (by omega)) ?_);by_cases h:cE p d q a m l=true;rotate_left
  · exact br h<|aI h (Ev.now _)
  refine bK h<|ar h (Ev.bind (ql p d q) ?_);by_cases h2:(((gi p d q).length:Nat):Int)>0
  · simp only[aq h2];exact Ev.bind (xc p d q hp hq) (Ev.now _)
  · simp only[au h2];exact Ev.bind (yM p d q hp hq) (Ev.now _)
structure cP (p:List ai) (d:Int) (q:List Int) (a m:Int) (l:List ah) (c:Nat):Prop where
  plan:dm p
  work:∃n:Nat,d=(n:Int)∧n≤p.length∧bR p (n:Int) q=true
  lo:200000-1000*(c:Int)≤q.getD 0 0
  hi:q.getD 0 0≤299999+1000*(c:Int)
  log:cI l=true
  last:ic l m
  lJ: -10≤a∧a≤40
  kn:0≤m∧m≤(c:Int)
  few:l.length≤c
section
variable {p:List ai} {d:Int} {q:List Int} {a m:Int} {l:List ah} {c:Nat}
theorem cP.ok (h:cP p d q a m l c) (hc:c≤45):cE p d q a m l=true:=by
  obtain⟨n,rfl,hn,hw⟩:=h.work;have:=h.kn;exact il.2 ⟨hw,h.log,h.lJ,by omega,h.last⟩
theorem cP.len (h:cP p d q a m l c):q.length=12:=by
  obtain⟨n,rfl,hn,hw⟩:=h.work;exact((lK h.plan n hn q).1 hw).1
theorem wT {l:List ah} (h:cI l=true):l.length≤30:=by
  unfold cI at h;simp only[Bool.and_eq_true,decide_eq_true_eq]at h;exact h.2
theorem cP.step (h:cP p d q a m l c):cP p d q a m l (c+1):=
  ⟨h.plan,h.work,by have:=h.lo;omega,by have:=h.hi;omega,h.log,h.last,h.lJ,by have:=h.kn;omega,by have:=h.few;omega⟩
theorem cP.tK (h:cP p d q a m l c) (x:Int):
    cP (fx p d q a m l x).1 (fx p d q a m l x).2.1 (fx p d q a m l x).2.2.1 (fx p d q a m l x).2.2.2.1 (fx p d q a m l x).2.2.2.2.1 (fx p d q a m l x).2.2.2.2.2.1 (c+1):=by
  unfold fx
  split
  · rename_i hc
    have:=h.kn;exact⟨h.plan,h.work,by have:=h.lo;dsimp only;omega,by have:=h.hi;dsimp only;omega,h.log,rM h.last (by dsimp only;omega),hc.2.2,by dsimp only;omega,by have:=h.few;dsimp only;omega⟩
  · exact h.step
theorem cP.ru (h:cP p d q a m l c) (r n f:Int):
    cP (fu p d q a m l r n f).1 (fu p d q a m l r n f).2.1 (fu p d q a m l r n f).2.2.1 (fu p d q a m l r n f).2.2.2.1 (fu p d q a m l r n f).2.2.2.2.1 (fu p d q a m l r n f).2.2.2.2.2.1 (c+1):=by
  unfold fu
  split
  · rename_i hc
    refine⟨h.plan,h.work,by have:=h.lo;dsimp only;omega,by have:=h.hi;dsimp only;omega,?_,?_,h.lJ,by have:=h.kn;dsimp only;omega,by have:=h.few;dsimp only;unfold addEntry;split<;>simp<;>omega⟩
    · have h2:=hc.2;unfold addEntry at h2 ⊢
      split
      · rename_i h3;exact h3.2
      · rename_i h3;rw[au h3]at h2;cases h2
    · have h2:=hc.2;unfold addEntry at h2 ⊢
      split
      · exact .inr (by simp[List.getD_eq_getElem?_getD,lU])
      · rename_i h3;rw[au h3]at h2;cases h2
  · exact h.step
theorem cP.iT (h:cP p d q a m l c) (k x:Int) (hx: -1000≤x∧x≤1000):
    cP (fw p d q a m l k x).1 (fw p d q a m l k x).2.1 (fw p d q a m l k x).2.2.1 (fw p d q a m l k x).2.2.2.1 (fw p d q a m l k x).2.2.2.2.1 (fw p d q a m l k x).2.2.2.2.2.1 (c+1):=by
  obtain⟨n,rfl,hn,hw⟩:=h.work;obtain⟨k1,k2,k3,k4,u⟩:=wL h.plan hn hw k x hx;unfold fw
  split
  · refine⟨by rw[k1];exact h.plan,⟨n,k2,by rw[k1];exact hn,by rw[k1];exact k3⟩,by have:=h.lo;dsimp only;omega,by have:=h.hi;dsimp only;omega,h.log,h.last,h.lJ,by have:=h.kn;dsimp only;omega,by have:=h.few;dsimp only;omega⟩
  · exact h.step
theorem pn (g:dm p) (q:List Int):∀i:Nat,i≤p.length→(∃j,j<i∧eJ p q j∧gb p q j=true)∨eJ p q i:=by
  intro i
  induction i with
  |zero=>exact fun _=> .inr (sU p q)
  |succ i ih=>
   intro hi;rcases ih (by omega)with ⟨j,h1,h2,h3⟩|h
   · exact .inl ⟨j,by omega,h2,h3⟩
   · by_cases hb:gb p q i=true
     · exact .inl ⟨i,by omega,h,hb⟩
     · exact .inr (ym g (by omega) h hb)
theorem y5 (g:dm p) {n:Nat} (hn:n≤p.length) (hw:bR p (n:Int) q=true) (hs:155000≤q.getD 0 0∧q.getD 0 0≤345000):
    (gI p (n:Int) q).1=p∧(∃n':Nat,(gI p (n:Int) q).2.1=(n':Int)∧n'≤p.length∧bR p (n':Int) (gI p (n:Int) q).2.2.1=true)∧(gI p (n:Int) q).2.2.1.getD 0 0=q.getD 0 0:=by
  unfold gI;rcases pn g q n hn with ⟨j,h1,h2,h3⟩|h
  · obtain⟨e,he⟩:∃e,n=j+(e+1):=⟨n-j-1,by omega⟩;obtain⟨r,hr⟩:=oP g (by omega:j+(e+1)≤p.length) h2 h3;have hm:=rV g hn he hw hs h2 h3;obtain⟨m1,m2,m3⟩:=mended g hn h1 hw hs h2;rw[mo hw,aq (by rw[he,hr];simp only[List.length_cons];omega),hm];exact⟨rfl,⟨n,rfl,hn,m1⟩,m2⟩
  · rw[mo hw,qm g hn h,au (by simp)];have hq:=pW g hn hw h;have e0:∀k,(cM p (q.getD 0 0) k).getD 0 0=q.getD 0 0:=fun k=>by rw[gT _ _ _ _ (by omega),aq (Nat.zero_le _)];rfl
    by_cases hlt:n<p.length
    · have:=tL g hs hlt;rw[←hq]at this;rw[this];exact⟨rfl,⟨n+1,rfl,hlt,nC g hs (n+1) hlt⟩,e0 _⟩
    · obtain rfl:n=p.length:=(by omega);have:=zi g hs;rw[←hq]at this;rw[this];exact⟨rfl,⟨p.length,rfl,Nat.le_refl _,hw⟩,rfl⟩
theorem cP.tx (h:cP p d q a m l c) (hc:c≤45):
    cP (fc p d q a m l).1 (fc p d q a m l).2.1 (fc p d q a m l).2.2.1 (fc p d q a m l).2.2.2.1 (fc p d q a m l).2.2.2.2.1 (fc p d q a m l).2.2.2.2.2.1 (c+1):=by
  obtain⟨n,rfl,hn,hw⟩:=h.work;have h1:=h.lo;have h2:=h.hi;obtain⟨t1,⟨n',t2,t3,t4⟩,t5⟩:=y5 h.plan hn hw ⟨by omega,by omega⟩;unfold fc
  split
  · exact⟨by rw[t1];exact h.plan,⟨n',t2,by rw[t1];exact t3,by rw[t1];exact t4⟩,by dsimp only;omega,by dsimp only;omega,h.log,h.last,h.lJ,by have:=h.kn;dsimp only;omega,by have:=h.few;dsimp only;omega⟩
  · exact h.step
end
theorem rT (p:List ai) (g:dm p) (s:Int) (hs:200000≤s∧s≤299999):
    cP (gg s p).1 (gg s p).2.1 (gg s p).2.2.1 (gg s p).2.2.2.1 (gg s p).2.2.2.2.1 (gg s p).2.2.2.2.2.1 0:=by
  have hn:=xf g (s:=s) ⟨by omega,by omega⟩;unfold gg;rw[aq (by rw[hn]),hn];have e0:(cM p s 0).getD 0 0=s:=by rw[gT _ _ _ _ (by omega),aq (Nat.zero_le _)];rfl
  refine⟨g,⟨0,rfl,Nat.zero_le _,nC g ⟨by omega,by omega⟩ 0 (Nat.zero_le _)⟩,?_,?_,(show cI ([]:List ah)=true from by decide),.inl rfl,(by dsimp only;omega),(by dsimp only;omega),Nat.le_refl _⟩
  · show _≤(cM p s 0).getD 0 0;rw[e0];omega
  · show(cM p s 0).getD 0 0≤_;rw[e0];omega
def nI (s:List ai×Int×List Int×Int×Int×List ah):Prop:=cP s.1 s.2.1 s.2.2.1 s.2.2.2.1 s.2.2.2.2.1 s.2.2.2.2.2 20
theorem cP.more {p:List ai} {d:Int} {q:List Int} {a m:Int} {l:List ah} {c c':Nat} (h:cP p d q a m l c) (hc:c≤c'):cP p d q a m l c':=
  ⟨h.plan,h.work,by have:=h.lo;omega,by have:=h.hi;omega,h.log,h.last,h.lJ,by have:=h.kn;omega,by have:=h.few;omega⟩
section
variable (b:List Int) (hb:b.length≤1048576)
include hb
theorem yz (N:Nat) (hN:N≤19):∀e:Nat,e≤N→∀(i h:Int) (p:List ai) (d:Int) (q:List Int) (a m:Int) (l:List ah),0≤i→cP p d q a m l (N-e)→
    ∃s i' h',Ev (fun k=>bQ.l0 k (N:Int) ((N-e:Nat):Int) b i h p d q a m l) (s.1,s.2.1,s.2.2.1,s.2.2.2.1,s.2.2.2.2.1,s.2.2.2.2.2,i',h')∧nI s∧0≤i':=by
  intro e
  induction e with
  |zero=>
   intro _ i h p d q a m l hi g;exact⟨(p,d,q,a,m,l),i,h,Ev.step (fun k=>by rw[bQ.l0]) (aI (by omega) (Ev.now _)),g.more (by omega),hi⟩
  |succ e ih=>
   intro he i h p d q a m l hi g;have I:=g.len;have H:=g.plan.1;have ll:=wT g.log;obtain⟨x,i1,h1,e1,x0,x1,_,j1⟩:=eG b hb i h 8 hi;have hs:N-e=N-(e+1)+1:=(by omega);by_cases y0:x=0
   · obtain⟨y,i2,h2,e2,_,_,_,j2⟩:=eG b hb i1 h1 30 j1;obtain⟨s,i',h',ev,gs,hi'⟩:=ih (by omega) i2 h2 _ _ _ _ _ _ j2 (hs▸g.tK y);refine⟨s,i',h',Ev.step (fun k=>by rw[bQ.l0]) (ar (by omega) (aX e1 (ar y0 (aX e2 (Ev.bind (tv p d q a m l y (by omega) (by omega) (by omega)) ?_))))),gs,hi'⟩;rw[show wrap64 (((N-(e+1):Nat):Int)+1)=((N-e:Nat):Int)from by rw[bW (by omega) (by omega)];omega];exact ev
   by_cases y1:x=1
   · obtain⟨r,n,i2,h2,e2,G,j2⟩:=xP b hb i1 h1 j1;obtain⟨f,i3,h3,e3,_,_,_,u⟩:=eG b hb i2 h2 3 j2;obtain⟨s,i',h',ev,gs,hi'⟩:=ih (by omega) i3 h3 _ _ _ _ _ _ u (hs▸g.ru r n f);refine⟨s,i',h',Ev.step (fun k=>by rw[bQ.l0]) (ar (by omega) (aX e1 (aI y0 (ar y1 (aX e2 (aX e3 (Ev.bind (s6 p d q a m l r n f (by omega) (by omega) (by omega)) ?_))))))),gs,hi'⟩;rw[show wrap64 (((N-(e+1):Nat):Int)+1)=((N-e:Nat):Int)from by rw[bW (by omega) (by omega)];omega];exact ev
   by_cases D:x=2
   · obtain⟨k0,i2,h2,e2,_,_,_,j2⟩:=eG b hb i1 h1 12 j1;obtain⟨z,i3,h3,e3,z0,F,_,u⟩:=eG b hb i2 h2 2001 j2;have z2:=F (by omega);obtain⟨s,i',h',ev,gs,hi'⟩:=ih (by omega) i3 h3 _ _ _ _ _ _ u (hs▸g.iT k0 (z-1000) (by omega));refine⟨s,i',h',Ev.step (fun k=>by rw[bQ.l0]) (ar (by omega) (aX e1 (aI y0 (aI y1 (ar D (aX e2 (aX e3 ?_))))))),gs,hi'⟩;dsimp only;rw[show wrap64 (z-1000)=z-1000 from bW (by omega) (by omega)];refine Ev.bind (s8 p d q a m l k0 (z-1000) (by omega) (by omega) (by omega)) ?_;rw[show wrap64 (((N-(e+1):Nat):Int)+1)=((N-e:Nat):Int)from by rw[bW (by omega) (by omega)];omega];exact ev
   · obtain⟨s,i',h',ev,gs,hi'⟩:=ih (by omega) i1 h1 _ _ _ _ _ _ j1 (hs▸g.tx (by omega));refine⟨s,i',h',Ev.step (fun k=>by rw[bQ.l0]) (ar (by omega) (aX e1 (aI y0 (aI y1 (aI D (Ev.bind (tq p d q a m l (by omega) (by omega) (by omega)) ?_)))))),gs,hi'⟩;rw[show wrap64 (((N-(e+1):Nat):Int)+1)=((N-e:Nat):Int)from by rw[bW (by omega) (by omega)];omega];exact ev
theorem yy (i h:Int) (hi:0≤i):∃s i' h',Ev (fun k=>bQ.f k b i h) (s.1,s.2.1,s.2.2.1,s.2.2.2.1,s.2.2.2.2.1,s.2.2.2.2.2,i',h')∧nI s∧0≤i':=by
  obtain⟨x,i1,h1,e1,x0,x1,_,j1⟩:=eG b hb i h 100000 hi;have x2:=x1 (by omega);obtain⟨p,i2,h2,e2,g,j2⟩:=xV b hb i1 h1 j1;obtain⟨y,i3,h3,e3,y0,y1,_,u⟩:=eG b hb i2 h2 20 j2;have z:=y1 (by omega);obtain⟨N,rfl⟩:=Int.eq_ofNat_of_zero_le y0;obtain⟨s,i',h',ev,gs,hi'⟩:=yz b hb N (by omega) N (Nat.le_refl _) i3 h3 _ _ _ _ _ _ u ((rT p g (200000+x) (by omega)).more (Nat.zero_le _));refine⟨s,i',h',?_,gs,hi'⟩;unfold bQ.f;refine aX e1 (Ev.bind e2 ?_);dsimp only;rw[show wrap64 (200000+x)=200000+x from bW (by omega) (by omega)];refine Ev.bind (r_ (200000+x) p) (aX e3 ?_);rw[show N-N=0 by omega]at ev;exact ev
theorem uZ (i h:Int) (hi:0≤i):∃s i' h',Ev (fun k=>lG.f k b i h) (s.1,s.2.1,s.2.2.1,s.2.2.2.1,s.2.2.2.2.1,s.2.2.2.2.2,i',h')∧nI s∧0≤i':=by
  obtain⟨v,i1,h1,e1,j1⟩:=sf b hb i h 2 hi;unfold lG.f;by_cases hv:v=true
  · refine⟨sX,i1,h1,aX e1 (ar hv (Ev.bind yu (Ev.now _))),?_,j1⟩;have:=(rT (gW 700) (rA 700 (by omega)).1 264000 (by omega)).more (Nat.zero_le 20);exact this
  · obtain⟨s,i',h',ev,gs,hi'⟩:=yy b hb i1 h1 j1;exact⟨s,i',h',aX e1 (aI hv (Ev.bind ev (Ev.now _))),gs,hi'⟩
end
structure kJ (x:dh):Prop where
  ok:eV x.f0 x.f1 x.f2 x.f3=true
  small:(-1000≤x.f1∧x.f1≤1000)∧(-1000≤x.f2∧x.f2≤1000)∧(-1000≤x.f3∧x.f3≤1000)
section
variable (b:List Int) (hb:b.length≤1048576)
include hb
theorem uW (i h:Int) (hi:0≤i):∃n x y z i' h',lF.f b i h=some (n,x,y,z,i',h')∧kJ ⟨n,x,y,z⟩∧0≤i':=by
  obtain⟨v,i1,h1,e1,v0,v1,_,j1⟩:=eG b hb i h 12 hi;have v2:=v1 (by omega);unfold lF.f;rw[e1,aA];dsimp only;by_cases c0:v=0
  · obtain⟨x,i2,h2,e2,x0,x1,_,j2⟩:=eG b hb i1 h1 40 j1;have x2:=x1 (by omega);rw[aq c0,e2,aA];dsimp only;rw[show wrap64 (x-5)=x-5 from bW (by omega) (by omega)];exact⟨_,_,_,_,_,_,rfl,⟨by unfold eV;dsimp only;rw[au (by omega),aq rfl,decide_eq_true_eq];omega,by dsimp only;omega⟩,j2⟩
  rw[au c0];by_cases c1:v=1
  · obtain⟨x,i2,h2,e2,x0,j2⟩:=sr b hb i1 h1 [0,0,1] j1 (by decide);obtain⟨y,i3,h3,e3,y0,y1,_,u⟩:=eG b hb i2 h2 6 j2;obtain⟨z,i4,h4,e4,z0,G,_,D⟩:=eG b hb i3 h3 3 u;have F:=y1 (by omega);have z2:=G (by omega);have x2:x=0∨x=1:=(by simp at x0;omega);rw[aq c1,e2,aA];dsimp only;rw[e3,aA];dsimp only;rw[e4,aA];exact⟨_,_,_,_,_,_,rfl,⟨by unfold eV;dsimp only;rw[au (by omega),au (by omega),aq rfl,decide_eq_true_eq];omega,by dsimp only;omega⟩,D⟩
  rw[au c1];by_cases c2:v=2
  · obtain⟨x,i2,h2,e2,x0,x1,_,j2⟩:=eG b hb i1 h1 12 j1;obtain⟨y,i3,h3,e3,y0,y1,_,u⟩:=eG b hb i2 h2 2001 j2;have x2:=x1 (by omega);have F:=y1 (by omega);rw[aq c2,e2,aA];dsimp only;rw[e3,aA];dsimp only;rw[show wrap64 (y-1000)=y-1000 from bW (by omega) (by omega)];exact⟨_,_,_,_,_,_,rfl,⟨by unfold eV;dsimp only;rw[au (by omega),au (by omega),au (by omega),aq rfl,decide_eq_true_eq];omega,by dsimp only;omega⟩,u⟩
  rw[au c2];by_cases c3:v=3
  · rw[aq c3];exact⟨_,_,_,_,_,_,rfl,⟨by decide,by dsimp only;omega⟩,j1⟩
  rw[au c3];by_cases c4:v=4
  · rw[aq c4];exact⟨_,_,_,_,_,_,rfl,⟨by decide,by dsimp only;omega⟩,j1⟩
  rw[au c4];by_cases c5:v=5
  · obtain⟨x,i2,h2,e2,x0,x1,_,j2⟩:=eG b hb i1 h1 12 j1;have x2:=x1 (by omega);rw[aq c5,e2,aA];exact⟨_,_,_,_,_,_,rfl,⟨by unfold eV;dsimp only;rw[au (by omega),au (by omega),au (by omega),au (by omega),aq rfl,decide_eq_true_eq];omega,by dsimp only;omega⟩,j2⟩
  rw[au c5];exact⟨_,_,_,_,_,_,rfl,⟨by decide,by dsimp only;omega⟩,j1⟩
theorem uY (i h:Int) (hi:0≤i):∃l i' h',Ev (fun k=>fA.f k b i h) (l,i',h')∧l.length≤25∧(∀x∈l,kJ x)∧0≤i':=by
  obtain⟨n,i1,h1,e1,n0,n1,_,j1⟩:=eG b hb i h 26 hi;have n2:=n1 (by omega);obtain⟨N,rfl⟩:=Int.eq_ofNat_of_zero_le n0
  have key:∀m:Nat,m≤N→∀(acc:List dh) (i h:Int),0≤i→acc.length=N-m→(∀x∈acc,kJ x)→
      ∃l i' h',Ev (fun k=>fA.l0 k acc (N:Int) ((N-m:Nat):Int) b i h) (l,i',h')∧l.length≤25∧(∀x∈l,kJ x)∧0≤i':=by
    intro m
    induction m with
    |zero=>
     intro _ acc i h hi hl hx;exact⟨acc,i,h,Ev.step (fun k=>by rw[fA.l0]) (aI (by omega) (Ev.now _)),by omega,hx,hi⟩
    |succ m ih=>
     intro hm acc i h hi hl hx;obtain⟨a,x,y,z,i2,h2,e2,g,j2⟩:=uW b hb i h hi
     obtain⟨l,i',h',ev,l1,l2,j⟩:=ih (by omega) (acc++[⟨a,x,y,z⟩]) i2 h2 j2 (by simp;omega) (by
       intro w hw;rcases List.mem_append.1 hw with hw|hw
       · exact hx w hw
       · simp at hw;subst hw;exact g)
     refine⟨l,i',h',Ev.step (fun k=>by rw[fA.l0]) (ar (by omega) (aX e2 ?_)),l1,l2,j⟩;refine ar (show acc.length<4398046511104 by omega) ?_;rw[show wrap64 (((N-(m+1):Nat):Int)+1)=((N-m:Nat):Int)from by rw[bW (by omega) (by omega)];omega];exact ev
  obtain⟨l,i',h',ev,l1,l2,j⟩:=key N (Nat.le_refl _) [] i1 h1 j1 (by simp) (by simp);refine⟨l,i',h',?_,l1,l2,j⟩;unfold fA.f;refine aX e1 ?_;rw[show N-N=0 by omega]at ev;exact ev
theorem vJ:∃s l,Ev (fun k=>lB.f k b) (s.1,s.2.1,s.2.2.1,s.2.2.2.1,s.2.2.2.2.1,s.2.2.2.2.2,l)∧nI s∧l.length≤25∧∀x∈l,kJ x:=by
  obtain⟨h0,e0⟩:=xh b;obtain⟨s,i1,h1,e1,g,j1⟩:=uZ b hb 0 h0 (by omega);obtain⟨l,i2,h2,e2,l1,l2,j2⟩:=uY b hb i1 h1 j1;refine⟨s,l,?_,g,l1,l2⟩;unfold lB.f;exact Ev.bind e0 (Ev.bind e1 (Ev.bind e2 (Ev.now _)))
end
def gV (p:List ai) (d:Int) (q:List Int) (a m:Int) (l:List ah):Int:=
  if cE p d q a m l=true then wrap64 ((wrap64 ((p.length:Int)-d))+((gi p d q).length:Int))else 0
theorem mX (p:List ai) (d:Int) (q:List Int) (a m:Int) (l:List ah) (hl:l.length≤1048577):Ev (fun k=>eY.f k p d q a m l) (gV p d q a m l):=by
  unfold eY.f gV;refine Ev.bind (jL p d q a m l hl) ?_;by_cases h:cE p d q a m l=true
  · exact bK h<|ar h (Ev.bind (qj p d q) (Ev.now _))
  · exact br h<|aI h (Ev.now _)
theorem rP (p:List ai) (d:Int) (q:List Int) (a m:Int) (l:List ah) (hl:l.length≤1048577):Ev (fun k=>fK.f k p d q a m l) (gV p d q a m l):=by
  unfold fK.f gV;refine Ev.bind (jM p d q a m l hl) ?_;by_cases h:cE p d q a m l=true
  · exact bK h<|ar h (Ev.bind (ql p d q) (Ev.now _))
  · exact br h<|aI h (Ev.now _)
def kG (p t:Int):Int:=if fine p=true then(if-10≤t∧t≤40 then wrap64 (Int.tdiv (wrap64 (p*(wrap64 (1000+(wrap64 (2*(wrap64 (t-15)))))))) 1000)else 0)else 0
theorem tJ (p t:Int):kf.f p t=some (kG p t):=by
  unfold kf.f kG;rw[ki,wA];cases fine p<;>by_cases h: -10≤t∧t≤40<;>simp[h]
theorem zg (p t:Int):mj.f p t=some (kG p t):=by
  unfold mj.f kG;rw[jH,fQ];cases fine p<;>by_cases h: -10≤t∧t≤40<;>simp[h]
theorem zh (t:Int):kG 0 t=0:=by
  have:fine 0=false:=by decide
  unfold kG;rw[this];rfl
def gm (p:List ai) (d:Int) (q:List Int) (a m:Int) (l:List ah) (c:Int):Int:=
  if cE p d q a m l=true then(if 0≤c∧c≤11 then(if fH l ⟨0,c⟩=1 then 0 else kG (rd q c) a)else 0)else 0
theorem wa (p:List ai) (d:Int) (q:List Int) (a m:Int) (l:List ah) (c:Int) (hl:l.length≤1048577):Ev (fun k=>fS.f k p d q a m l c) (gm p d q a m l c):=by
  unfold fS.f;refine Ev.bind (jM p d q a m l hl) ?_;by_cases h0:cE p d q a m l=true;rotate_left
  · exact aI h0 (evs (by simp[gm,h0]))
  refine ar h0 (aX (fQ _ _ _) ?_);obtain⟨hw,hlo,_⟩:=il.mp h0
  have hq:q.length=12:=by
    unfold bR at hw;simp only[Bool.and_eq_true,decide_eq_true_eq]at hw;exact hw.2.2.1
  by_cases hc:0≤c∧c≤11;rotate_left
  · exact aI (by simpa using hc) (evs (by simp[gm,hc]))
  have F:=vR l 0 c hl;rw[aq hlo]at F;refine ar (by simpa using hc) (Ev.bind F ?_);by_cases hf:fH l ⟨0,c⟩=1
  · exact ar hf (evs (by simp[gm,hf]))
  exact aI hf (ar hc.1 (ar (by omega) (aX (zg _ _) (evs (by simp[gm,h0,hc,hf])))))
theorem rD (p:List ai) (d:Int) (q:List Int) (a m:Int) (l:List ah) (c:Int) (hl:l.length≤1048577):Ev (fun k=>ft.f k p d q a m l c) (gm p d q a m l c):=by
  unfold ft.f;refine Ev.bind (jL p d q a m l hl) ?_;by_cases h0:cE p d q a m l=true;rotate_left
  · exact aI h0 (evs (by simp[gm,h0]))
  refine ar h0 (aX (gX _ _ _) ?_);obtain⟨hw,hlo,_⟩:=il.mp h0
  have hq:q.length=12:=by
    unfold bR at hw;simp only[Bool.and_eq_true,decide_eq_true_eq]at hw;exact hw.2.2.1
  by_cases hc:0≤c∧c≤11;rotate_left
  · exact aI (by simpa using hc) (evs (by simp[gm,hc]))
  refine ar (by simpa using hc) (ar hc.1 (ar (by omega) ?_));by_cases hz:rd q c=0
  · exact ar hz (evs (by simp[gm,hz,zh]))
  refine aI hz ?_
  have F:ib.f l 0 c=some (fH l ⟨0,c⟩):=by
    unfold ib.f;rw[aq ⟨kH (by omega) (by omega),kH (by omega) (by omega),hl⟩,aq hlo]
  refine aX F ?_;by_cases hf:fH l ⟨0,c⟩=1
  · exact ar hf (evs (by simp[gm,hf]))
  exact aI hf (aX (tJ _ _) (evs (by simp[gm,h0,hc,hf])))
def jR (b:Bool):Int:=if b=true then 1 else 0
theorem ny (b:Bool):gv.f b=some (jR b):=by unfold gv.f jR;cases b<;>rfl
theorem nz (b:Bool):iK.f b=some (jR b):=by unfold iK.f jR;cases b<;>rfl
def hZ (p:List ai) (d:Int) (q:List Int) (a m:Int) (l:List ah) (n x y z:Int):List ai×Int×List Int×Int×Int×List ah×Int:=
  if cE p d q a m l=true∧eV n x y z=true then
    (if n=1 then((fc p d q a m l).1,(fc p d q a m l).2.1,(fc p d q a m l).2.2.1,(fc p d q a m l).2.2.2.1,(fc p d q a m l).2.2.2.2.1,(fc p d q a m l).2.2.2.2.2.1,jR (fc p d q a m l).2.2.2.2.2.2)
    else if n=2 then((fx p d q a m l x).1,(fx p d q a m l x).2.1,(fx p d q a m l x).2.2.1,(fx p d q a m l x).2.2.2.1,(fx p d q a m l x).2.2.2.2.1,(fx p d q a m l x).2.2.2.2.2.1,jR (fx p d q a m l x).2.2.2.2.2.2)
    else if n=3 then((fu p d q a m l x y z).1,(fu p d q a m l x y z).2.1,(fu p d q a m l x y z).2.2.1,(fu p d q a m l x y z).2.2.2.1,(fu p d q a m l x y z).2.2.2.2.1,(fu p d q a m l x y z).2.2.2.2.2.1,jR (fu p d q a m l x y z).2.2.2.2.2.2)
    else if n=4 then((fw p d q a m l x y).1,(fw p d q a m l x y).2.1,(fw p d q a m l x y).2.2.1,(fw p d q a m l x y).2.2.2.1,(fw p d q a m l x y).2.2.2.2.1,(fw p d q a m l x y).2.2.2.2.2.1,jR (fw p d q a m l x y).2.2.2.2.2.2)
    else if n=5 then(p,d,q,a,m,(kv l m).1,jR (kv l m).2)
    else if n=6 then(p,d,q,a,m,l,gV p d q a m l)
    else(p,d,q,a,m,l,gm p d q a m l x))
  else(p,d,q,a,m,l,-1)
section
variable (p:List ai) (d:Int) (q:List Int) (a m:Int) (l:List ah) (n x y z:Int) (hp:p.length≤4000000) (hq:q.length≤4000000) (hl:l.length≤1048576)
include hp hq hl
theorem vH:Ev (fun k=>bB.f k p d q a m l n x y z) (hZ p d q a m l n x y z):=by
  have E:=kU p d q a m l hp hq (by omega);have O:=jL p d q a m l (by omega);have D:=uT n x y z;have T:=tk p d q a m l hp hq hl;have W:=yO p d q a m l x hp hq hl;have F:=yx p d q a m l x y z hp hq hl;have K:=yC p d q a m l x y hp hq hl;have R:=ye l m hl;have L:=mX p d q a m l (by omega);have H:=rD p d q a m l x (by omega);have u:Ev (fun k=>bB.j0 k true p d q a m l n x y z) (p,d,q,a,m,l,-1):=Ev.step (fun k=>by rw[bB.j0]) (ar rfl (aX E (Ev.now _)));unfold bB.f hZ;refine Ev.bind O ?_;by_cases h0:cE p d q a m l=true;rotate_left
  · exact br (fun hh=>h0 hh.1) (aI h0 u)
  refine ar h0 (Ev.bind D ?_);by_cases h1:eV n x y z=true;rotate_left
  · exact br (fun hh=>h1 hh.2) (by rw[show(!eV n x y z)=true by simp[h1]];exact u)
  refine bK ⟨h0,h1⟩ ?_;rw[show(!eV n x y z)=false by simp[h1]];refine Ev.step (fun k=>by rw[bB.j0]) (aI (by decide) ?_);by_cases c1:n=1
  · exact bK c1 (ar c1 (Ev.bind T (aX (ny _) (Ev.now _))))
  refine br c1 (aI c1 ?_);by_cases c2:n=2
  · exact bK c2 (ar c2 (Ev.bind W (aX (ny _) (Ev.now _))))
  refine br c2 (aI c2 ?_);by_cases c3:n=3
  · exact bK c3 (ar c3 (Ev.bind F (aX (ny _) (Ev.now _))))
  refine br c3 (aI c3 ?_);by_cases c4:n=4
  · exact bK c4 (ar c4 (Ev.bind K (aX (ny _) (Ev.now _))))
  refine br c4 (aI c4 ?_);by_cases c5:n=5
  · exact bK c5 (ar c5 (aX E (Ev.bind R (aX (ny _) (Ev.now _)))))
  refine br c5 (aI c5 ?_);by_cases c6:n=6
  · exact bK c6 (ar c6 (aX E (Ev.bind L (Ev.now _))))
  exact br c6 (aI c6 (aX E (Ev.bind H (Ev.now _))))
theorem vI:Ev (fun k=>cq.f k p d q a m l n x y z) (hZ p d q a m l n x y z):=by
  have E:=km p d q a m l hp hq (by omega);have O:=jM p d q a m l (by omega);have D:=uV n x y z;have T:=tq p d q a m l hp hq hl;have W:=tv p d q a m l x hp hq hl;have F:=s6 p d q a m l x y z hp hq hl;have K:=s8 p d q a m l x y hp hq hl;have R:=yf l m hl;have L:=rP p d q a m l (by omega);have H:=wa p d q a m l x (by omega);have u:Ev (fun k=>cq.j0 k true p d q a m l n x y z p d q a m l) (p,d,q,a,m,l,-1):=Ev.step (fun k=>by rw[cq.j0]) (ar rfl (Ev.now _));unfold cq.f hZ;refine aX E (Ev.bind O ?_);by_cases h0:cE p d q a m l=true;rotate_left
  · exact br (fun hh=>h0 hh.1) (aI h0 u)
  refine ar h0 (Ev.bind D ?_);by_cases h1:eV n x y z=true;rotate_left
  · exact br (fun hh=>h1 hh.2) (by rw[show(!eV n x y z)=true by simp[h1]];exact u)
  refine bK ⟨h0,h1⟩ ?_;rw[show(!eV n x y z)=false by simp[h1]];refine Ev.step (fun k=>by rw[cq.j0]) (aI (by decide) ?_);by_cases c1:n=1
  · exact bK c1 (ar c1 (Ev.bind T (aX (nz _) (Ev.now _))))
  refine br c1 (aI c1 ?_);by_cases c2:n=2
  · exact bK c2 (ar c2 (Ev.bind W (aX (nz _) (Ev.now _))))
  refine br c2 (aI c2 ?_);by_cases c3:n=3
  · exact bK c3 (ar c3 (Ev.bind F (aX (nz _) (Ev.now _))))
  refine br c3 (aI c3 ?_);by_cases c4:n=4
  · exact bK c4 (ar c4 (Ev.bind K (aX (nz _) (Ev.now _))))
  refine br c4 (aI c4 ?_);by_cases c5:n=5
  · exact bK c5 (ar c5 (Ev.bind R (aX (nz _) (Ev.now _))))
  refine br c5 (aI c5 ?_);by_cases c6:n=6
  · exact bK c6 (ar c6 (Ev.bind L (Ev.now _)))
  refine br c6 (aI c6 ?_);have c7:n=7:=by have:=uU h1;omega
  exact ar c7 (Ev.bind H (Ev.now _))
end
section
variable {p:List ai} {d:Int} {q:List Int} {a m:Int} {l:List ah} {c:Nat}
theorem cP.yg (h:cP p d q a m l c):cP p d q a m (kv l m).1 (c+1):=by
  unfold kv
  split
  · unfold addEntry
    split
    · rename_i h2
      exact⟨h.plan,h.work,by have:=h.lo;omega,by have:=h.hi;omega,h2.2,.inr (by simp[List.getD_eq_getElem?_getD,lU]),h.lJ,by have:=h.kn;omega,by have:=h.few;simp;omega⟩
    · exact h.step
  · exact h.step
theorem cP.uX (h:cP p d q a m l c) (hc:c≤45) {x:dh} (g:kJ x):
    cP (hZ p d q a m l x.f0 x.f1 x.f2 x.f3).1 (hZ p d q a m l x.f0 x.f1 x.f2 x.f3).2.1 (hZ p d q a m l x.f0 x.f1 x.f2 x.f3).2.2.1 (hZ p d q a m l x.f0 x.f1 x.f2 x.f3).2.2.2.1 (hZ p d q a m l x.f0 x.f1 x.f2 x.f3).2.2.2.2.1 (hZ p d q a m l x.f0 x.f1 x.f2 x.f3).2.2.2.2.2.1 (c+1):=by
  unfold hZ;rw[aq ⟨h.ok hc,g.ok⟩]
  split
  · exact h.tx hc
  split
  · exact h.tK x.f1
  split
  · exact h.ru x.f1 x.f2 x.f3
  split
  · exact h.iT x.f1 x.f2 g.small.2.1
  split
  · exact h.yg
  split
  · exact h.step
  · exact h.step
end
section
variable {p:List ai} {q:List Int} {a m:Int} {l:List ah} {n j:Nat}
theorem y6 (g:dm p) (hn:n≤p.length) (hw:bR p (n:Int) q=true) (hs:155000≤q.getD 0 0∧q.getD 0 0≤345000) (hj:j≤n) (h:eJ p q j) (hd:¬(n=p.length∧eJ p q n)):
    ∃(n' j':Nat) (q':List Int),gI p (n:Int) q=(p,(n':Int),q',true)∧n'≤p.length∧bR p (n':Int) q'=true∧q'.getD 0 0=q.getD 0 0∧j<j'∧j'≤n'∧eJ p q' j':=by
  have hl:=g.1;by_cases hr:eJ p q n
  · have hlt:n<p.length:=by
      rcases Nat.lt_or_ge n p.length with h1|h1
      · exact h1
      · exact absurd ⟨by omega,hr⟩ hd
    have hq:=pW g hn hw hr;have ws:=tL g hs hlt;rw[←hq]at ws;refine⟨n+1,n+1,cM p (q.getD 0 0) (n+1),?_,hlt,nC g hs (n+1) hlt,?_,by omega,Nat.le_refl _,sT p (q.getD 0 0) (n+1) (by omega)⟩
    · unfold gI;rw[mo hw,qm g hn hr,au (by simp)];exact ws
    · rw[gT _ _ _ _ (by omega),aq (Nat.zero_le _)];rfl
  · rcases pn g q n hn with ⟨i,h1,h2,h3⟩|h1;rotate_left
    · exact absurd h1 hr
    have hij:j≤i:=by
      rcases Nat.lt_or_ge i j with h4|h4
      · have:=se g (by omega:j≤p.length) h h4;rw[h3]at this;cases this
      · exact h4
    obtain⟨e,he⟩:∃e,n=i+(e+1):=⟨n-i-1,by omega⟩;obtain⟨r,hr2⟩:=oP g (by omega:i+(e+1)≤p.length) h2 h3;have hm:=rV g hn he hw hs h2 h3;obtain⟨m1,m2,m3⟩:=mended g hn h1 hw hs h2;refine⟨n,i+1,_,?_,hn,m1,m2,by omega,by omega,m3⟩;unfold gI;rw[mo hw,aq (by rw[he,hr2];simp only[List.length_cons];omega)];exact hm
theorem zr (p:List ai) (q:List Int) (n:Nat):(dy p q (List.range n)).length≤n:=by
  unfold dy;rw[List.length_map];exact Nat.le_trans (List.length_filter_le _ _) (by simp)
theorem rO (g:dm p) (hn:n≤p.length) (hw:bR p (n:Int) q=true) (hok:cE p (n:Int) q a m l=true):
    gV p (n:Int) q a m l=((p.length-n:Nat):Int)+((dy p q (List.range n)).length:Int):=by
  have hl:=g.1;have:=zr p q n;unfold gV;rw[aq hok,mo hw,bW (n:=(p.length:Int)-n) (by omega) (by omega),bW (by omega) (by omega)];omega
theorem ot (g:dm p) (hn:n≤p.length) (hw:bR p (n:Int) q=true) (hok:cE p (n:Int) q a m l=true):gV p (n:Int) q a m l=0↔n=p.length∧eJ p q n:=by
  rw[rO g hn hw hok];constructor
  · intro h;refine⟨by omega,?_⟩;rcases pn g q n hn with ⟨i,h1,h2,h3⟩|h1
    · obtain⟨e,he⟩:∃e,n=i+(e+1):=⟨n-i-1,by omega⟩;obtain⟨r,hr2⟩:=oP g (by omega:i+(e+1)≤p.length) h2 h3;rw[he,hr2]at h;simp only[List.length_cons]at h;omega
    · exact h1
  · rintro⟨h1,h2⟩;rw[qm g hn h2];simp;omega
theorem wQ (g:dm p) (hn:n≤p.length) (hw:bR p (n:Int) q=true) (hok:cE p (n:Int) q a m l=true):0≤gV p (n:Int) q a m l:=by
  rw[rO g hn hw hok];omega
theorem yA {n':Int} {d:Int} {q':List Int} (hok:cE p d q a m l=true) (hw:bR p n' q'=true):cE p n' q' a m l=true:=by
  obtain⟨_,h2,h3,h4,h5⟩:=il.1 hok;exact il.2 ⟨hw,h2,h3,h4,h5⟩
end
end Q
namespace Pure
open Go.RowKit P Q WW.bk WW.b_
section
variable {p:List ai} {q:List Int} {a m:Int} {l:List ah}
theorem yY (r:List Int) (n:Int) (hok:cE p n q a m l=true) (hr:r.length=12) (eq:q=r) (ll:l.length≤1000):
    ∀i:Nat,i≤12→Ev (fun k=>aN.l2 k r (i:Int) p n q a m l) true:=by
  obtain⟨_,z,D,_⟩:=il.1 hok;refine down (n:=12) ?_ ?_
  · exact Ev.step (fun k=>by rw[aN.l2]) (aI (by omega) (Ev.now _))
  · intro i hi ih;refine Ev.step (fun k=>by rw[aN.l2]) (ar (by omega) ?_)
    have F:ib.f l 0 (i:Int)=some (fH l ⟨0,(i:Int)⟩):=by
      rw[vQ l 0 (i:Int) (kH (by omega) (by omega)) (kH (by omega) (by omega)) (by omega),aq z]
    have u:gm p n q a m l (i:Int)=if fH l ⟨0,(i:Int)⟩=1 then 0 else kG (rd q (i:Int)) a:=by
      unfold gm;rw[aq hok,aq (by omega)]
    have H:=rD p n q a m l (i:Int) (by omega);rw[u]at H;refine Ev.bind H (aX F ?_);rw[show wrap64 ((i:Int)+1)=((i+1:Nat):Int)from by rw[bW (by omega) (by omega)];omega];by_cases hf:fH l ⟨0,(i:Int)⟩=1
    · refine ar hf (ar (by rw[aq hf]) ih)
    refine aI hf (ar (by omega) (ar (by omega) ?_));by_cases hz:rd r (i:Int)>0
    · refine ar hz (aX (tJ _ _) (ar ?_ ih));rw[au hf,eq]
    · exact aI hz ih
theorem yZ (g:dm p) (n:Nat) (q0:List Int) (hn:n≤p.length) (hq:155000≤q.getD 0 0∧q.getD 0 0≤345000) (he:q0.getD 0 0=q.getD 0 0) (h0:q0.length=12) (hw:bR p (n:Int) q=true) (hok:cE p (n:Int) q a m l=true) (hz:gV p (n:Int) q a m l=0) (ll:l.length≤1000):
    Ev (fun k=>aN.r k p q0 p (n:Int) q a m l) true:=by
  have hl:=g.1;obtain⟨rfl,hr⟩:=(ot g hn hw hok).1 hz;have eq:=pW g (Nat.le_refl _) hw hr;have len:=lx p (q.getD 0 0) p.length;have A:=yo (q.getD 0 0) p;rw[sW g hq]at A;have L:=mX p (p.length:Int) q a m l (by omega);rw[hz]at L;have S:=yt (cM p (q.getD 0 0) p.length) (by omega);have K:=yY (cM p (q.getD 0 0) p.length) (p.length:Int) hok len eq ll 0 (by omega);unfold aN.r;refine ar (by omega) ?_;rw[ij,show(0:Int).toNat=0 from rfl,he];refine Ev.bind A (ar rfl (ar (by show((cM p (q.getD 0 0) p.length).length:Int)=12;omega) (Ev.bind L (ar rfl ?_))));rw[←eq]at S K ⊢;exact Ev.bind S (ar rfl K)
theorem y4 (g:dm p) (q0:List Int) (h0:q0.length=12) (ll:l.length≤1000):∀(e c n j:Nat) (q:List Int),p.length-j≤e→c+e≤39→n≤p.length→(155000≤q.getD 0 0∧q.getD 0 0≤345000)→q0.getD 0 0=q.getD 0 0→bR p (n:Int) q=true→cE p (n:Int) q a m l=true→j≤n→eJ p q j→
    Ev (fun k=>aN.l1 k (c:Int) p q0 p (n:Int) q a m l) true:=by
  have hl:=g.1
  have fin:∀(c n:Nat) (q:List Int),n≤p.length→(155000≤q.getD 0 0∧q.getD 0 0≤345000)→q0.getD 0 0=q.getD 0 0→bR p (n:Int) q=true→cE p (n:Int) q a m l=true→c<40→gV p (n:Int) q a m l=0→
      Ev (fun k=>aN.l1 k (c:Int) p q0 p (n:Int) q a m l) true:=by
    intro c n q hn hq he hw hok hc hz;have L:=mX p (n:Int) q a m l (by omega);rw[hz]at L;have key:=yZ g n q0 hn hq he h0 hw hok hz ll;refine Ev.step (fun k=>by rw[aN.l1]) (ar (by omega) (Ev.bind L ?_));exact aI (by decide) key
  intro e
  induction e with
  |zero=>
   intro c n j q hj hc hn hq he hw hok hjn hr;refine fin c n q hn hq he hw hok (by omega) ((ot g hn hw hok).2 ⟨by omega,?_⟩);rw[show n=j by omega];exact hr
  |succ e ih=>
   intro c n j q hj hc hn hq he hw hok hjn hr;by_cases hd:n=p.length∧eJ p q n
   · exact fin c n q hn hq he hw hok (by omega) ((ot g hn hw hok).2 hd)
   obtain⟨n',j',q',t1,t2,t3,t4,t5,t6,t7⟩:=y6 g hn hw hq hjn hr hd
   have hpos:gV p (n:Int) q a m l>0:=by
     have h1:=wQ g hn hw hok;have h2:gV p (n:Int) q a m l≠0:=fun h=>hd ((ot g hn hw hok).1 h);omega
   have u:=yA hok t3;have D:=((lK g n hn q).1 hw).1;have L:=mX p (n:Int) q a m l (by omega);have T:=tk p (n:Int) q a m l (by omega) (by omega) (by omega)
   have z:fc p (n:Int) q a m l=(p,(n':Int),q',a,m,l,true):=by
     unfold fc;rw[aq hok,t1]
   rw[z]at T;have O:=jM p (n':Int) q' a m l (by omega);rw[u]at O;have key:=ih (c+1) n' j' q' (by omega) (by omega) t2 (by rw[t4];exact hq) (by rw[t4];exact he) t3 u t6 t7;refine Ev.step (fun k=>by rw[aN.l1]) (ar (by omega) (Ev.bind L (ar hpos (Ev.bind T (ar rfl (Ev.bind O (ar rfl ?_)))))));rw[show wrap64 ((c:Int)+1)=((c+1:Nat):Int)from by rw[bW (by omega) (by omega)];omega];exact key
end
theorem yX (xs:List dh) (hx:∀x∈xs,kJ x) (hl:xs.length≤25):∀i,i≤xs.length→∀(p:List ai) (d:Int) (q:List Int) (a m:Int) (l:List ah),cP p d q a m l (20+i)→
    Ev (fun k=>aN.l0 k xs (i:Int) p d q a m l) true:=by
  refine down (n:=xs.length) ?_ ?_
  · intro p d q a m l g;have hok:=g.ok (by omega);have u:=g.len;have lf:=g.few;have h1:=g.lo;have h2:=g.hi;obtain⟨n,rfl,hn,hw⟩:=g.work;have hp:=g.plan.1;refine Ev.step (fun k=>by rw[aN.l0]) (aI (by omega) ?_);exact y4 g.plan q u (by omega) 11 0 n 0 q (by omega) (by omega) hn ⟨by omega,by omega⟩ rfl hw hok (Nat.zero_le _) (sU p q)
  · intro i hi ih p d q a m l g;have u:=g.len;have lf:=g.few;have F:=g.plan.1;have gx:=hx xs[i] (List.getElem_mem hi);have g2:=g.uX (by omega) gx;have A:=vH p d q a m l xs[i].f0 xs[i].f1 xs[i].f2 xs[i].f3 (by omega) (by omega) (by omega);have B:=vI p d q a m l xs[i].f0 xs[i].f1 xs[i].f2 xs[i].f3 (by omega) (by omega) (by omega);have key:=ih _ _ _ _ _ _ g2;have lr:=g2.few;have D:=g2.ok (by omega);generalize hZ p d q a m l xs[i].f0 xs[i].f1 xs[i].f2 xs[i].f3=R at*;have O:=jL R.1 R.2.1 R.2.2.1 R.2.2.2.1 R.2.2.2.2.1 R.2.2.2.2.2.1 (by omega);rw[D]at O;have z:=mX R.1 R.2.1 R.2.2.1 R.2.2.2.1 R.2.2.2.2.1 R.2.2.2.2.2.1 (by omega);have L2:=rP R.1 R.2.1 R.2.2.1 R.2.2.2.1 R.2.2.2.2.1 R.2.2.2.2.2.1 (by omega);refine Ev.step (fun k=>by rw[aN.l0]) (ar (by omega) (ar (by omega) ?_));rw[x_ xs i hi];refine Ev.bind A (Ev.bind B (ar rfl (Ev.bind O (ar rfl (Ev.bind z (Ev.bind L2 (ar rfl ?_)))))));rw[show wrap64 ((i:Int)+1)=((i+1:Nat):Int)from by rw[bW (by omega) (by omega)];omega];exact key
theorem ug (b:List Int) (h0:b.length≤9223372036854775807∧∀y∈b,rB y):∃k,aN.f k b=some true:=by
  refine Ev.rounds ?_;unfold aN.f;by_cases u:(b.length:Int)>1048576
  · exact aX (a:=true) (by unfold l6.f;rw[ag u]) (ar rfl (Ev.now _))
  refine aX (a:=false) (by unfold l6.f;rw[ay u]) (aI (by decide) ?_);have hb:b.length≤1048576:=by omega
  obtain⟨⟨p,d,q,a,m,l⟩,xs,D,g,hx1,hx2⟩:=vJ b hb;have g:cP p d q a m l 20:=g;exact Ev.bind D (yX xs hx2 hx1 0 (Nat.zero_le _) p d q a m l g)
end Pure
end Go.Proofs.YtanhnhkcpbdfmaaGreat
namespace Go.Proofs.YtanhnhkcpbdfmaaGreat.rv
open Go.ChangeShapes Go.WideShapes Go.ChangeAt Go.RowKit Go.Proofs.YtanhnhkcpbdfmaaGreat.P Go.Proofs.YtanhnhkcpbdfmaaGreat.Q Go.Proofs.YtanhnhkcpbdfmaaGreat.WW.bk
open Go.ChangeMaps (open_string shut_string)
theorem own:ownKnob Tryz.prog.godebug=none:=by kernel_rfl
theorem laidOut:laidOutB Tryz.prog=true:=by kernel_rfl
set_option maxRecDepth 100000 in
theorem lifted (os:Os) (started:os.Started) (H:Type) (enc:TypeId×Value→H):
    ReturnsInHanded {} Tryz.checked os 8 .any (Rows.fnTopSpec.pre6 enc Tryz.prog Tryz.f8 Rows.fnTopRow.domain false) (Rows.fnTopSpec.post enc Tryz.prog Tryz.f8 false true false false):=by
  refine returnsInHanded_of_change_sized (C:=Tryz.checked) own started (by kernel_rfl) Tryz.func8
    (ChangeSpec.witness6 (enc:=enc) (C:=Tryz.checked) false ⟨#[],#[.slice none 0 0],[]⟩ 8 (by kernel_rfl) (by kernel_rfl) (by kernel_rfl) (by kernel_rfl)) ?_
  intro W base args ds gs before O hW hcnd ah _;have hval:∀(j:Nat) t v,Tryz.f8.params[j]? =some t→args[j]? =some v→Value.okWide Tryz.prog W .any base t v:=O;have J:=hW;obtain⟨p,q,I,hV,rfl,hfz,af⟩:=hW;have hA:DataW.TrodAll enc Tryz.prog W 0 (fun _=>true) true Tryz.f8.params.toList args.toList ds p:=I;rw[Tryz.params8]at hA hval;obtain⟨v0,aj,d0,ad,p0,q0,hargs,rfl,rfl,h0,V⟩:=trodAll_cons hA;obtain⟨rfl,rfl,rfl⟩:=trodAll_nil V;obtain rfl:args= #[v0]:=by cases args;simp_all
  obtain⟨rfl,rfl⟩:=trodVars_none hV;have k0:=h0;have U:∀x∈p0,x.block<W.heap.size:=by obtain⟨m,hm⟩:=k0;exact DataW.trod_lt m _ _ _ hm
  obtain⟨G,f0⟩:=h0;obtain⟨x0,D,z⟩:=(show gj Tryz.prog W (Kd.slice 5 (Kd.int .u8)) 60 _ from gj.slice 0 Tryz.underlying60 (by kernel_rfl) xm) H enc 0 _ _ G _ _ f0;obtain⟨ai,Z,Y,rfl⟩:∃l c a,v0= .slice a l c:=by obtain⟨a,l,c,e⟩:=okWide_slice Tryz.underlying60 (hval 0 60 v0 rfl rfl);exact⟨l,c,a,e⟩
  obtain⟨X,c0,e0,hc0,K⟩:=D;simp[Value.cells]at e0;obtain⟨rfl,rfl,rfl⟩:=e0;obtain⟨k,hP⟩:=Pure.ug x0 z;refine(P.aN.c k _ _ x0 true W K hc0 hP ⟨rfl⟩).mono fun e W' ⟨he,F⟩=> ?_;have u:Below W.heap.size W W':=F;subst he;exact⟨_,rfl,_,_,_,[],_,[],J,trodAll_mk1 (shut_bool Tryz.underlying4 _),(trodAll_cons_mk (Below.trod laidOut (by kernel_rfl) (of_decide_eq_true (by kernel_rfl)) k0 u U) trodAll_mk0),rfl,u.frame _,fun h=>by cases h⟩
theorem over:Rows.fnTopRow.holds Tryz.pinned (OpenSpec.ofChange Rows.fnTopSpec):=
  OpenClaim.holds_of_wide 8 Tryz.f8 rfl rfl rfl rfl rfl rfl rfl ⟨rfl,rfl,rfl,rfl,rfl⟩ rfl rfl rfl rfl rfl (by kernel_rfl) Tryz.func8 (by kernel_rfl)
    (of_decide_eq_true (by kernel_rfl)) (by unfold Func.isWrapper;first|(rw[aq (by decide+kernel)];kernel_rfl)|(rw[au (by decide+kernel)];exact⟨rfl,rfl⟩))
    (fun os started H enc _=>lifted os started H enc)
theorem proved:Rows.FnTopSaid:=over
#print axioms proved
end Go.Proofs.YtanhnhkcpbdfmaaGreat.rv
namespace Go.Proofs.YtanhnhkcpbdfmaaGreat
theorem fnTop_holds:Rows.FnTopSaid:=rv.proved
end Go.Proofs.YtanhnhkcpbdfmaaGreat
